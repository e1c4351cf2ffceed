/-
  Contracts of functions and laws of the layer over the walk.
-/
import Derived.Test.YtcpocmbgibafdaaHlC
import Derived.KernelRfl
import Derived.Sort.Grow
import Derived.Deep.Draws
import Derived.Below
import Derived.Defers
import Derived.Test.YtcpocmbgibafdaaHlB
namespace Go.Hl
set_option linter.unusedVariables false
set_option linter.unusedSimpArgs false
theorem map_int_inj : ∀ {a b : List Int}, a.map (HVal.int .i64) = b.map (HVal.int .i64) → a = b
  | [], [], _ => rfl
  | [], _ :: _, h => by simp at h
  | _ :: _, [], h => by simp at h
  | x :: a, y :: b, h => by
    simp only [List.map_cons, List.cons.injEq, HVal.int.injEq, true_and] at h
    rw [h.1, map_int_inj h.2]
theorem mapH_inj : ∀ {a b : KMap}, mapH a = mapH b → a = b
  | [], [], _ => rfl
  | [], _ :: _, h => by simp [mapH] at h
  | _ :: _, [], h => by simp [mapH] at h
  | (k, x) :: a, (k', y) :: b, h => by
    simp only [mapH, List.map_cons, List.cons.injEq, Prod.mk.injEq, keyH, HVal.agg.injEq] at h
    rw [map_int_inj h.1.1, h.1.2, mapH_inj (show mapH a = mapH b from h.2)]

def lkF (P : Program) (d : Option TyD) (m k : HVal) (ok : Bool) (h : Heap) (K : HVal → Prop) (_ : Tag K) : Prop := stepLk P d m k ok h K
def muF (P : Program) (d : Option TyD) (m k v : HVal) (h : Heap) (K : Heap → Prop) (_ : Tag K) : Prop := stepMu P d m k v h K
def meF (P : Program) (d : Option TyD) (m k : HVal) (h : Heap) (K : HVal → Heap → Prop) (_ : Tag K) : Prop := stepMe P d m k h K
def esF (m s v : HVal) (h : Heap) (K : Heap → Prop) (_ : Tag K) : Prop := stepEs m s v h K
def mkI (d : Option TyD) (v : HVal) (K : HVal → Prop) (_ : Tag K) : Prop := match d with
  | some (.ptr _) => K v
  | some (.st _) => K v
  | _ => False
def asF (d : Option TyD) (t : TypeId) (v : HVal) (K : HVal → Prop) (_ : Tag K) : Prop := match d, v with
  | some (.st _), .iface t' v => t' = t ∧ K v
  | _, _ => False
def invF (P : Program) (x : HVal) (name : String) (args : List HVal) (h : Heap) (K : HVal → Heap → Prop) (_ : Tag K) : Prop := stepInv P x name args h K
def inwF (P : Program) (d : Option TyD) (q : Option (FuncId × Bool)) (v : HVal) (args : List HVal) (h : Heap) (K : HVal → Heap → Prop) (_ : Tag K) : Prop := match d, q with
    | some (.ptr e), some (f, true) => HFn P f (v :: args) h K
    | some (.ptr e), some (f, false) => (match tyR P e, v with
      | some r, .op n sz i off => (match h n with
        | some (.row sz' es) => sz' = sz ∧ (match es[i]? with
          | some c => (match ldOwn r c off with
            | some y => HFn P f (y :: args) h K
            | none => False)
          | none => False)
        | _ => False)
      | _, _ => False)
    | _, _ => False
section
variable (P : Program) (ib : List Nat) (d : Option Tmp) (ρ : Operand → HVal) (h : Heap) (K : HVal → Heap → Prop) (L : HVal → Prop)
@[go_sem] theorem sf_mm (ty : TypeId) (t : Tag (Op.makeMap ty none, K)) : stepF P ib d (.makeMap ty none) ρ h K t = ∀ n, h n = none → K (.mp n) (upd h n (.map 0 0 [])) := by rw [stepF_gen rfl]; rfl
@[go_sem] theorem sf_ins (ty : TypeId) (m k x : Operand) (t : Tag (Op.insert ty m k x, K)) : stepF P ib d (.insert ty m k x) ρ h K t = muF P (dOf P ty) (ρ m) (ρ k) (ρ x) h (fun h' => K .any h') () := by rw [stepF_gen rfl]; rfl
@[go_sem] theorem sf_mu (ty : TypeId) (m k x : Operand) (t : Tag (Op.mapUpdate ty m k x, K)) : stepF P ib d (.mapUpdate ty m k x) ρ h K t = muF P (dOf P ty) (ρ m) (ρ k) (ρ x) h (fun h' => K .any h') () := by rw [stepF_gen rfl]; rfl
@[go_sem] theorem sf_me (ty : TypeId) (m k : Operand) (t : Tag (Op.mapEntry ty m k, K)) : stepF P ib d (.mapEntry ty m k) ρ h K t = meF P (dOf P ty) (ρ m) (ρ k) h K () := by rw [stepF_gen rfl]; rfl
@[go_sem] theorem sf_es (ty : TypeId) (m s x : Operand) (t : Tag (Op.entryStore ty m s x, K)) : stepF P ib d (.entryStore ty m s x) ρ h K t = esF (ρ m) (ρ s) (ρ x) h (fun h' => K .any h') () := by rw [stepF_gen rfl]; rfl
@[go_sem] theorem sf_lk (ty : TypeId) (m k : Operand) (ok : Bool) (t : Tag (Op.lookup ty m k ok, K)) : stepF P ib d (.lookup ty m k ok) ρ h K t = lkF P (dOf P ty) (ρ m) (ρ k) ok h (fun v => K v h) () := by rw [stepF_gen rfl]; rfl
@[go_sem] theorem sf_mi (ty : TypeId) (x : Operand) (t : Tag (Op.makeInterface ty x, K)) : stepF P ib d (.makeInterface ty x) ρ h K t = mkI (dOf P ty) (.iface ty (ρ x)) (fun v => K v h) () := by
  rw [stepF_gen rfl]
  simp only [step, stepX, mkI, dX, dOf]
  rfl
@[go_sem] theorem sf_ta (x : Operand) (xt ty : TypeId) (t : Tag (Op.typeAssert x xt ty false, K)) : stepF P ib d (.typeAssert x xt ty false) ρ h K t = asF (dOf P ty) ty (ρ x) (fun v => K v h) () := by
  rw [stepF_gen rfl]
  simp only [step, stepX, asF, dX, dOf]
  rfl
@[go_sem] theorem sf_inv (r : Operand) (name : String) (as : Array Operand) (ats : Array TypeId) (t : Tag (Op.call ⟨.invoke r name, as, ats⟩, K)) : stepF P ib d (.call ⟨.invoke r name, as, ats⟩) ρ h K t = invF P (ρ r) name (as.toList.map ρ) h K () := by rw [stepF_gen rfl]; rfl
@[go_sem] theorem invF_eq (ti : TypeId) (v : HVal) (name : String) (args : List HVal) (t : Tag K) : invF P (.iface ti v) name args h K t = inwF P (dOf P ti) (mRow P ti name) v args h K () := rfl
@[go_sem] theorem inwF_t (e : TypeId) (f : FuncId) (v : HVal) (args : List HVal) (t : Tag K) : inwF P (some (.ptr e)) (some (f, true)) v args h K t = HFnF P f (v :: args) h K () := rfl
@[go_sem] theorem inwF_f (e : TypeId) (f : FuncId) (n sz i off : Nat) (args : List HVal) (t : Tag K) : inwF P (some (.ptr e)) (some (f, false)) (.op n sz i off) args h K t = ldF (tyR P e) (.op n sz i off) h (fun y => HFnF P f (y :: args) h K ()) () := by
  simp only [inwF, ldF, stepLd, HFnF]
  cases tyR P e <;> rfl
@[go_sem] theorem mkI_ptr (e : TypeId) (v : HVal) (t : Tag L) : mkI (some (.ptr e)) v L t = L v := rfl
@[go_sem] theorem mkI_st (fs : List (Nat × TypeId × Nat)) (v : HVal) (t : Tag L) : mkI (some (.st fs)) v L t = L v := rfl
@[go_sem] theorem asF_st (fs : List (Nat × TypeId × Nat)) (ty ti : TypeId) (v : HVal) (t : Tag L) : asF (some (.st fs)) ty (.iface ti v) L t = (ti = ty ∧ L v) := rfl
def mapF (o : Option HObj) (K : KMap → Prop) (_ : Tag K) : Prop := ∃ a b mm, o = some (.map a b (mapH mm)) ∧ K mm
@[go_sem] theorem mapF_map (a b : TypeId) (mm : KMap) (M : KMap → Prop) (t : Tag M) : mapF (some (.map a b (mapH mm))) M t = M mm := by
  apply propext
  constructor
  · rintro ⟨a', b', mm', e, hm⟩
    simp only [Option.some.injEq, HObj.map.injEq] at e
    rw [mapH_inj e.2.2]; exact hm
  · exact fun hm => ⟨a, b, mm, rfl, hm⟩
@[go_sem] theorem mapF_nil (a b : TypeId) (M : KMap → Prop) (t : Tag M) : mapF (some (.map a b [])) M t = M [] := mapF_map a b [] M t
@[go_sem] theorem lkF_eq (kt et : TypeId) (n : Nat) (x y z : Int) (ok : Bool) (t : Tag L) : lkF P (some (.map kt et)) (.mp n) (.agg [.int .i64 x, .int .i64 y, .int .i64 z]) ok h L t =
    mapF (h n) (fun mm => keysLen 3 mm ∧ KeyTy P kt 3 ∧ int0 P et = true ∧ L (lkR ok (mget [x, y, z] mm))) () := by
  unfold lkF stepLk mapF
  apply propext
  simp only
  constructor
  · intro hs
    split at hs
    · rename_i a b l hn
      obtain ⟨ks, mm, e, rfl, h1⟩ := hs
      have : ks = [x, y, z] := (map_int_inj (a := [x, y, z]) e).symm
      subst this
      exact ⟨a, b, mm, hn, h1⟩
    · exact hs.elim
  · rintro ⟨a, b, mm, hn, h1⟩
    rw [hn]
    exact ⟨[x, y, z], mm, rfl, rfl, h1⟩
@[go_sem] theorem muF_eq (kt et : TypeId) (n : Nat) (x y z : Int) (v : HVal) (M : Heap → Prop) (t : Tag M) : muF P (some (.map kt et)) (.mp n) (.agg [.int .i64 x, .int .i64 y, .int .i64 z]) v h M t =
    mapF (h n) (fun mm => keysLen 3 mm ∧ KeyTy P kt 3 ∧ M (upd h n (.map 0 0 (mapH (mput [x, y, z] v mm))))) () := by
  unfold muF stepMu mapF
  apply propext
  simp only
  constructor
  · intro hs
    split at hs
    · rename_i a b l hn
      obtain ⟨ks, mm, e, rfl, h1⟩ := hs
      have : ks = [x, y, z] := (map_int_inj (a := [x, y, z]) e).symm
      subst this
      exact ⟨a, b, mm, hn, h1⟩
    · exact hs.elim
  · rintro ⟨a, b, mm, hn, h1⟩
    rw [hn]
    exact ⟨[x, y, z], mm, rfl, rfl, h1⟩
@[go_sem] theorem meF_eq (kt et : TypeId) (n : Nat) (x y z : Int) (t : Tag K) : meF P (some (.map kt et)) (.mp n) (.agg [.int .i64 x, .int .i64 y, .int .i64 z]) h K t =
    mapF (h n) (fun mm => keysLen 3 mm ∧ KeyTy P kt 3 ∧ int0 P et = true ∧ K (.tup [meR [x, y, z] mm, .int .i64 (midx [x, y, z] mm : Nat)]) (upd h n (.map 0 0 (mapH (mput [x, y, z] (meR [x, y, z] mm) mm))))) () := by
  unfold meF stepMe mapF
  apply propext
  simp only
  constructor
  · intro hs
    split at hs
    · rename_i a b l hn
      obtain ⟨ks, mm, e, rfl, h1⟩ := hs
      have : ks = [x, y, z] := (map_int_inj (a := [x, y, z]) e).symm
      subst this
      exact ⟨a, b, mm, hn, h1⟩
    · exact hs.elim
  · rintro ⟨a, b, mm, hn, h1⟩
    rw [hn]
    exact ⟨[x, y, z], mm, rfl, rfl, h1⟩
@[go_sem] theorem esF_eq (n j : Nat) (v : HVal) (M : Heap → Prop) (t : Tag M) : esF (.mp n) (.int .i64 (j : Nat)) v h M t =
    mapF (h n) (fun mm => j < mm.length ∧ M (upd h n (.map 0 0 (mapH (mset j v mm))))) () := by
  unfold esF stepEs mapF
  apply propext
  simp only
  constructor
  · intro hs
    split at hs
    · rename_i a b l hn
      obtain ⟨i, mm, e, rfl, h1⟩ := hs
      have : i = j := by injection e with _ e; omega
      subst this
      exact ⟨a, b, mm, hn, h1⟩
    · exact hs.elim
  · rintro ⟨a, b, mm, hn, h1⟩
    rw [hn]
    exact ⟨j, mm, rfl, rfl, h1⟩
@[go_sem] theorem lkR_tt (x : HVal) : lkR true (some x) = .tup [x, .bool true] := rfl
@[go_sem] theorem lkR_tf : lkR true none = .tup [.int .i64 0, .bool false] := rfl
@[go_sem] theorem lkR_ft (x : HVal) : lkR false (some x) = x := rfl
@[go_sem] theorem lkR_ff : lkR false none = .int .i64 0 := rfl
@[go_sem] theorem isLdOp_mi (x : TypeId) (a : Operand) : isLdOp (.makeInterface x a) = false := rfl
@[go_sem] theorem isLdOp_ta (a : Operand) (x y : TypeId) (b : Bool) : isLdOp (.typeAssert a x y b) = false := rfl
end
end Go.Hl

/-
  Own values: slices that own their rows, and the slices in their cells that own theirs. They are sealed all at once, and can be lent out for a call.
-/
namespace Go.Hl
set_option linter.unusedVariables false
set_option linter.unusedSimpArgs false

/-- An own value: one that owns nothing, or a slice with the named row that it owns. -/
inductive OV where
  | v (x : HVal)
  | nil (sz : Nat)
  | sl (n sz : Nat) (es : List (List OV))

def OV.val : OV → HVal
  | .v x => x
  | .nil sz => .sl sz [] true
  | .sl n sz es => .os n sz 0 es.length

mutual
/-- What it reads as when nobody writes it any more. -/
def OV.dat : OV → HVal
  | .v x => x
  | .nil sz => .sl sz [] false
  | .sl n sz es => .sl sz (OV.datRows es) false
def OV.datRows : List (List OV) → List (List HVal)
  | [] => []
  | e :: es => OV.datRow e :: OV.datRows es
def OV.datRow : List OV → List HVal
  | [] => []
  | x :: e => x.dat :: OV.datRow e
end
theorem OV.datRow_map : ∀ (e : List OV), OV.datRow e = e.map OV.dat
  | [] => rfl
  | x :: e => by rw [OV.datRow, OV.datRow_map e]; rfl
theorem OV.datRows_map : ∀ (es : List (List OV)), OV.datRows es = es.map (List.map OV.dat)
  | [] => rfl
  | e :: es => by rw [OV.datRows, OV.datRows_map es, OV.datRow_map]; rfl

/-- The cells of an own slice's row. -/
def OV.cells (es : List (List OV)) : List (List Cell) := es.map (List.map fun c => Cell.v c.val)

mutual
/-- The named rows that it owns. -/
def OV.rows : OV → List (Nat × HObj)
  | .v _ => []
  | .nil _ => []
  | .sl n sz es => (n, .row sz (OV.cells es)) :: OV.rowsRows es
def OV.rowsRows : List (List OV) → List (Nat × HObj)
  | [] => []
  | e :: es => OV.rowsRow e ++ OV.rowsRows es
def OV.rowsRow : List OV → List (Nat × HObj)
  | [] => []
  | x :: e => x.rows ++ OV.rowsRow e
end
/-- The rows are there. -/
def Owns (h : Heap) (l : List (Nat × HObj)) : Prop := ∀ p ∈ l, h p.1 = some p.2

/-- Some names given up. -/
def goneL (h : Heap) (S : List Nat) : Heap := fun m => if m ∈ S then (h m).map fun _ => .gone else h m

theorem goneL_mem {h : Heap} {S : List Nat} {m : Nat} {o : HObj} (hm : m ∈ S) (ho : goneL h S m = some o) : o = .gone := by
  simp only [goneL, if_pos hm, Option.map_eq_some_iff] at ho
  obtain ⟨_, _, rfl⟩ := ho; rfl
theorem goneL_not {h : Heap} {S : List Nat} {m : Nat} (hm : m ∉ S) : goneL h S m = h m := by simp only [goneL, if_neg hm]

theorem imm_goneL {E : Env} {h : Heap} {w : World} (S : List Nat) (b : Nat) (i : Imm E h w b) : Imm E (goneL h S) w b :=
  ⟨i.1, fun m o hm ho => by
    by_cases e : m ∈ S
    · rw [goneL_mem e hm] at ho; exact ho.elim
    · rw [goneL_not e] at hm; exact i.2 m o hm ho⟩
theorem imm_of_goneL {E : Env} {h : Heap} {w : World} (R : Rel E h w) {S : List Nat} {n : Nat} (hS : n ∈ S) {x : HObj} (hn : h n = some x) (hx : x.live) (b : Nat) (hb : E.fp n b) : Imm E (goneL h S) w b :=
  ⟨R.lt n x b hn hx hb, fun m o hm ho hf => by
    by_cases e : m ∈ S
    · rw [goneL_mem e hm] at ho; exact ho.elim
    · rw [goneL_not e] at hm
      have := R.apart m o n x b hm ho hn hx hf hb
      exact e (this ▸ hS)⟩
mutual
theorem Rep.unown {E : Env} {h : Heap} {w : World} (R : Rel E h w) {S : List Nat} : ∀ (x : OV), Owns h x.rows → (∀ p ∈ x.rows, p.1 ∈ S) → ∀ v, Rep E h w x.val v → Rep E (Hl.goneL h S) w x.dat v
  | .v x, _, _, v, r => Rep.imm (fun b => imm_goneL S b) r
  | .nil sz, _, _, v, r => Sub.loose sz [] true _ _ _ _ (Rep.imm (fun b => imm_goneL S b) (show Rep E h w (.sl sz [] true) v from r))
  | .sl n sz es, ho, hS, v, r => by
    have hn : h n = some (.row sz (OV.cells es)) := ho (n, _) (by rw [OV.rows]; exact List.mem_cons_self)
    have hnS : n ∈ S := hS (n, _) (by rw [OV.rows]; exact List.mem_cons_self)
    simp only [OV.val] at r
    simp only [OV.dat]
    have hcells : ∀ i j y, at2 (OV.cells es) i j = some y → ∃ c, at2 es i j = some c ∧ y = .v c.val := by
      intro i j y hy
      rw [OV.cells, at2_map] at hy
      obtain ⟨c, hc, rfl⟩ := Option.map_eq_some_iff.1 hy
      exact ⟨c, hc, rfl⟩
    have hdat : ∀ i j y, at2 (OV.datRows es) i j = some y → ∃ c, at2 es i j = some c ∧ y = c.dat := by
      intro i j y hy
      rw [OV.datRows_map, at2_map] at hy
      obtain ⟨c, hc, rfl⟩ := Option.map_eq_some_iff.1 hy
      exact ⟨c, hc, rfl⟩
    have hlen : (OV.datRows es).length = es.length := by rw [OV.datRows_map, List.length_map]
    have key : ∀ L, L = es.length → Rep E h w (.os n sz 0 L) v → Rep E (Hl.goneL h S) w (.sl sz (OV.datRows es) false) v := by
      intro L hL r
      cases r with
      | os0 _ _ hd hl =>
        have : es = [] := List.eq_nil_of_length_eq_zero hL.symm
        subst this
        exact .sl0 sz false none 0 (fun _ => rfl) (by simp [maxLen]) trivial
      | os _ _ _ _ b o cap t m hd hl hlc hmax hsh hm =>
        obtain ⟨b', o', hl', hbS, hs, cs, ct, cv, T, hh, hm', hT, hD, hc, hrr⟩ := row_of R hn (.inr ⟨_, hl⟩)
        rw [hl] at hl'
        obtain ⟨rfl, rfl⟩ := Prod.mk.inj (Option.some.inj hl')
        have himm : ∀ c, E.fp n c → Imm E (Hl.goneL h S) w c := fun c hc => imm_of_goneL R hnS hn trivial c hc
        have hcs : ∀ i j y, at2 (OV.datRows es) i j = some y → ∃ c, at2 es i j = some c ∧ y = c.dat ∧ cs[o + i * sz + j]? = some (cv i j) ∧ (cv i j).oneCell' = true ∧ Rep E h w c.val (cv i j) := by
          intro i j y hy
          obtain ⟨c, hc1, rfl⟩ := hdat i j y hy
          have hcell : at2 (OV.cells es) i j = some (.v c.val) := by rw [OV.cells, at2_map, hc1]; rfl
          have h2 := hrr i j _ hcell
          cases h2 with
          | v x c' S' h1 hx => exact ⟨c, hc1, rfl, hc i j _ hcell, h1, hx⟩
        have := Rep.sl (E := E) (h := Hl.goneL h S) (w := w) sz (OV.datRows es) false b (o + 0 * sz) cap cv (himm b hbS) (by rw [hlen, ← hL]; exact hlc) hmax (fun e => by simp at e)
          (fun e he => by
            rw [OV.datRows_map, List.mem_map] at he
            obtain ⟨e', he', rfl⟩ := he
            have := hs (e'.map fun c => Cell.v c.val) (List.mem_map.2 ⟨e', he', rfl⟩)
            simpa using this)
          (fun i j y hy => by
            obtain ⟨c, _, _, h1, _, _⟩ := hcs i j y hy
            simp only [World.cell?, hh]
            rw [← h1]
            simp)
          (fun i j y hy => by obtain ⟨c, _, _, _, h1, _⟩ := hcs i j y hy; exact h1)
          (fun i j y hy => by
            obtain ⟨c, hc1, rfl, _, _, h1⟩ := hcs i j y hy
            obtain ⟨e, he, hj⟩ := at2_some hc1
            exact unownRows R es (fun p hp => ho p (by rw [OV.rows]; exact List.mem_cons_of_mem _ hp)) (fun p hp => hS p (by rw [OV.rows]; exact List.mem_cons_of_mem _ hp)) e (List.mem_of_getElem? he) c (List.mem_of_getElem? hj) _ h1)
        rw [hlen, ← hL] at this
        exact this
    exact key _ rfl r
theorem unownRows {E : Env} {h : Heap} {w : World} (R : Rel E h w) {S : List Nat} : ∀ (es : List (List OV)), Owns h (OV.rowsRows es) → (∀ p ∈ OV.rowsRows es, p.1 ∈ S) → ∀ e ∈ es, ∀ c ∈ e, ∀ v, Rep E h w c.val v → Rep E (Hl.goneL h S) w c.dat v
  | [], _, _, e, he, _, _, _, _ => by simp at he
  | a :: es, ho, hS, e, he, c, hc, v, r => by
    rcases List.mem_cons.1 he with h1 | h1
    · rw [h1] at hc
      exact unownRow R a (fun p hp => ho p (by rw [OV.rowsRows]; exact List.mem_append_left _ hp)) (fun p hp => hS p (by rw [OV.rowsRows]; exact List.mem_append_left _ hp)) c hc v r
    · exact unownRows R es (fun p hp => ho p (by rw [OV.rowsRows]; exact List.mem_append_right _ hp)) (fun p hp => hS p (by rw [OV.rowsRows]; exact List.mem_append_right _ hp)) e h1 c hc v r
theorem unownRow {E : Env} {h : Heap} {w : World} (R : Rel E h w) {S : List Nat} : ∀ (e : List OV), Owns h (OV.rowsRow e) → (∀ p ∈ OV.rowsRow e, p.1 ∈ S) → ∀ c ∈ e, ∀ v, Rep E h w c.val v → Rep E (Hl.goneL h S) w c.dat v
  | [], _, _, c, hc, _, _ => by simp at hc
  | a :: e, ho, hS, c, hc, v, r => by
    rcases List.mem_cons.1 hc with h1 | h1
    · rw [h1] at r ⊢
      exact Rep.unown R a (fun p hp => ho p (by rw [OV.rowsRow]; exact List.mem_append_left _ hp)) (fun p hp => hS p (by rw [OV.rowsRow]; exact List.mem_append_left _ hp)) v r
    · exact unownRow R e (fun p hp => ho p (by rw [OV.rowsRow]; exact List.mem_append_right _ hp)) (fun p hp => hS p (by rw [OV.rowsRow]; exact List.mem_append_right _ hp)) c h1 v r
end

/-! ### lending -/
/-! ### what an own value stands for -/
def OR {α : Type} (R : α → List OV → Prop) : List α → List (List OV) → Prop
  | [], [] => True
  | x :: l, e :: es => R x e ∧ OR R l es
  | _, _ => False
theorem OR.length {α : Type} {R : α → List OV → Prop} : ∀ {l : List α} {es : List (List OV)}, OR R l es → l.length = es.length
  | [], [], _ => rfl
  | x :: l, e :: es, h => by simpa using OR.length h.2
  | [], _ :: _, h => h.elim
  | _ :: _, [], h => h.elim
theorem OR.get {α : Type} {R : α → List OV → Prop} : ∀ {l : List α} {es : List (List OV)}, OR R l es → ∀ (i : Nat) x e, l[i]? = some x → es[i]? = some e → R x e
  | x :: l, e :: es, h, 0, y, d, hy, hd => by simp at hy hd; subst hy; subst hd; exact h.1
  | x :: l, e :: es, h, i + 1, y, d, hy, hd => OR.get h.2 i y d (by simpa using hy) (by simpa using hd)
  | [], [], _, i, y, d, hy, _ => by simp at hy
  | [], _ :: _, h, _, _, _, _, _ => h.elim
  | _ :: _, [], h, _, _, _, _, _ => h.elim
def namesOf (l : List (Nat × HObj)) : List Nat := l.map (·.1)
/-- Other names are as they were. -/
def Upto (S : List Nat) (h h' : Heap) : Prop := ∀ m, m ∉ S → h' m = h m
end Go.Hl

/-
  The row's end for laws whose contract starts where no row has a name.
-/
namespace Go.Hl
open Go.ChangeShapes Go.WideShapes
set_option linter.unusedVariables false
set_option linter.unusedSimpArgs false
end Go.Hl

/-
  New own values behind a call.
-/
namespace Go.Hl
set_option linter.unusedVariables false
set_option linter.unusedSimpArgs false

theorem namesOf_append (a b : List (Nat × HObj)) : namesOf (a ++ b) = namesOf a ++ namesOf b := List.map_append
theorem mem_namesOf {l : List (Nat × HObj)} {m : Nat} : m ∈ namesOf l ↔ ∃ o, (m, o) ∈ l := by
  simp [namesOf]

/-- Rows that were not there: their names differ, nobody had them, and nothing else has changed. -/
structure New (h : Heap) (l : List (Nat × HObj)) (h' : Heap) : Prop where
  nodup : (namesOf l).Nodup
  fresh : ∀ m ∈ namesOf l, h m = none
  owns : Owns h' l
  upto : Upto (namesOf l) h h'

/-- One row is rewritten. -/
theorem New.set {h h' : Heap} {n : Nat} {o o' : HObj} {l : List (Nat × HObj)} (x : New h ((n, o) :: l) h') : New h ((n, o') :: l) (upd h' n o') := by
  have hnd := x.nodup
  have hn : n ∉ namesOf l := by
    have : (namesOf ((n, o) :: l)).Nodup := hnd
    simp only [namesOf, List.map_cons, List.nodup_cons] at this
    exact this.1
  refine ⟨hnd, x.fresh, ?_, fun m hm => ?_⟩
  · intro p hp
    rcases List.mem_cons.1 hp with rfl | hp
    · exact upd_same _ _ _
    · have : p.1 ≠ n := fun e => hn (e ▸ mem_namesOf.2 ⟨p.2, hp⟩)
      rw [upd_ne _ _ _ _ this]; exact x.owns p (List.mem_cons_of_mem _ hp)
  · have : m ≠ n := fun e => hm (by subst e; simp [namesOf])
    rw [upd_ne _ _ _ _ this]; exact x.upto m hm
/-- Rows that are forgotten. -/
def dropN (h : Heap) (S : List Nat) : Heap := fun m => if m ∈ S then none else h m
/-- .. new ones, of which some are forgotten. -/
theorem New.drop {h h' : Heap} {a b : List (Nat × HObj)} (x : New h (a ++ b) h') : New h b (dropN h' (namesOf a)) := by
  have hnd := x.nodup
  rw [namesOf_append] at hnd
  obtain ⟨_, nb, dis⟩ := List.nodup_append.1 hnd
  refine ⟨nb, fun m hm => x.fresh m (by rw [namesOf_append]; exact List.mem_append_right _ hm), fun p hp => ?_, fun m hm => ?_⟩
  · have : p.1 ∉ namesOf a := fun q => dis _ q _ (mem_namesOf.2 ⟨p.2, hp⟩) rfl
    simp only [dropN, if_neg this]
    exact x.owns p (List.mem_append_right _ hp)
  · by_cases e : m ∈ namesOf a
    · simp only [dropN, if_pos e]
      exact (x.fresh m (by rw [namesOf_append]; exact List.mem_append_left _ e)).symm
    · simp only [dropN, if_neg e]
      exact x.upto m (by rw [namesOf_append]; simp [e, hm])

end Go.Hl

/-
  New own values, and rows that are thrown away.
-/
namespace Go.Hl
set_option linter.unusedVariables false
set_option linter.unusedSimpArgs false

/-- Rows that were not there (l), and others that were not there and don't matter (T). -/
structure NewT (h : Heap) (T : List Nat) (l : List (Nat × HObj)) (h' : Heap) : Prop where
  nodup : (T ++ namesOf l).Nodup
  fresh : ∀ m ∈ T ++ namesOf l, h m = none
  there : ∀ m ∈ T, h' m ≠ none
  owns : Owns h' l
  upto : Upto (T ++ namesOf l) h h'

theorem NewT.drop {h h' : Heap} {T : List Nat} {l : List (Nat × HObj)} (x : NewT h T l h') : New h l (dropN h' T) := by
  obtain ⟨_, nb, dis⟩ := List.nodup_append.1 x.nodup
  refine ⟨nb, fun m hm => x.fresh m (List.mem_append_right _ hm), fun p hp => ?_, fun m hm => ?_⟩
  · have : p.1 ∉ T := fun q => dis _ q _ (mem_namesOf.2 ⟨p.2, hp⟩) rfl
    simp only [dropN, if_neg this]
    exact x.owns p hp
  · by_cases e : m ∈ T
    · simp only [dropN, if_pos e]
      exact (x.fresh m (List.mem_append_left _ e)).symm
    · simp only [dropN, if_neg e]
      exact x.upto m (by simp [e, hm])
/-- What a row reads as behind a call that brings new rows. -/
theorem New.keep {h h' : Heap} {l : List (Nat × HObj)} (x : New h l h') {n : Nat} {o : HObj} (hn : h n = some o) : h' n = some o := by
  rw [x.upto n fun q => by rw [x.fresh n q] at hn; cases hn]; exact hn
/-- The first row is written anew. -/
theorem NewT.set {h h' : Heap} {T : List Nat} {n : Nat} {o o' : HObj} {l : List (Nat × HObj)} (x : NewT h T ((n, o) :: l) h') : NewT h T ((n, o') :: l) (upd h' n o') := by
  have nd := List.nodup_append.1 x.nodup
  have nd2 : (n :: namesOf l).Nodup := nd.2.1
  refine ⟨x.nodup, x.fresh, fun m hm => ?_, fun p hp => ?_, fun m hm => ?_⟩
  · by_cases e : m = n
    · subst e; simp
    · rw [upd_ne _ _ _ _ e]; exact x.there m hm
  · rcases List.mem_cons.1 hp with rfl | hp
    · exact upd_same _ _ _
    · have : p.1 ≠ n := fun e => (List.nodup_cons.1 nd2).1 (e ▸ mem_namesOf.2 ⟨p.2, hp⟩)
      rw [upd_ne _ _ _ _ this]; exact x.owns p (List.mem_cons_of_mem _ hp)
  · have h1 : m ≠ n := fun e => hm (e ▸ List.mem_append_right _ (by simp [namesOf]))
    rw [upd_ne _ _ _ _ h1]; exact x.upto m hm
end Go.Hl

/-
  Own results: contracts, calls under temporary rows, and calls that view all own rows as memory that nobody writes.
-/
namespace Go.Hl
set_option linter.unusedVariables false
set_option linter.unusedSimpArgs false

section
variable {P : Program} {f : FuncId} {args : List HVal} {Q : HVal → List (Nat × HObj) → Prop} {K : HVal → Heap → Prop} {t : Tag K}
end

/-! ### all own rows as memory that nobody writes, for the time of a call -/
def goneA (h : Heap) : Heap := fun m => (h m).map fun _ => .gone
theorem goneA_live {h : Heap} {m : Nat} {o : HObj} (ho : goneA h m = some o) : o = .gone := by
  simp only [goneA, Option.map_eq_some_iff] at ho
  obtain ⟨_, _, rfl⟩ := ho; rfl
theorem imm_goneA {E : Env} {h : Heap} {w : World} {b : Nat} (hb : b < w.heap.size) : Imm E (goneA h) w b := ⟨hb, fun m o hm ho => by rw [goneA_live hm] at ho; exact ho.elim⟩
/-- What a value reads as when all own rows are left alone. -/
def View (h : Heap) (x x' : HVal) : Prop := ∀ E w v, Rel E h w → Rep E h w x v → Rep E (goneA h) w x' v
theorem imm_goneLA {E : Env} {h : Heap} {w : World} {S : List Nat} : ∀ b, Imm E (Hl.goneL h S) w b → Imm E (goneA h) w b := fun b i => imm_goneA i.1
/-- A pointer into an own row. -/
theorem View.op {h : Heap} {n sz i off : Nat} (es : List (List OV)) (hn : h n = some (.row sz (OV.cells es))) (hne : es ≠ []) (ho : Owns h (OV.rowsRows es)) : View h (.op n sz i off) (.ip sz (OV.datRows es) i off) := by
  intro E w v R r
  cases v <;> try (cases r; done)
  cases r with
  | op _ _ _ _ b o hd hl =>
    obtain ⟨b', o', hl', hbS, hs, cs, ct, cv, T, hh, hm', hT, hD, hc, hrr⟩ := row_of R hn (.inr ⟨_, hl⟩)
    rw [hl] at hl'
    obtain ⟨rfl, rfl⟩ := Prod.mk.inj (Option.some.inj hl')
    have hcs : ∀ i j y, at2 (OV.datRows es) i j = some y → ∃ c, at2 es i j = some c ∧ y = c.dat ∧ cs[o + i * sz + j]? = some (cv i j) ∧ (cv i j).oneCell' = true ∧ Rep E h w c.val (cv i j) := by
      intro i j y hy
      rw [OV.datRows_map, at2_map] at hy
      obtain ⟨c, hc1, rfl⟩ := Option.map_eq_some_iff.1 hy
      have hcell : at2 (OV.cells es) i j = some (.v c.val) := by rw [OV.cells, at2_map, hc1]; rfl
      have h2 := hrr i j _ hcell
      generalize hcv : cv i j = z at h2
      cases h2 with
      | v x c' S' h1 hx => exact ⟨c, hc1, rfl, hcv ▸ hc i j _ hcell, h1, hx⟩
    refine .ip sz (OV.datRows es) i off b o cv (imm_goneA (R.lt n _ b hn trivial hbS)) ?_ ?_ ?_ ?_
    · intro e he
      rw [OV.datRows_map, List.mem_map] at he
      obtain ⟨e', he', rfl⟩ := he
      have := hs (e'.map fun c => Cell.v c.val) (List.mem_map.2 ⟨e', he', rfl⟩)
      simpa using this
    · intro i j y hy
      obtain ⟨c, _, _, h1, _, _⟩ := hcs i j y hy
      simp only [World.cell?, hh]
      rw [← h1]
      simp
    · intro i j y hy; obtain ⟨c, _, _, _, h1, _⟩ := hcs i j y hy; exact h1
    · intro i j y hy
      obtain ⟨c, hc1, rfl, _, _, h1⟩ := hcs i j y hy
      obtain ⟨e, he, hj⟩ := at2_some hc1
      exact (unownRows R (S := namesOf (OV.rowsRows es)) es ho (fun p hp => mem_namesOf.2 ⟨p.2, hp⟩) e (List.mem_of_getElem? he) c (List.mem_of_getElem? hj) _ h1).imm imm_goneLA
section
variable {P : Program} {f : FuncId} {args args' : List HVal} {Q : HVal → List (Nat × HObj) → Prop} {K : HVal → Heap → Prop} {t : Tag K} {g : Heap}
end

/-! ### own values whose cells point nowhere else -/
end Go.Hl

/-
  What own results are: forms of contracts.
-/
namespace Go.Hl
set_option linter.unusedVariables false
set_option linter.unusedSimpArgs false
end Go.Hl

/-
  Own values whose leaves are numbered one after the other (what laws.mark* do).
-/
namespace Go.Hl
set_option linter.unusedVariables false
set_option linter.unusedSimpArgs false

/-- Some rows are rewritten; their names stay, and so does all else. -/
structure Chg (h h' : Heap) (l l' : List (Nat × HObj)) : Prop where
  names : namesOf l' = namesOf l
  owns : Owns h' l'
  upto : Upto (namesOf l) h h'
theorem Chg.trans {h h1 h2 : Heap} {a b c : List (Nat × HObj)} (x : Chg h h1 a b) (y : Chg h1 h2 b c) : Chg h h2 a c :=
  ⟨y.names.trans x.names, y.owns, fun m hm => (y.upto m (by rw [x.names]; exact hm)).trans (x.upto m hm)⟩
theorem Owns.left {h : Heap} {a b : List (Nat × HObj)} (o : Owns h (a ++ b)) : Owns h a := fun p hp => o p (List.mem_append_left _ hp)
theorem Chg.set {h : Heap} {n : Nat} {o o' : HObj} {l : List (Nat × HObj)} (ow : Owns h ((n, o) :: l)) (nd : (namesOf ((n, o) :: l)).Nodup) : Chg h (upd h n o') ((n, o) :: l) ((n, o') :: l) := by
  have hn : n ∉ namesOf l := (List.nodup_cons.1 (show (n :: namesOf l).Nodup from nd)).1
  refine ⟨rfl, fun p hp => ?_, fun m hm => ?_⟩
  · rcases List.mem_cons.1 hp with rfl | hp
    · exact upd_same _ _ _
    · have : p.1 ≠ n := fun e => hn (e ▸ mem_namesOf.2 ⟨p.2, hp⟩)
      rw [upd_ne _ _ _ _ this]; exact ow p (List.mem_cons_of_mem _ hp)
  · have : m ≠ n := fun e => hm (by rw [e]; exact List.mem_cons_self)
    exact upd_ne _ _ _ _ this
end Go.Hl

/-
  Calls under temporary rows, for some numbers of such rows.
-/
namespace Go.Hl
set_option linter.unusedVariables false
set_option linter.unusedSimpArgs false
theorem Owns.up {g : Heap} {l : List (Nat × HObj)} {n : Nat} {o : HObj} (ow : Owns g l) (hn : g n = none) : Owns (upd g n o) l := fun p hp => by
  have : p.1 ≠ n := fun e => by have := ow p hp; rw [e, hn] at this; cases this
  rw [upd_ne _ _ _ _ this]; exact ow p hp
end Go.Hl

/-
  Own results within tuples, and their sealed forms.
-/
namespace Go.Hl
set_option linter.unusedVariables false
set_option linter.unusedSimpArgs false
/-! ### a slice that grows from empty -/
/-- An own slice, or an empty one. -/
def oval (sz len : Nat) : Option Nat → HVal
  | none => .sl sz [] true
  | some n => .os n sz 0 len
def oheap (h : Heap) (o : HObj) : Option Nat → Heap
  | none => h
  | some n => upd h n o
theorem oval_none (sz len : Nat) : oval sz len none = .sl sz [] true := rfl
theorem oval_some (sz len n : Nat) : oval sz len (some n) = .os n sz 0 len := rfl
theorem oheap_none (h : Heap) (o : HObj) : oheap h o none = h := rfl
theorem oheap_some (h : Heap) (o : HObj) (n : Nat) : oheap h o (some n) = upd h n o := rfl
/-- Side conditions of a slice that grows. -/
def oside {α : Type} (h : Heap) (l : List α) : Option Nat → Prop
  | none => l = []
  | some n => h n = none
theorem oside_none {α : Type} (h : Heap) (l : List α) : oside h l none = (l = []) := rfl
theorem oside_some {α : Type} (h : Heap) (l : List α) (n : Nat) : oside h l (some n) = (h n = none) := rfl
end Go.Hl

/-
  Ends of walks that hand back own slices.
-/
namespace Go.Hl
set_option linter.unusedVariables false
set_option linter.unusedSimpArgs false
/-- An own slice, or nil. -/
def onil (sz len : Nat) : Option Nat → HVal
  | none => .nilsl
  | some n => .os n sz 0 len
theorem onil_none (sz len : Nat) : onil sz len none = .nilsl := rfl
theorem onil_some (sz len n : Nat) : onil sz len (some n) = .os n sz 0 len := rfl
theorem upd_swap {n m : Nat} {g : Heap} {x y : HObj} (h : ¬ n = m) : upd (upd g n x) m y = upd (upd g m y) n x := by
  funext q; simp only [upd_apply]; split <;> split <;> simp_all
/-! ### heaps that say less -/
def Heap.wk (g h : Heap) : Prop := ∀ E w, Rel E h w → Rel E g w ∧ ∀ b, Imm E h w b → Imm E g w b
theorem Heap.wk_of_le {g h : Heap} (hl : g.le h) : g.wk h := fun E w R => ⟨R.forget hl, fun b i => Imm.le hl i⟩
theorem Heap.wk.trans {a b c : Heap} (x : a.wk b) (y : b.wk c) : a.wk c := fun E w R =>
  ⟨(x E w (y E w R).1).1, fun d i => (x E w (y E w R).1).2 d ((y E w R).2 d i)⟩
theorem Heap.wk.ev {g h : Heap} (x : g.wk h) {E : Env} {w : World} (R : Rel E h w) : Ev E h w E g w :=
  ⟨Nat.le_refl _, fun b hb => ⟨rfl, (x E w R).2 b hb⟩, fun _ _ => rfl, fun _ hn => ⟨rfl, hn⟩, rfl, rfl⟩
/-- One cell says less. -/
def CellWk (x y : Cell) : Prop := ∀ E h w c S, CRep E h w x c S → CRep E h w y c S
/-- Rows whose cells say less. -/
def RowsWk : List (List Cell) → List (List Cell) → Prop
  | [], [] => True
  | a :: l, b :: m => (a.length = b.length ∧ ∀ (j : Nat) (x : Cell), b[j]? = some x → ∃ y, a[j]? = some y ∧ CellWk y x) ∧ RowsWk l m
  | _, _ => False
theorem RowsWk.length : ∀ {l m}, RowsWk l m → l.length = m.length
  | [], [], _ => rfl
  | a :: l, b :: m, h => by rw [List.length_cons, List.length_cons, RowsWk.length h.2]
  | [], _ :: _, h => h.elim
  | _ :: _, [], h => h.elim
theorem RowsWk.size {sz : Nat} : ∀ {l m}, RowsWk l m → (∀ e ∈ l, e.length = sz) → ∀ e ∈ m, e.length = sz
  | [], [], _, _ => by simp
  | a :: l, b :: m, h, hs => fun e he => by
    rcases List.mem_cons.1 he with rfl | he
    · rw [← h.1.1]; exact hs a List.mem_cons_self
    · exact RowsWk.size h.2 (fun e he => hs e (List.mem_cons_of_mem _ he)) e he
  | [], _ :: _, h, _ => h.elim
  | _ :: _, [], h, _ => h.elim
end Go.Hl

/-
  Structs whose slices change: own fields written, heaps that say less, several slices that grow at a time.
-/
namespace Go.Hl
set_option linter.unusedVariables false
set_option linter.unusedSimpArgs false
/-! ### four slices that grow together -/
abbrev Q4 := Option (Nat × Nat × Nat × Nat)
def q1 : Q4 → Option Nat | none => none | some x => some x.1
def q2 : Q4 → Option Nat | none => none | some x => some x.2.1
/-! ### ends of walks -/
/-! ### own slices in a struct: read and written -/
theorem rowSet {α : Type} (c : α → HVal) (l : List α) (k : Nat) (x : α) : ((l.map fun x => [c x]).map (List.map Cell.v)).set k [Cell.v (c x)] = ((l.set k x).map fun x => [c x]).map (List.map Cell.v) := by
  rw [List.map_map, List.map_map, List.map_set]; rfl
/-! ### loops that leave the rows, or write one -/
theorem loopSame {P : Program} {N : Nat} {keep ib : List Nat} {mk : Marks} {c : Code} {Q : Exit → Tmps → Heap → Prop} {τ : Tmps} {h : Heap} {t : Tag (Code.loop c, Q)} {α : Type} (hmix : P.follows .mixedOrders = true) (hc : codeOK N mk c = true) (S : α → Tmps) (side : α → Prop) (μ : α → Nat) (x₀ : α)
    (h₀ : SatL (S x₀) τ ∧ side x₀)
    (round : ∀ x, side x → hwpF P N keep ib mk c (fun τ' h' => ∃ x', SatL (S x') τ' ∧ h.le h' ∧ side x' ∧ μ x' < μ x) Q (S x) h ()) : HWpF P N (.loop c) Q τ h t :=
  loopF hmix hc S (fun _ => h) side μ x₀ ⟨h₀.1, Heap.le_refl _, h₀.2⟩ round
theorem upd_self {h : Heap} {n : Nat} {o : HObj} (hn : h n = some o) : upd h n o = h := by
  funext q; simp only [upd_apply]; split
  · subst_vars; exact hn.symm
  · rfl
theorem Heap.le_both {g h : Heap} {n : Nat} {o : HObj} (hl : g.le h) : (upd g n o).le (upd h n o) := fun q => by
  simp only [upd_apply]; split
  · exact .inr rfl
  · exact hl q
/-! ### methods that change an own struct in its box -/
/-- A pointer to an own struct in its box, lent out. -/
theorem View.box {T : List HVal} {g : Heap} {nb sz : Nat} {e : List OV} (hd : e.map OV.dat = T) (hn : g nb = none) (ho : Owns g (OV.rowsRow e)) : View (upd g nb (.row sz (OV.cells [e]))) (.op nb sz 0 0) (.ip sz [T] 0 0) := by
  have := View.op (h := upd g nb (.row sz (OV.cells [e]))) (n := nb) (sz := sz) (i := 0) (off := 0) [e] (by rw [upd_same]) (by simp) (by
    have h1 : OV.rowsRows [e] = OV.rowsRow e := by simp [OV.rowsRows]
    rw [h1]; exact ho.up hn)
  have h2 : OV.datRows [e] = [T] := by rw [OV.datRows_map]; simp [hd]
  rwa [h2] at this
/-! ### an element of an own slice of structs is replaced -/
theorem OR.set {α : Type} {R : α → List OV → Prop} : ∀ {l : List α} {es : List (List OV)}, OR R l es → ∀ (k : Nat) x e, R x e → OR R (l.set k x) (es.set k e)
  | [], [], _, k, x, e, _ => by simp [OR]
  | a :: l, b :: es, h, 0, x, e, he => ⟨he, h.2⟩
  | a :: l, b :: es, h, k + 1, x, e, he => ⟨h.1, OR.set h.2 k x e he⟩
  | [], _ :: _, h, _, _, _, _ => h.elim
  | _ :: _, [], h, _, _, _, _ => h.elim
/-! ### which heap says less, name by name -/
theorem Heap.le_none {g h : Heap} (hl : g.le h) {n : Nat} (hn : h n = none) : g n = none := by
  rcases hl n with e | e
  · exact e
  · rw [e, hn]
/-! ### a call, seen from a heap that says less -/
theorem HFn.wk {P : Program} {f : FuncId} {args : List HVal} {g h : Heap} {K : HVal → Heap → Prop} (hl : g.wk h) (a : HFn P f args g K) : HFn P f args h K :=
  ⟨a.1, fun E w vs R r => by
    obtain ⟨R', hi⟩ := hl E w R
    exact (a.2 E w vs R' (RepL.imm hi r)).mono fun e w' q => by
      cases e with
      | returned v =>
        obtain ⟨r, h', E', k, ev, R2, r2⟩ := q
        exact ⟨r, h', E', k, (hl.ev R).trans ev, R2, r2⟩
      | _ => exact q.elim⟩
theorem HFnF.wk {P : Program} {f : FuncId} {args : List HVal} {g h : Heap} {K : HVal → Heap → Prop} {t : Tag K} (hl : g.wk h) (a : HFnF P f args g K t) : HFnF P f args h K t := HFn.wk hl a
/-- .. and its result. -/
theorem HFn.shift {P : Program} {f : FuncId} {args : List HVal} {h : Heap} {K K' : HVal → Heap → Prop} (a : HFn P f args h K') (hk : ∀ r h', K' r h' → ∃ g : Heap, g.wk h' ∧ K r g) : HFn P f args h K :=
  ⟨a.1, fun E w vs R r => by
    exact (a.2 E w vs R r).mono fun e w' q => by
      cases e with
      | returned v =>
        obtain ⟨r, h', E', k, ev, R2, r2⟩ := q
        obtain ⟨g, hg, k'⟩ := hk r h' k
        obtain ⟨R3, hi⟩ := hg E' w' R2
        exact ⟨r, g, E', k', ev.trans (hg.ev R2), R3, Rep.imm hi r2⟩
      | _ => exact q.elim⟩
/-! ### a row of numbers that is filled from the left -/
theorem loopSA {P : Program} {N : Nat} (keep ib : List Nat) (mk : Marks) {c : Code} {Q : Exit → Tmps → Heap → Prop} {τ : Tmps} {h : Heap} {t : Tag (Code.loop c, Q)} {α : Type} (S : α → Tmps) (side : α → Prop) (μ : α → Nat) (x₀ : α) (h₀ : SatL (S x₀) τ ∧ side x₀) (round : ∀ x, side x → hwpF P N keep ib mk c (fun τ' h' => ∃ x', SatL (S x') τ' ∧ h.le h' ∧ side x' ∧ μ x' < μ x) Q (S x) h ()) (hmix : P.follows .mixedOrders = true := by exact mix) (hc : codeOK N mk c = true := by kernel_rfl) : HWpF P N (.loop c) Q τ h t :=
  loopSame (keep := keep) (ib := ib) (mk := mk) hmix hc S side μ x₀ h₀ round
/-- A general contract by the walk, where what is handed back may be seen in another way. -/
theorem fnKF {P : Program} {f : FuncId} {fn : Func} {c : Code} (N : Nat) (keep ib : List Nat) (mk : Marks) {args : List HVal} {h : Heap} {K : HVal → Heap → Prop} (hmix : P.follows .mixedOrders = true) (hf : P.funcs[f]? = some fn) (hb : fn.body = some c)
    (hck : (callable P f && decide (fn.ntmps = N) && codeOK N mk c) = true) (hl : args.length ≤ N)
    (hw : hwpF P N keep ib mk c (fun τ h' => postF P fn.results (fun r h' => ∃ r1 g, Shift r h' r1 g ∧ K r1 g) () .normal τ h') (postF P fn.results (fun r h' => ∃ r1 g, Shift r h' r1 g ∧ K r1 g) ()) (argsT 0 args) h ()) : HFn P f args h K :=
  fn_of_wp_shift (fn := fn) (c := c) (N := N) (fn_hwp N keep ib mk hmix hf hb hck hl (K' := fun r h' => ∃ r1 g, Shift r h' r1 g ∧ K r1 g) (K := fun r h' => ∃ r1 g, Shift r h' r1 g ∧ K r1 g) hw fun _ h' hx => ⟨h', Heap.le_refl _, hx⟩) fun r h' hx => hx
theorem fnKA {P : Program} {f : FuncId} {fn : Func} {c : Code} (N : Nat) (keep ib : List Nat) (mk : Marks) {args : List HVal} {h : Heap} {K : HVal → Heap → Prop} (hf : P.funcs[f]? = some fn) (hw : hwpF P N keep ib mk c (fun τ h' => postF P fn.results (fun r h' => ∃ r1 g, Shift r h' r1 g ∧ K r1 g) () .normal τ h') (postF P fn.results (fun r h' => ∃ r1 g, Shift r h' r1 g ∧ K r1 g) ()) (argsT 0 args) h ()) (hmix : P.follows .mixedOrders = true := by exact mix) (hb : fn.body = some c := by rfl) (hck : (callable P f && decide (fn.ntmps = N) && codeOK N mk c) = true := by kernel_rfl) (hl : args.length ≤ N := by simp) : HFn P f args h K :=
  fnKF N keep ib mk hmix hf hb hck hl hw
end Go.Hl

/-
  A part of an own row, as a row of its own.
-/
namespace Go.Hl
set_option linter.unusedVariables false
set_option linter.unusedSimpArgs false
end Go.Hl

/-
  Contracts of Go's library that the kit has proved, as contracts of this layer.
-/
namespace Go.Hl
set_option linter.unusedVariables false
set_option linter.unusedSimpArgs false
end Go.Hl

/-
  Contracts of the shelf that end in 'Below' at the heap's end.
-/
namespace Go.Hl
set_option linter.unusedVariables false
end Go.Hl

/-
  Own objects of which it is known what holds of them: changed under their own names.
-/
namespace Go.Hl
set_option linter.unusedVariables false
set_option linter.unusedSimpArgs false
end Go.Hl

/-
  A function that defers one closure which holds one of its boxes.
-/
namespace Go.Hl
set_option linter.unusedVariables false
set_option linter.unusedSimpArgs false
section
variable {P : Program} {fn : Func} {N : Nat} {K : HVal → Heap → Prop}
end
end Go.Hl

/-
  A region whose operations come in any order, by what holds behind any set of them.
-/
namespace Go.Hl
variable {ds : List Deferred}
set_option linter.unusedVariables false
set_option linter.unusedSimpArgs false
def listed? (listed : Array Bool) : Nat → Bool := fun i => (listed[i]?).getD false
theorem regI_any {P : Program} {ib : List Nat} {N : Nat} {ops : Array Oper} {Q : Exit → Tmps → Heap → Prop} (hN : dstOps N ops = true) (keep : List Nat) {E₀ : Env} {h₀ : Heap} {w₀ : World}
    (hback : ∀ (i : Nat) (o : Oper), ops[i]? = some o → ∀ e ∈ o.after.toList, Region.binds .any e = true → e.on < i) (hg : ∀ (i : Nat) (o : Oper), ops[i]? = some o → o.guard = none)
    (Inv : (Nat → Bool) → Tmps → Heap → Prop)
    (step : ∀ (D : Nat → Bool) τ h i o, Inv D τ h → D i = false → ops[i]? = some o → (∀ e ∈ o.after.toList, Region.binds .any e = true → D e.on = true) → stepI P ib o (hev τ) h fun v h' => Inv (fun j => j == i || D j) (tput τ o.dst v) h')
    (fin : ∀ (D : Nat → Bool) τ h, (∀ i, i < ops.size → D i = true) → Inv D τ h → Q .normal (Hl.prune keep τ) h) :
    ∀ (fuel : Nat) (listed : Array Bool) (l : List Nat), listed.size = ops.size → l.Nodup → (∀ i, i ∈ l ↔ listed[i]? = some false) → fuel = l.length →
      ∀ (τ : Tmps) (h : Heap), Inv (listed? listed) τ h → ∀ E w a, Ev E₀ h₀ w₀ E h w → Rel E h w → RepT ds E h w N τ a →
      wpAny P .any ops (AfterC ds N Q E₀ h₀ w₀) fuel listed a w
  | 0, listed, l, hsz, hnd, hl, hf, τ, h, r, E, w, a, ev, R, rt => by
    have : l = [] := List.length_eq_zero_iff.1 hf.symm
    subst this
    have hall : ∀ i, i < ops.size → listed[i]? = some true := fun i hi => by
      have hlt : i < listed.size := by omega
      rw [Array.getElem?_eq_getElem hlt]
      cases hv : listed[i] with
      | true => rfl
      | false => exact absurd ((hl i).2 (by rw [Array.getElem?_eq_getElem hlt, hv])) (by simp)
    refine ⟨?_, ⟨Hl.prune keep τ, h, E, fin _ _ _ (fun i hi => by simp [listed?, hall i hi]) r, ev, R, rt.prune keep⟩⟩
    unfold Region.ready
    rw [List.filter_eq_nil_iff]
    intro i hi hc
    simp only [List.mem_range] at hi
    simp only [Bool.and_eq_true, Bool.not_eq_true'] at hc
    have hlt : i < listed.size := by omega
    have h1 := hall i hi
    rw [Array.getElem?_eq_getElem hlt] at h1
    have h2 := hc.1
    simp only [Array.getD, hlt, dif_pos] at h2
    rw [show listed[i] = true from Option.some.inj h1] at *
    simp_all
  | fuel + 1, listed, l, hsz, hnd, hl, hf, τ, h, r, E, w, a, ev, R, rt => by
    have hready : ∀ i, i ∈ Region.ready .any ops listed → i ∈ l ∧ ∃ o, ops[i]? = some o ∧ ∀ e ∈ o.after.toList, Region.binds .any e = true → listed[e.on]? = some true := by
      intro i hi
      unfold Region.ready at hi
      rw [List.mem_filter] at hi
      obtain ⟨hi, hc⟩ := hi
      simp only [List.mem_range] at hi
      simp only [Bool.and_eq_true, Bool.not_eq_true'] at hc
      have hlt : i < listed.size := by omega
      have hlf : listed[i]? = some false := by
        rw [Array.getElem?_eq_getElem hlt]
        have := hc.1
        simp only [Array.getD, hlt, dif_pos] at this
        rw [← this]; rfl
      refine ⟨(hl i).2 hlf, ops[i], Array.getElem?_eq_getElem hi, fun e he hb => ?_⟩
      have h2 := hc.2
      simp only [Array.getElem?_eq_getElem hi, Option.map_some, Option.getD_some] at h2
      rw [Array.all_eq_true_iff_forall_mem] at h2
      have := h2 e (by simpa using he)
      simp only [hb, Bool.not_true, Bool.false_or] at this
      by_cases hel : e.on < listed.size
      · simp only [Array.getD, hel, dif_pos] at this
        rw [Array.getElem?_eq_getElem hel, ← this]; rfl
      · simp [Array.getD, hel] at this
    refine ⟨fun hnil => ?_, fun i hi => ?_⟩
    · exfalso
      have hne : l ≠ [] := by intro e; simp [e] at hf
      have : ∃ m ∈ l, ∀ j ∈ l, m ≤ j := by
        obtain ⟨x, hx⟩ := List.exists_mem_of_ne_nil l hne
        have key : ∀ n, ∀ x ∈ l, x ≤ n → ∃ m ∈ l, ∀ j ∈ l, m ≤ j := by
          intro n
          induction n with
          | zero => intro x hx hn; exact ⟨x, hx, fun j _ => by omega⟩
          | succ n ih =>
            intro x hx hn
            by_cases hall : ∀ j ∈ l, x ≤ j
            · exact ⟨x, hx, hall⟩
            · have : ∃ j ∈ l, j < x := by
                apply Classical.byContradiction
                intro hcon
                exact hall fun j hj => by
                  apply Classical.byContradiction
                  intro hlt
                  exact hcon ⟨j, hj, by omega⟩
              obtain ⟨j, hj, hlt⟩ := this
              exact ih j hj (by omega)
        exact key x x hx (Nat.le_refl _)
      obtain ⟨m, hm, hmin⟩ := this
      have hmf := (hl m).1 hm
      have hmlt : m < listed.size := (Array.getElem?_eq_some_iff.1 hmf).1
      have hmo : m < ops.size := by omega
      have hmem : m ∈ Region.ready .any ops listed := by
        unfold Region.ready
        rw [List.mem_filter]
        refine ⟨by simpa using hmo, ?_⟩
        simp only [Bool.and_eq_true, Bool.not_eq_true']
        refine ⟨?_, ?_⟩
        · simp only [Array.getD, hmlt, dif_pos]
          have := (Array.getElem?_eq_some_iff.1 hmf).2
          exact this
        · simp only [Array.getElem?_eq_getElem hmo, Option.map_some, Option.getD_some]
          rw [Array.all_eq_true_iff_forall_mem]
          intro e he
          cases hb : Region.binds .any e with
          | false => rfl
          | true =>
            simp only [Bool.not_true, Bool.false_or]
            have hlt := hback m _ (Array.getElem?_eq_getElem hmo) e (by simpa using he) hb
            have hel : e.on < listed.size := by omega
            simp only [Array.getD, hel, dif_pos]
            cases hv : listed[e.on] with
            | true => exact hv
            | false =>
              have := hmin e.on ((hl e.on).2 (by rw [Array.getElem?_eq_getElem hel, hv]))
              omega
      rw [hnil] at hmem
      simp at hmem
    · obtain ⟨hil, o, ho, hedges⟩ := hready i hi
      unfold wpOp
      simp only [ho]
      have hdst : ∀ k, o.dst = some k → k < N := fun k hk => dstOps_get hN i o k ho hk
      have hil' : listed[i]? = some false := (hl i).1 hil
      have hilt : i < listed.size := (Array.getElem?_eq_some_iff.1 hil').1
      have hst := step (listed? listed) τ h i o r (by simp [listed?, hil']) ho fun e he hb => by simp [listed?, hedges e he hb]
      have hfun : (fun j => j == i || listed? listed j) = listed? (listed.setIfInBounds i true) := by
        funext j
        unfold listed?
        by_cases e : j = i
        · subst e; simp [hilt]
        · rw [Array.getElem?_setIfInBounds_ne (Ne.symm e)]; simp [e]
      rw [hfun] at hst
      have hw : Region.wanted o (yielded ops a.tmps) = true := by unfold Region.wanted; rw [hg i o ho]
      rw [hw, if_pos rfl]
      left
      refine Runs.wp ((stepI_sound hst E w _ R fun x => rt.hev x).mono ?_)
      rintro v w' ⟨x, h', E', k, ev', R', rx⟩
      refine regI_any hN keep hback hg Inv step fin fuel _ (l.erase i) (by simpa using hsz) (hnd.erase i) ?_ (by rw [List.length_erase_of_mem hil]; omega) _ h' k E' w' _ (ev.trans ev') R' ((rt.ev ev').put o.dst hdst rx)
      intro j
      rw [hnd.mem_erase_iff]
      by_cases e : j = i
      · subst e
        simp [hilt]
      · rw [Array.getElem?_setIfInBounds_ne (Ne.symm e), ← hl j]
        simp [e]

def backB (ops : Array Oper) : Bool := (List.range ops.size).all fun i => match ops[i]? with | some o => o.guard.isNone && o.after.toList.all fun e => !Region.binds .any e || decide (e.on < i) | none => true
theorem HWp.regI {P : Program} {ib : List Nat} {N id : Nat} {ops : Array Oper} {Q : Exit → Tmps → Heap → Prop} {τ : Tmps} {h : Heap} (hmix : P.follows .mixedOrders = true) (hN : (dstOps N ops && backB ops) = true) (keep : List Nat)
    (Inv : (Nat → Bool) → Tmps → Heap → Prop) (h0 : Inv (fun _ => false) τ h)
    (step : ∀ (D : Nat → Bool) τ h i o, Inv D τ h → D i = false → ops[i]? = some o → (∀ e ∈ o.after.toList, Region.binds .any e = true → D e.on = true) → stepI P ib o (hev τ) h fun v h' => Inv (fun j => j == i || D j) (tput τ o.dst v) h')
    (fin : ∀ (D : Nat → Bool) τ h, (∀ i, i < ops.size → D i = true) → Inv D τ h → Q .normal (Hl.prune keep τ) h) : HWp P N (.region id ops true) Q τ h := by
  intro ds E w a R r
  rw [Bool.and_eq_true] at hN
  have h5 := hN.2
  unfold backB at h5
  rw [List.all_eq_true] at h5
  have hb : ∀ i o, ops[i]? = some o → o.guard.isNone = true ∧ ∀ e ∈ o.after.toList, (!Region.binds .any e || decide (e.on < i)) = true := fun i o ho => by
    have := h5 i (by simp; exact (Array.getElem?_eq_some_iff.1 ho).1)
    simp only [ho, Bool.and_eq_true, List.all_eq_true] at this
    exact this
  refine wp_region_any hmix ?_
  have ev : Ev E h w E h { w with drawn := w.drawn + 1 } := ⟨Nat.le_refl _, fun _ hb => ⟨rfl, hb⟩, fun _ _ => rfl, fun _ hn => ⟨rfl, hn⟩, rfl, rfl⟩
  have R' : Rel E h { w with drawn := w.drawn + 1 } := ⟨R.fin, R.dom, R.lt, R.apart, fun n o hn => (R.obj n o hn).ev ev rfl rfl fun _ _ _ => rfl, R.laid.ev ev⟩
  refine regI_any (ib := ib) hN.1 keep ?_ ?_ Inv step fin ops.size _ (List.range ops.size) (by simp) List.nodup_range ?_ (by simp) τ h ?_ E _ a ev R' (r.ev ev)
  · intro i o ho e he hb'
    have := (hb i o ho).2 e he
    simpa [hb'] using this
  · intro i o ho; exact Option.isNone_iff_eq_none.1 (hb i o ho).1
  · intro i
    rw [List.mem_range]
    constructor
    · intro hi; simp [hi]
    · intro hi; have := (Array.getElem?_eq_some_iff.1 hi).1; simpa using this
  · have : listed? (Array.replicate ops.size false) = fun _ => false := by
      funext j
      unfold listed?
      rw [Array.getElem?_replicate]
      split <;> rfl
    rw [this]; exact h0
def edgeI (D : Nat → Bool) : List Edge → Prop
  | [] => True
  | e :: l => (Region.binds .any e = true → D e.on = true) ∧ edgeI D l
def stepsI (P : Program) (ib : List Nat) (D : Nat → Bool) (τ : Tmps) (h : Heap) (Inv : (Nat → Bool) → Tmps → Heap → Prop) : Nat → List Oper → Prop
  | _, [] => True
  | k, ⟨d, op, _, _, af, _⟩ :: l => (D k = false → edgeI D af.toList → stepF P ib d op (hev τ) h (fun v h' => Inv (fun j => j == k || D j) (tput τ d v) h') ()) ∧ stepsI P ib D τ h Inv (k + 1) l
theorem edgeI_mk {D : Nat → Bool} : ∀ {l : List Edge}, (∀ e ∈ l, Region.binds .any e = true → D e.on = true) → edgeI D l
  | [], _ => trivial
  | e :: l, h => ⟨h e List.mem_cons_self, edgeI_mk fun x hx => h x (List.mem_cons_of_mem _ hx)⟩
theorem stepsI_get {P : Program} {ib : List Nat} {D : Nat → Bool} {τ : Tmps} {h : Heap} {Inv : (Nat → Bool) → Tmps → Heap → Prop} : ∀ (l : List Oper) (k : Nat), stepsI P ib D τ h Inv k l → ∀ i o, l[i]? = some o → D (k + i) = false → (∀ e ∈ o.after.toList, Region.binds .any e = true → D e.on = true) → stepI P ib o (hev τ) h fun v h' => Inv (fun j => j == k + i || D j) (tput τ o.dst v) h'
  | [], k, _, i, o, ho, _, _ => by simp at ho
  | ⟨d, op, ty, p, af, g⟩ :: l, k, hs, 0, o, ho, hD, he => by
    obtain rfl := Option.some.inj ho
    exact hs.1 hD (edgeI_mk he)
  | ⟨d, op, ty, p, af, g⟩ :: l, k, hs, i + 1, o, ho, hD, he => by
    have := stepsI_get l (k + 1) hs.2 i o ho (by rw [show k + 1 + i = k + (i + 1) by omega]; exact hD) he
    rw [show k + (i + 1) = k + 1 + i by omega]; exact this
theorem HWp.regS {P : Program} {ib : List Nat} {N id : Nat} {ops : List Oper} {Q : Exit → Tmps → Heap → Prop} {τ : Tmps} {h : Heap} (hmix : P.follows .mixedOrders = true) (hN : (dstOps N ⟨ops⟩ && backB ⟨ops⟩) = true) (keep : List Nat)
    (Inv : (Nat → Bool) → Tmps → Heap → Prop) (h0 : Inv (fun _ => false) τ h) (step : ∀ (D : Nat → Bool) τ h, Inv D τ h → stepsI P ib D τ h Inv 0 ops)
    (fin : ∀ (D : Nat → Bool) τ h, (∀ i, i < ops.length → D i = true) → Inv D τ h → Q .normal (Hl.prune keep τ) h) : HWp P N (.region id ⟨ops⟩ true) Q τ h :=
  HWp.regI hmix hN keep Inv h0 (fun D τ h i o hI hD ho he => by
    have := stepsI_get ops 0 (step D τ h hI) i o (by simpa using ho) (by simpa using hD) he
    simpa using this) fun D τ h hD hI => fin D τ h (fun i hi => hD i (by simpa using hi)) hI
end Go.Hl

/-
  Keys that are structs of integers, or arrays of integers.
-/
namespace Go.Hl
set_option linter.unusedVariables false
set_option linter.unusedSimpArgs false
def keyEnv : Env := ⟨fun _ => none, fun _ _ => False, fun _ => False⟩
def keyHp : Heap := fun _ => none
theorem aggEq_ints : ∀ {a b : List Int}, a.length = b.length → aggEq (a.map (HVal.int .i64)) (b.map (HVal.int .i64)) = some (decide (a = b))
  | [], [], _ => rfl
  | [], _ :: _, h => by simp at h
  | _ :: _, [], h => by simp at h
  | x :: a, y :: b, h => by
    simp only [List.map_cons, aggEq, if_true, aggEq_ints (a := a) (b := b) (by simpa using h), Option.map_some, Option.some.injEq]
    by_cases e : x = y
    · by_cases e' : a = b <;> simp [e, e']
    · simp [e]
theorem isB_ints : ∀ a : List Int, (a.map (HVal.int .i64)).map isB = List.replicate a.length false
  | [] => rfl
  | x :: a => by simp only [List.map_cons, isB_ints a, isB, List.length_cons, List.replicate_succ]
theorem rep_ints (E : Env) (h : Heap) (w : World) (a : List Int) (j : Nat) (x : HVal) (hx : (a.map (HVal.int .i64))[j]? = some x) : ∃ v, (a.map (Value.int .i64))[0 + j]? = some v ∧ Rep E h w x v := by
  rw [List.getElem?_map] at hx
  obtain ⟨n, hn, rfl⟩ := Option.map_eq_some_iff.1 hx
  exact ⟨.int .i64 n, by rw [Nat.zero_add, List.getElem?_map, hn]; rfl, .int _ _⟩
theorem run_check_int {P : Program} {t : TypeId} {k : IntKind} (hu : P.underlying t = some (.int k)) (em : Bool) (w : World) (d : Nat) (v : Value) : (Instr.checkKey em (d + 1) t v).run P w = .ok () w := by
  simp [Instr.checkKey, underlying, hu]
theorem keyTy_st {P : Program} {kt : TypeId} {n : Nat} (h : aggTy P kt = some (List.replicate n false)) : KeyTy P kt n := by
  unfold aggTy at h
  split at h
  · rename_i hc
    rw [Bool.and_eq_true] at hc
    have hs : P.stoodInHeld kt = false := by simpa using hc.1
    split at h
    · rename_i fs hu
      have hfo : P.fieldsOf kt = fs := by simp [Program.fieldsOf, hu]
      refine ⟨fun w a b ha hb => ?_, fun em w a ha => ?_, ⟨_, hu, fun a b => rfl⟩⟩
      · show (Op.equalIn 10000 kt (.agg (a.map (Value.int .i64)).toArray) (.agg (b.map (Value.int .i64)).toArray)).run P w = _
        rw [run_equalIn_agg w 9999 kt _ _ (by rw [hfo]; exact hu) hs, hfo]
        exact run_eqFields_flat (E := keyEnv) (h := keyHp) 9998 _ _ fs.toList 0 (a.map (HVal.int .i64)) (b.map (HVal.int .i64)) _ (by rw [isB_ints, ha]; exact h) (aggEq_ints (ha.trans hb.symm)) (rep_ints _ _ _ a) (rep_ints _ _ _ b)
      · rw [show 10000 = 9999 + 1 from rfl]
        unfold keyV
        rw [Instr.checkKey]
        simp only [Sem.run_bind, run_underlying hu, Result.andThen_ok]
        rw [← Array.forIn_toList]
        have hv : ∀ j, j < n → ∃ v, (a.map (Value.int .i64))[0 + j]? = some v := fun j hj => ⟨_, List.getElem?_eq_getElem (by simp; omega)⟩
        clear ha
        generalize 0 = i at h hv
        generalize fs.toList = L at h
        induction L generalizing i n with
        | nil => simp
        | cons f L ih =>
          cases n with
          | zero =>
            rw [fldKinds] at h
            split at h
            · split at h
              · obtain ⟨r, _, q⟩ := Option.map_eq_some_iff.1 h; cases q
              · obtain ⟨r, _, q⟩ := Option.map_eq_some_iff.1 h; cases q
              · cases h
            · cases h
          | succ m =>
            obtain ⟨hn, ho, h4, hpk, k1, k2⟩ := fldKinds_cons h
            obtain ⟨k, hk⟩ := k1 rfl
            obtain ⟨v, hv0⟩ := hv 0 (by omega)
            have p1 := run_part_plain (P := P) w hpk (xs := (a.map (Value.int .i64)).toArray) (off := f.offset) (v := v) (by rw [ho]; simpa using hv0)
            have p2 := run_check_int hk em w 9998 v
            simp only [List.forIn_cons, Sem.run_bind, hn, ne_eq, not_false_eq_true, if_true, Result.andThen_ok, p1, p2, Sem.run_pure]
            exact ih (i + 1) (fun j hj => by rw [show i + 1 + j = i + (j + 1) by omega]; exact hv (j + 1) (by omega)) h4
    · cases h
  · cases h
theorem keyTy_arr {P : Program} {kt e : TypeId} {i : TypeInfo} {n : Nat} (hu : P.underlying kt = some (.array n e)) (hi : P.info? e = some i) (h1 : P.cellsOf e = 1) (he : P.underlying e = some (.int .i64)) : KeyTy P kt n := by
  have hpk : P.plainKey e = true := by simp [Program.plainKey, he]
  refine ⟨fun w a b ha hb => ?_, fun em w a ha => ?_, ⟨_, hu, fun a b => rfl⟩⟩
  · show (Op.equalIn (9999 + 1) kt (.agg (a.map (Value.int .i64)).toArray) (.agg (b.map (Value.int .i64)).toArray)).run P w = _
    rw [run_equalIn_array w 9999 _ _ hu hi, h1, List.range_eq_range']
    have key : ∀ (m s : Nat), s + m = n → (Op.eqItems 9999 e 1 (a.map (Value.int .i64)).toArray (b.map (Value.int .i64)).toArray (List.range' s m)).run P w = .ok (decide (a.drop s = b.drop s)) w := by
      intro m
      induction m with
      | zero =>
        intro s hs
        rw [List.drop_of_length_le (by omega), List.drop_of_length_le (by omega)]
        simp [Op.eqItems]
      | succ m ih =>
        intro s hs
        have la : s < a.length := by omega
        have lb : s < b.length := by omega
        have p1 := run_part_plain (P := P) w hpk (xs := (a.map (Value.int .i64)).toArray) (off := s * 1) (v := .int .i64 a[s]) (by simp [la])
        have p2 := run_part_plain (P := P) w hpk (xs := (b.map (Value.int .i64)).toArray) (off := s * 1) (v := .int .i64 b[s]) (by simp [lb])
        have p3 := run_equalIn_int w 9998 e .i64 .i64 a[s] b[s] he
        rw [List.range'_succ]
        simp only [Op.eqItems, Sem.run_bind, p1, p2, p3, Result.andThen_ok]
        have hd : decide (a.drop s = b.drop s) = (decide (a[s] = b[s]) && decide (a.drop (s + 1) = b.drop (s + 1))) := by
          rw [List.drop_eq_getElem_cons la, List.drop_eq_getElem_cons lb, Bool.eq_iff_iff]
          simp only [decide_eq_true_eq, Bool.and_eq_true, List.cons.injEq]
        rw [hd]
        have ih' := ih (s + 1) (by omega)
        by_cases q : a[s] = b[s]
        · simp only [q, beq_self_eq_true, Bool.not_true, Bool.false_eq_true, if_false, decide_true, Bool.true_and]
          exact ih'
        · simp [q]
    simpa using key n 0 (by omega)
  · rw [show 10000 = 9999 + 1 from rfl]
    unfold keyV
    rw [Instr.checkKey]
    simp only [Sem.run_bind, run_underlying hu, Result.andThen_ok]
    simp only [Std.Legacy.Range.forIn_eq_forIn_range', Std.Legacy.Range.size, Nat.sub_zero, Nat.add_one_sub_one, Nat.div_one]
    have hall : ∀ j ∈ List.range' 0 n, j < a.length := fun j hj => by simp at hj; omega
    generalize List.range' 0 n = is at hall
    induction is with
    | nil => simp
    | cons j is ih =>
      have la := hall j (by simp)
      have p1 := run_part_plain (P := P) w hpk (xs := (a.map (Value.int .i64)).toArray) (off := j * 1) (v := .int .i64 a[j]) (by simp [la])
      have p2 := run_check_int he em w 9998 (.int .i64 a[j])
      simp only [List.forIn_cons, Sem.run_bind, run_sizeOf w hi, h1, Result.andThen_ok, p1, p2, Sem.run_pure]
      exact ih fun y hy => hall y (by simp [hy])
end Go.Hl

/-
  Contracts of functions and laws of the layer over the walk.
-/
import Derived.Test.YtgkipnacdihfnaaGreatDoorHlC
import Derived.LaidLaws
import Derived.LaidHandle
import Derived.Stop.Joined
import Derived.Lib.LaidTab
import Derived.Shelf.Vars
import Derived.Sort.Grow
import Derived.Deep.Draws
import Derived.Below
import Derived.Defers
/-
  Own values: slices that own their rows, and the slices in their cells that own theirs. They are sealed all at once, and can be lent out for a call.
-/
namespace Go.Hl
set_option linter.unusedVariables false
set_option linter.unusedSimpArgs false

/-- An own value: one that owns nothing, or a slice with the named row that it owns. -/
inductive OV where
  | v (x : HVal)
  | nil (sz : Nat)
  | sl (n sz : Nat) (es : List (List OV))

def OV.val : OV → HVal
  | .v x => x
  | .nil sz => .sl sz [] true
  | .sl n sz es => .os n sz 0 es.length

mutual
/-- What it reads as when nobody writes it any more. -/
def OV.dat : OV → HVal
  | .v x => x
  | .nil sz => .sl sz [] false
  | .sl n sz es => .sl sz (OV.datRows es) false
def OV.datRows : List (List OV) → List (List HVal)
  | [] => []
  | e :: es => OV.datRow e :: OV.datRows es
def OV.datRow : List OV → List HVal
  | [] => []
  | x :: e => x.dat :: OV.datRow e
end
theorem OV.datRow_map : ∀ (e : List OV), OV.datRow e = e.map OV.dat
  | [] => rfl
  | x :: e => by rw [OV.datRow, OV.datRow_map e]; rfl
theorem OV.datRows_map : ∀ (es : List (List OV)), OV.datRows es = es.map (List.map OV.dat)
  | [] => rfl
  | e :: es => by rw [OV.datRows, OV.datRows_map es, OV.datRow_map]; rfl

/-- The cells of an own slice's row. -/
def OV.cells (es : List (List OV)) : List (List Cell) := es.map (List.map fun c => Cell.v c.val)

mutual
/-- The named rows that it owns. -/
def OV.rows : OV → List (Nat × HObj)
  | .v _ => []
  | .nil _ => []
  | .sl n sz es => (n, .row sz (OV.cells es)) :: OV.rowsRows es
def OV.rowsRows : List (List OV) → List (Nat × HObj)
  | [] => []
  | e :: es => OV.rowsRow e ++ OV.rowsRows es
def OV.rowsRow : List OV → List (Nat × HObj)
  | [] => []
  | x :: e => x.rows ++ OV.rowsRow e
end
/-- The rows are there. -/
def Owns (h : Heap) (l : List (Nat × HObj)) : Prop := ∀ p ∈ l, h p.1 = some p.2

/-- Some names given up. -/
def goneL (h : Heap) (S : List Nat) : Heap := fun m => if m ∈ S then (h m).map fun _ => .gone else h m

theorem goneL_mem {h : Heap} {S : List Nat} {m : Nat} {o : HObj} (hm : m ∈ S) (ho : goneL h S m = some o) : o = .gone := by
  simp only [goneL, if_pos hm, Option.map_eq_some_iff] at ho
  obtain ⟨_, _, rfl⟩ := ho; rfl
theorem goneL_not {h : Heap} {S : List Nat} {m : Nat} (hm : m ∉ S) : goneL h S m = h m := by simp only [goneL, if_neg hm]

theorem imm_goneL {E : Env} {h : Heap} {w : World} (S : List Nat) (b : Nat) (i : Imm E h w b) : Imm E (goneL h S) w b :=
  ⟨i.1, fun m o hm ho => by
    by_cases e : m ∈ S
    · rw [goneL_mem e hm] at ho; exact ho.elim
    · rw [goneL_not e] at hm; exact i.2 m o hm ho⟩
theorem imm_of_goneL {E : Env} {h : Heap} {w : World} (R : Rel E h w) {S : List Nat} {n : Nat} (hS : n ∈ S) {x : HObj} (hn : h n = some x) (hx : x.live) (b : Nat) (hb : E.fp n b) : Imm E (goneL h S) w b :=
  ⟨R.lt n x b hn hx hb, fun m o hm ho hf => by
    by_cases e : m ∈ S
    · rw [goneL_mem e hm] at ho; exact ho.elim
    · rw [goneL_not e] at hm
      have := R.apart m o n x b hm ho hn hx hf hb
      exact e (this ▸ hS)⟩
mutual
theorem Rep.unown {E : Env} {h : Heap} {w : World} (R : Rel E h w) {S : List Nat} : ∀ (x : OV), Owns h x.rows → (∀ p ∈ x.rows, p.1 ∈ S) → ∀ v, Rep E h w x.val v → Rep E (Hl.goneL h S) w x.dat v
  | .v x, _, _, v, r => Rep.imm (fun b => imm_goneL S b) r
  | .nil sz, _, _, v, r => Sub.loose sz [] true _ _ _ _ (Rep.imm (fun b => imm_goneL S b) (show Rep E h w (.sl sz [] true) v from r))
  | .sl n sz es, ho, hS, v, r => by
    have hn : h n = some (.row sz (OV.cells es)) := ho (n, _) (by rw [OV.rows]; exact List.mem_cons_self)
    have hnS : n ∈ S := hS (n, _) (by rw [OV.rows]; exact List.mem_cons_self)
    simp only [OV.val] at r
    simp only [OV.dat]
    have hcells : ∀ i j y, at2 (OV.cells es) i j = some y → ∃ c, at2 es i j = some c ∧ y = .v c.val := by
      intro i j y hy
      rw [OV.cells, at2_map] at hy
      obtain ⟨c, hc, rfl⟩ := Option.map_eq_some_iff.1 hy
      exact ⟨c, hc, rfl⟩
    have hdat : ∀ i j y, at2 (OV.datRows es) i j = some y → ∃ c, at2 es i j = some c ∧ y = c.dat := by
      intro i j y hy
      rw [OV.datRows_map, at2_map] at hy
      obtain ⟨c, hc, rfl⟩ := Option.map_eq_some_iff.1 hy
      exact ⟨c, hc, rfl⟩
    have hlen : (OV.datRows es).length = es.length := by rw [OV.datRows_map, List.length_map]
    have key : ∀ L, L = es.length → Rep E h w (.os n sz 0 L) v → Rep E (Hl.goneL h S) w (.sl sz (OV.datRows es) false) v := by
      intro L hL r
      cases r with
      | os0 _ _ hd hl =>
        have : es = [] := List.eq_nil_of_length_eq_zero hL.symm
        subst this
        exact .sl0 sz false none 0 (fun _ => rfl) (by simp [maxLen]) trivial
      | os _ _ _ _ b o cap t m hd hl hlc hmax hsh hm =>
        obtain ⟨b', o', hl', hbS, hs, cs, ct, cv, T, hh, hm', hT, hD, hc, hrr⟩ := row_of R hn (.inr ⟨_, hl⟩)
        rw [hl] at hl'
        obtain ⟨rfl, rfl⟩ := Prod.mk.inj (Option.some.inj hl')
        have himm : ∀ c, E.fp n c → Imm E (Hl.goneL h S) w c := fun c hc => imm_of_goneL R hnS hn trivial c hc
        have hcs : ∀ i j y, at2 (OV.datRows es) i j = some y → ∃ c, at2 es i j = some c ∧ y = c.dat ∧ cs[o + i * sz + j]? = some (cv i j) ∧ (cv i j).oneCell' = true ∧ Rep E h w c.val (cv i j) := by
          intro i j y hy
          obtain ⟨c, hc1, rfl⟩ := hdat i j y hy
          have hcell : at2 (OV.cells es) i j = some (.v c.val) := by rw [OV.cells, at2_map, hc1]; rfl
          have h2 := hrr i j _ hcell
          cases h2 with
          | v x c' S' h1 hx => exact ⟨c, hc1, rfl, hc i j _ hcell, h1, hx⟩
        have := Rep.sl (E := E) (h := Hl.goneL h S) (w := w) sz (OV.datRows es) false b (o + 0 * sz) cap cv (himm b hbS) (by rw [hlen, ← hL]; exact hlc) hmax (fun e => by simp at e)
          (fun e he => by
            rw [OV.datRows_map, List.mem_map] at he
            obtain ⟨e', he', rfl⟩ := he
            have := hs (e'.map fun c => Cell.v c.val) (List.mem_map.2 ⟨e', he', rfl⟩)
            simpa using this)
          (fun i j y hy => by
            obtain ⟨c, _, _, h1, _, _⟩ := hcs i j y hy
            simp only [World.cell?, hh]
            rw [← h1]
            simp)
          (fun i j y hy => by obtain ⟨c, _, _, _, h1, _⟩ := hcs i j y hy; exact h1)
          (fun i j y hy => by
            obtain ⟨c, hc1, rfl, _, _, h1⟩ := hcs i j y hy
            obtain ⟨e, he, hj⟩ := at2_some hc1
            exact unownRows R es (fun p hp => ho p (by rw [OV.rows]; exact List.mem_cons_of_mem _ hp)) (fun p hp => hS p (by rw [OV.rows]; exact List.mem_cons_of_mem _ hp)) e (List.mem_of_getElem? he) c (List.mem_of_getElem? hj) _ h1)
        rw [hlen, ← hL] at this
        exact this
    exact key _ rfl r
theorem unownRows {E : Env} {h : Heap} {w : World} (R : Rel E h w) {S : List Nat} : ∀ (es : List (List OV)), Owns h (OV.rowsRows es) → (∀ p ∈ OV.rowsRows es, p.1 ∈ S) → ∀ e ∈ es, ∀ c ∈ e, ∀ v, Rep E h w c.val v → Rep E (Hl.goneL h S) w c.dat v
  | [], _, _, e, he, _, _, _, _ => by simp at he
  | a :: es, ho, hS, e, he, c, hc, v, r => by
    rcases List.mem_cons.1 he with h1 | h1
    · rw [h1] at hc
      exact unownRow R a (fun p hp => ho p (by rw [OV.rowsRows]; exact List.mem_append_left _ hp)) (fun p hp => hS p (by rw [OV.rowsRows]; exact List.mem_append_left _ hp)) c hc v r
    · exact unownRows R es (fun p hp => ho p (by rw [OV.rowsRows]; exact List.mem_append_right _ hp)) (fun p hp => hS p (by rw [OV.rowsRows]; exact List.mem_append_right _ hp)) e h1 c hc v r
theorem unownRow {E : Env} {h : Heap} {w : World} (R : Rel E h w) {S : List Nat} : ∀ (e : List OV), Owns h (OV.rowsRow e) → (∀ p ∈ OV.rowsRow e, p.1 ∈ S) → ∀ c ∈ e, ∀ v, Rep E h w c.val v → Rep E (Hl.goneL h S) w c.dat v
  | [], _, _, c, hc, _, _ => by simp at hc
  | a :: e, ho, hS, c, hc, v, r => by
    rcases List.mem_cons.1 hc with h1 | h1
    · rw [h1] at r ⊢
      exact Rep.unown R a (fun p hp => ho p (by rw [OV.rowsRow]; exact List.mem_append_left _ hp)) (fun p hp => hS p (by rw [OV.rowsRow]; exact List.mem_append_left _ hp)) v r
    · exact unownRow R e (fun p hp => ho p (by rw [OV.rowsRow]; exact List.mem_append_right _ hp)) (fun p hp => hS p (by rw [OV.rowsRow]; exact List.mem_append_right _ hp)) c h1 v r
end

/-! ### lending -/
mutual
/-- Values that point into no memory that nobody writes. -/
def HVal.solid : HVal → Bool
  | .any | .bool _ | .int _ _ | .str _ | .nilptr | .nilsl | .nilfn | .nilif | .nilmap => true
  | .os _ _ _ _ | .op _ _ _ _ | .mp _ => true
  | .sl _ es _ => es.isEmpty
  | .agg cs => HVal.solidL cs
  | .tup cs => HVal.solidL cs
  | _ => false
def HVal.solidL : List HVal → Bool
  | [] => true
  | x :: xs => x.solid && HVal.solidL xs
end
theorem HVal.solidL_get : ∀ {l : List HVal}, HVal.solidL l = true → ∀ (i : Nat) x, l[i]? = some x → x.solid = true
  | y :: l, h, 0, x, hx => by simp only [HVal.solidL, Bool.and_eq_true] at h; simp at hx; subst hx; exact h.1
  | y :: l, h, i + 1, x, hx => by simp only [HVal.solidL, Bool.and_eq_true] at h; exact HVal.solidL_get h.2 i x (by simpa using hx)
  | [], _, i, x, hx => by simp at hx

def Cell.solid : Cell → Bool
  | .v x => x.solid
  | .own _ _ => false
def HObj.solid : HObj → Bool
  | .row _ es => es.all fun e => e.all Cell.solid
  | .map _ _ _ => false
  | .raw _ _ => true
  | .abs _ => true
  | .gone => true

theorem Rep.solid {E E' : Env} {h h' : Heap} {w w' : World} (hl : ∀ n, E.used n → E'.loc n = E.loc n ∧ E'.used n) (hs : ∀ b, b < w.heap.size → w'.shape? b = w.shape? b) {x : HVal} {v : Value} (r : Rep E h w x v) (hx : x.solid = true) : Rep E' h' w' x v := by
  induction r with
  | any v => exact .any v
  | bool b => exact .bool b
  | int k n => exact .int k n
  | str s hl => exact .str s hl
  | nilptr => exact .nilptr
  | nilsl => exact .nilsl
  | nilfn => exact .nilfn
  | nilif => exact .nilif
  | nilmap => exact .nilmap
  | sl0 sz t a cap ht hmax ha => exact .sl0 sz t a cap ht hmax ha
  | sl sz es t b o cap cv hi hcap hmax ht hs' hc h1 hr ih =>
    simp only [HVal.solid, List.isEmpty_iff] at hx
    subst hx
    exact .sl0 sz t _ cap (fun e => by have := ht e; simpa using this) hmax trivial
  | ip sz es i off b o cv hi hs' hc h1 hr ih => simp [HVal.solid] at hx
  | os n sz i len b o cap t m hd hl' hlc hmax hsh hm => exact .os n sz i len b o cap t m (hl n hd).2 ((hl n hd).1.trans hl') hlc hmax ((hs b (shape_lt hsh)).trans hsh) hm
  | os0 n sz hd hl' => exact .os0 n sz (hl n hd).2 ((hl n hd).1.trans hl')
  | op n sz i off b o hd hl' => exact .op n sz i off b o (hl n hd).2 ((hl n hd).1.trans hl')
  | agg cs vs hle hr ih => exact .agg cs vs hle fun i x v a b => ih i x v a b (HVal.solidL_get (by simpa only [HVal.solid] using hx) i x a)
  | tup cs vs hle hr ih => exact .tup cs vs hle fun i x v a b => ih i x v a b (HVal.solidL_get (by simpa only [HVal.solid] using hx) i x a)
  | fn f cs ds vs us hle hr hle' hr' ih ih' => simp [HVal.solid] at hx
  | iface t x v hr ih => simp [HVal.solid] at hx
  | mp n b o hd hl' => exact .mp n b o (hl n hd).2 ((hl n hd).1.trans hl')

theorem ORel.solid {E E' : Env} {h h' : Heap} {w w' : World} (hl : ∀ n, E.used n → E'.loc n = E.loc n ∧ E'.used n) (hs : ∀ b, b < w.heap.size → w'.shape? b = w.shape? b) {n : Nat} {o : HObj} (hn : E'.loc n = E.loc n) (hfp : E'.fp n = E.fp n)
    (hm : ∀ b, E.fp n b → w'.heap[b]? = w.heap[b]?) (ho : o.solid = true) (r : ORel E h w n o) : ORel E' h' w' n o := by
  cases o with
  | gone => trivial
  | raw t cs => obtain ⟨b, hb, hf, hr⟩ := r; exact ⟨b, hn.trans hb, by rw [hfp]; exact hf, (hm b hf).trans hr⟩
  | abs Q => obtain ⟨b, hb, hf, w0, hq, ha⟩ := r; exact ⟨b, hn.trans hb, by rw [hfp]; exact hf, w0, by rw [hfp]; exact hq, fun c hc => by rw [hfp] at hc; exact (hm c hc).trans (ha c hc)⟩
  | map _ _ _ => simp [HObj.solid] at ho
  | row sz es =>
    rcases r with ⟨b, o', h1, h2⟩ | ⟨h1, h2⟩
    · refine .inl ⟨b, o', hn.trans h1, ?_⟩
      obtain ⟨hb, hsz, cs, t, cv, T, hh, hle, hT, hD, hc, hr⟩ := h2
      rw [hfp]
      refine ⟨hb, hsz, cs, t, cv, T, (hm b hb).trans hh, hle, hT, hD, hc, fun i j x hx => ?_⟩
      have hsx : x.solid = true := by
        obtain ⟨e, he, hj⟩ := at2_some hx
        have h3 := List.all_eq_true.1 ho e (List.mem_of_getElem? he)
        exact List.all_eq_true.1 h3 x (List.mem_of_getElem? hj)
      have hx' := hr i j x hx
      cases x with
      | own _ _ => simp [Cell.solid] at hsx
      | v y =>
        generalize cv i j = cc at hx'
        cases hx' with
        | v _ _ _ h1' hy => exact .v y _ _ h1' (hy.solid hl hs hsx)
    · exact .inr ⟨h1, hn.trans h2⟩

/-! ### what an own value stands for -/
def OR {α : Type} (R : α → List OV → Prop) : List α → List (List OV) → Prop
  | [], [] => True
  | x :: l, e :: es => R x e ∧ OR R l es
  | _, _ => False
/-- An own slice that stands for a list. -/
def OS {α : Type} (R : α → List OV → Prop) (sz : Nat) (l : List α) (y : OV) : Prop := (y = .nil sz ∧ l = []) ∨ ∃ n es, y = .sl n sz es ∧ OR R l es
theorem OR.length {α : Type} {R : α → List OV → Prop} : ∀ {l : List α} {es : List (List OV)}, OR R l es → l.length = es.length
  | [], [], _ => rfl
  | x :: l, e :: es, h => by simpa using OR.length h.2
  | [], _ :: _, h => h.elim
  | _ :: _, [], h => h.elim
theorem OR.append {α : Type} {R : α → List OV → Prop} : ∀ {l l' : List α} {es es' : List (List OV)}, OR R l es → OR R l' es' → OR R (l ++ l') (es ++ es')
  | [], _, [], _, _, h => h
  | x :: l, _, e :: es, _, a, h => ⟨a.1, OR.append a.2 h⟩
  | [], _, _ :: _, _, a, _ => a.elim
  | _ :: _, _, [], _, a, _ => a.elim
theorem OR.dat {α : Type} {R : α → List OV → Prop} {c : α → List HVal} (hR : ∀ x e, R x e → e.map OV.dat = c x) : ∀ {l : List α} {es : List (List OV)}, OR R l es → OV.datRows es = l.map c
  | [], [], _ => rfl
  | x :: l, e :: es, h => by rw [OV.datRows, OR.dat hR h.2, OV.datRow_map, hR x e h.1]; rfl
  | [], _ :: _, h => h.elim
  | _ :: _, [], h => h.elim
theorem OS.dat {α : Type} {R : α → List OV → Prop} {c : α → List HVal} {sz : Nat} {l : List α} {y : OV} (hR : ∀ x e, R x e → e.map OV.dat = c x) (h : OS R sz l y) : y.dat = .sl sz (l.map c) false := by
  rcases h with ⟨rfl, rfl⟩ | ⟨n, es, rfl, h⟩
  · rfl
  · simp only [OV.dat, OR.dat hR h]
def namesOf (l : List (Nat × HObj)) : List Nat := l.map (·.1)
/-- Other names are as they were. -/
def Upto (S : List Nat) (h h' : Heap) : Prop := ∀ m, m ∉ S → h' m = h m
end Go.Hl

/-
  The row's end for laws whose contract starts where no row has a name.
-/
namespace Go.Hl
open Go.ChangeShapes Go.WideShapes
set_option linter.unusedVariables false
set_option linter.unusedSimpArgs false
/-- What laws.sz* counts of a slice. -/
def szs {α : Type} (s : α → Nat) (l : List α) : Nat := l.length + (l.map s).sum
theorem szs_eq {α : Type} (s : α → Nat) (l : List α) : szs s l = l.length + (l.map s).sum := rfl
end Go.Hl

/-
  The row's end where package-level variables are laid.
-/
namespace Go.Hl
open Go.ChangeShapes Go.WideShapes
set_option linter.unusedVariables false
set_option linter.unusedSimpArgs false
/-- The kit's bridge, with the shape of the first world handed on. -/
theorem returns_shaped {H : Type} {enc : TypeId × Value → H} {a : Assume} {C : Checked} {os : Os} {f : FuncId} {fn : Func} {s : ChangeSpec} {conds : List PathCond} {apart fresh handsOn again : Bool} {X : World → Array Value → Prop}
    (hX : ∀ (w w' : World) (args : Array Value), w.heap = w'.heap → X w args → X w' args)
    (own : ownKnob C.prog.godebug = none) (started : os.Started) (noInit : C.prog.inits.idxOf? f = none) (hfn : C.prog.funcs[f]? = some fn)
    (witness : ∃ (w : World) (tape : Tape) (i : Input), w.os = os ∧ (w.forCall tape i).Shaped C.prog ∧ i.vars = [] ∧ Input.okWide C.prog (w.forCall tape i) .any w.heap.size f i ∧
      ((s.pre enc C.prog fn conds apart (w.forCall tape i).memory i.args ∧ X (w.forCall tape i).memory i.args) ∧ sizedMet enc C.prog fn (OpenSpec.ofChange s) apart (w.forCall tape i).memory i.args) ∧ a.holds C.prog (lone (Frame.enter C.prog f i.args .normal) [] (w.forCall tape i)))
    (contract : ∀ (W : World) (base : Nat) (args : Array Value) (ds gs : List (DataW H)) (before : List MemPlace), W.ShapedOpen C.prog →
      (∀ (j : Nat) t v, fn.params[j]? = some t → args[j]? = some v → Value.okWide C.prog W .any base t v) →
      DataW.Whole enc C.prog fn.params.toList s.vars apart W args.toList ds gs before →
      conds.all (PathCond.test C.prog ⟨fn.params.toList, ds, s.plain.varTypes C.prog, gs⟩) = true →
      (DataW.weightsEach C.prog (fn.params.toList ++ s.plain.varTypes C.prog) (ds ++ gs)).all (· ≤ reachBytes) = true → X W args →
      a.holds C.prog (lone (Frame.enter C.prog f args .normal) [] W) →
      Calls C.prog f args W fun e W' => ∃ v, e = .returned v ∧ s.post enc C.prog fn apart fresh handsOn again W args v W') :
    ReturnsInHanded a C os f .any (fun w args => (s.pre enc C.prog fn conds apart w args ∧ X w args) ∧ sizedMet enc C.prog fn (OpenSpec.ofChange s) apart w args) (s.post enc C.prog fn apart fresh handsOn again) := by
  refine returnsInHanded_of_calls own started noInit witness ?_
  intro w tape i _ hsh _ hok hpre hholds
  obtain ⟨_, _, _, fn', hfn', _, _, _, _, hval⟩ := hok
  have e : fn' = fn := Option.some.inj (hfn'.symm.trans hfn)
  subst e
  obtain ⟨⟨⟨ds, gs, before, hw, hc⟩, hx⟩, hz⟩ := hpre
  have hw' := DataW.Whole.of_heap (w' := w.forCall tape i) (by rfl) hw
  refine (contract (w.forCall tape i) w.heap.size i.args ds gs before hsh hval hw' hc (hz.weights hw) (hX _ _ _ (by rfl) hx) hholds).mono fun e W' ⟨v, he, hp⟩ => ?_
  subst he
  exact ChangeSpec.post_blind hp
/-- .. where package-level variables are laid. -/
theorem law_returnsD {H : Type} {enc : TypeId × Value → H} {C : Checked} {os : Os} {f : FuncId} {fn : Func} {s : ChangeSpec} {laid : List (String × DataW Unit)}
    (own : ownKnob C.prog.godebug = none) (started : os.Started) (noInit : C.prog.inits.idxOf? f = none) (hfn : C.prog.funcs[f]? = some fn)
    (witness : ∃ (w : World) (tape : Tape) (i : Input), w.os = os ∧ (w.forCall tape i).Shaped C.prog ∧ i.vars = [] ∧ Input.okWide C.prog (w.forCall tape i) .any w.heap.size f i ∧
      ((s.pre enc C.prog fn [] false (w.forCall tape i).memory i.args ∧ laidMetH C.prog laid (w.forCall tape i).memory) ∧ sizedMet enc C.prog fn (OpenSpec.ofChange s) false (w.forCall tape i).memory i.args) ∧ ({} : Assume).holds C.prog (lone (Frame.enter C.prog f i.args .normal) [] (w.forCall tape i)))
    (lo : laidOutB C.prog = true) (mr : mapsRowed C.prog = true)
    (hz : ((List.range C.prog.types.size).all fun t => match C.prog.underlying t with | some (.slice e) => decide (0 < C.prog.cellsOf e) | _ => true) = true)
    (T : List TypeId) (hT : datB C.prog T = true) (hp : fn.params.all (fun t => decide (t < C.prog.types.size) && T.contains t) = true)
    (hsv : s.vars = []) (hs : ∀ ds : List (DataW H), ds.length = fn.params.size → s.fn H ds = { results := [.lit (.bool true)], args := ds })
    {tb : TypeId} (hr : fn.resultTypes = #[tb]) (htb : C.prog.underlying tb = some .bool)
    (hc : ∀ xs, ArgsD C.prog fn.params.toList xs → Fn0 C.prog f xs (.bool true)) (hlaid : ∀ W, laidMetH C.prog laid W → W.ShapedOpen C.prog → ∀ p ∈ laidBlocks, ∃ cs t f, W.heap[p.1]? = some (.cells cs t f) ∧ p.2 cs) :
    ReturnsInHanded {} C os f .any (fun w args => (s.pre enc C.prog fn [] false w args ∧ laidMetH C.prog laid w) ∧ sizedMet enc C.prog fn (OpenSpec.ofChange s) false w args) (s.post enc C.prog fn false true false false) := by
  refine returns_shaped (X := fun w _ => laidMetH C.prog laid w) (fun _ _ _ hh h => h.of_heap hh) own started noInit hfn witness ?_
  intro W base args ds gs before hsh hval hW _ _ hL _
  have hW0 := hW
  obtain ⟨p, q, hA, hV, _, _, _⟩ := hW
  have hp' := Array.all_eq_true_iff_forall_mem.1 hp
  simp only [Bool.and_eq_true, decide_eq_true_eq] at hp'
  have hbase : ∀ (j : Nat) t v, fn.params.toList[j]? = some t → args.toList[j]? = some v → Value.okWide C.prog W .any base t v := fun j t v h1 h2 => hval j t v (by simpa using h1) (by simpa using h2)
  obtain ⟨xs, h1, h2, h3⟩ := open_args hT (E := noEnv) (h := noRows) (fun b hb => imm_none hb) (fun t ht => by have := (hp' t (by simpa using ht)).2; simpa using this) hbase hA
  refine Calls.mono (by simpa using (hc xs h1 noRows).2 noEnv W args.toList (rel_none W fun p hp => ⟨imm_none (by obtain ⟨cs, t, f, e, _⟩ := hlaid W hL hsh p hp; exact (Array.getElem?_eq_some_iff.1 e).1), hlaid W hL hsh p hp⟩) h2) fun e W' he => ?_
  cases e with
  | returned v =>
    obtain ⟨r, h', E', ⟨rfl, rfl⟩, ev, _, rep⟩ := he
    cases rep
    exact ⟨_, rfl, law_post lo mr hz (by rw [Array.all_eq_true_iff_forall_mem]; intro t ht; simpa using (hp' t ht).1) hsv hs hr htb hW0 (by simpa using h3) (fun b hb => (ev.keep b (imm_none hb)).1) ev.os ev.out⟩
  | _ => exact he.elim
theorem laidMet_tail {P : Program} {n : String} {d : DataW Unit} {r : List (String × DataW Unit)} {w : World} (h : laidMet P ((n, d) :: r) w) : laidMet P r w := by
  obtain ⟨ps, ⟨g, t, cs, fuel, p, q, _, _, _, _, hq, rfl⟩, hn, ha⟩ := h
  exact ⟨q, hq, (List.nodup_append.1 hn).2.1, fun b off hm => ha b off (List.mem_append_right _ hm)⟩
/-- Of a listed variable of an interface's type: its cell holds an interface's value. -/
theorem cell_of_laid_ifc {P : Program} {W : World} {g : Nat} {t : TypeId} {n nm : String} {d : DataW Unit} {r : List (String × DataW Unit)}
    (h : laidMet P ((n, .iface nm d) :: r) W) (hg : P.globalNamed n = some g) (ht : (P.globals[g]?).map (·.type) = some t) (hi : isIfc P t = true) :
    ∃ v, W.cell? ⟨g, 0, none⟩ = some v ∧ (v = .nilIface ∨ ∃ te pe, v = .iface te pe) := by
  obtain ⟨ms, hu⟩ : ∃ ms, P.underlying t = some (.interface ms) := by
    unfold isIfc at hi
    split at hi
    · exact ⟨_, by assumption⟩
    · cases hi
  obtain ⟨ps, ⟨g0, t0, cs0, f0, p0, q0, hg0, ht0, hv0, hd0, _, _⟩, _, _⟩ := h
  obtain rfl := Option.some.inj (hg.symm.trans hg0)
  obtain rfl := Option.some.inj (ht.symm.trans ht0)
  obtain ⟨f1, u, v, hc, _, _⟩ := iface_of_trod hu hd0
  refine ⟨.iface u v, ?_, .inr ⟨u, v, rfl⟩⟩
  rw [World.var?_cell hg0 hv0 0]
  rw [← Array.getElem?_toList, hc]
  rfl
theorem laid_of_cell {w : World} {g : Nat} {Q : Value → Prop} (h : ∃ v, w.cell? ⟨g, 0, none⟩ = some v ∧ Q v) : ∃ cs t f, w.heap[g]? = some (.cells cs t f) ∧ ∃ v, cs[0]? = some v ∧ Q v := by
  obtain ⟨v, hv, hq⟩ := h
  unfold World.cell? at hv
  cases hW : w.heap[g]? with
  | none => rw [hW] at hv; cases hv
  | some o =>
    rw [hW] at hv
    cases o with
    | cells c t f => exact ⟨c, t, f, rfl, v, by simpa using hv, hq⟩
    | _ => cases hv
theorem laid_of_int {w : World} {g : Nat} {k : IntKind} (h : ∃ m, w.cell? ⟨g, 0, none⟩ = some (.int k m)) : ∃ cs t f, w.heap[g]? = some (.cells cs t f) ∧ ∃ m, cs[0]? = some (.int k m) := by
  obtain ⟨m, hm⟩ := h
  obtain ⟨cs, t, f, h1, v, h2, rfl⟩ := laid_of_cell (Q := fun v => v = .int k m) ⟨_, hm, rfl⟩
  exact ⟨cs, t, f, h1, m, h2⟩
end Go.Hl

/-
  New own values behind a call.
-/
namespace Go.Hl
set_option linter.unusedVariables false
set_option linter.unusedSimpArgs false

theorem OV.rowsRows_append : ∀ (a b : List (List OV)), OV.rowsRows (a ++ b) = OV.rowsRows a ++ OV.rowsRows b
  | [], b => rfl
  | x :: a, b => by rw [List.cons_append, OV.rowsRows, OV.rowsRows_append a b, OV.rowsRows, List.append_assoc]
theorem namesOf_append (a b : List (Nat × HObj)) : namesOf (a ++ b) = namesOf a ++ namesOf b := List.map_append
theorem mem_namesOf {l : List (Nat × HObj)} {m : Nat} : m ∈ namesOf l ↔ ∃ o, (m, o) ∈ l := by
  simp [namesOf]

/-- Rows that were not there: their names differ, nobody had them, and nothing else has changed. -/
structure New (h : Heap) (l : List (Nat × HObj)) (h' : Heap) : Prop where
  nodup : (namesOf l).Nodup
  fresh : ∀ m ∈ namesOf l, h m = none
  owns : Owns h' l
  upto : Upto (namesOf l) h h'

theorem New.nil (h : Heap) : New h [] h := ⟨List.nodup_nil, by simp [namesOf], by simp [Owns], fun m _ => rfl⟩
theorem New.one {h : Heap} {n : Nat} {o : HObj} (hn : h n = none) : New h [(n, o)] (upd h n o) :=
  ⟨by simp [namesOf], by simpa [namesOf] using hn, by simp [Owns], fun m hm => upd_ne _ _ _ _ (by simpa [namesOf] using hm)⟩
theorem New.append {h h1 h2 : Heap} {a b : List (Nat × HObj)} (x : New h a h1) (y : New h1 b h2) : New h (a ++ b) h2 := by
  have dis : ∀ m ∈ namesOf a, m ∉ namesOf b := fun m hm hb => by
    obtain ⟨o, ho⟩ := mem_namesOf.1 hm
    have := y.fresh m hb
    rw [x.owns _ ho] at this; cases this
  refine ⟨?_, ?_, ?_, ?_⟩
  · rw [namesOf_append]
    exact List.nodup_append.2 ⟨x.nodup, y.nodup, fun p hp q hq e => dis p hp (e ▸ hq)⟩
  · intro m hm
    rw [namesOf_append, List.mem_append] at hm
    by_cases hb : m ∈ namesOf a
    · exact x.fresh m hb
    · rcases hm with hm | hm
      · exact absurd hm hb
      · rw [← x.upto m hb]; exact y.fresh m hm
  · intro p hp
    rcases List.mem_append.1 hp with hp | hp
    · have : p.1 ∈ namesOf a := mem_namesOf.2 ⟨p.2, hp⟩
      rw [y.upto p.1 (dis _ this)]; exact x.owns p hp
    · exact y.owns p hp
  · intro m hm
    rw [namesOf_append, List.mem_append] at hm
    rw [y.upto m fun q => hm (.inr q), x.upto m fun q => hm (.inl q)]
/-- Rows that are forgotten. -/
def dropN (h : Heap) (S : List Nat) : Heap := fun m => if m ∈ S then none else h m
/-- .. new ones, of which some are forgotten. -/
theorem New.drop {h h' : Heap} {a b : List (Nat × HObj)} (x : New h (a ++ b) h') : New h b (dropN h' (namesOf a)) := by
  have hnd := x.nodup
  rw [namesOf_append] at hnd
  obtain ⟨_, nb, dis⟩ := List.nodup_append.1 hnd
  refine ⟨nb, fun m hm => x.fresh m (by rw [namesOf_append]; exact List.mem_append_right _ hm), fun p hp => ?_, fun m hm => ?_⟩
  · have : p.1 ∉ namesOf a := fun q => dis _ q _ (mem_namesOf.2 ⟨p.2, hp⟩) rfl
    simp only [dropN, if_neg this]
    exact x.owns p (List.mem_append_right _ hp)
  · by_cases e : m ∈ namesOf a
    · simp only [dropN, if_pos e]
      exact (x.fresh m (by rw [namesOf_append]; exact List.mem_append_left _ e)).symm
    · simp only [dropN, if_neg e]
      exact x.upto m (by rw [namesOf_append]; simp [e, hm])

theorem RepL.unown {E : Env} {h : Heap} {w : World} (R : Rel E h w) {S : List Nat} : ∀ (e : List OV) (vs : List Value), Owns h (OV.rowsRow e) → (∀ p ∈ OV.rowsRow e, p.1 ∈ S) → RepL E h w (e.map OV.val) vs → RepL E (goneL h S) w (e.map OV.dat) vs
  | [], [], _, _, _ => trivial
  | x :: e, v :: vs, ho, hS, hr => ⟨Rep.unown R x (fun p hp => ho p (by rw [OV.rowsRow]; exact List.mem_append_left _ hp)) (fun p hp => hS p (by rw [OV.rowsRow]; exact List.mem_append_left _ hp)) v hr.1,
      RepL.unown R e vs (fun p hp => ho p (by rw [OV.rowsRow]; exact List.mem_append_right _ hp)) (fun p hp => hS p (by rw [OV.rowsRow]; exact List.mem_append_right _ hp)) hr.2⟩
  | [], _ :: _, _, _, hr => hr.elim
  | _ :: _, [], _, _, hr => hr.elim
theorem Rep.unownAgg {E : Env} {h : Heap} {w : World} (R : Rel E h w) {S : List Nat} (e : List OV) (v : Value) (ho : Owns h (OV.rowsRow e)) (hS : ∀ p ∈ OV.rowsRow e, p.1 ∈ S) (hr : Rep E h w (.agg (e.map OV.val)) v) : Rep E (goneL h S) w (.agg (e.map OV.dat)) v := by
  cases hr with
  | agg _ vs hl hr =>
    have := RepL.unown R e vs ho hS (RepL.mk hl hr)
    exact .agg _ vs this.length this.get
end Go.Hl

/-
  New own values, and rows that are thrown away.
-/
namespace Go.Hl
set_option linter.unusedVariables false
set_option linter.unusedSimpArgs false

/-- Rows that were not there (l), and others that were not there and don't matter (T). -/
structure NewT (h : Heap) (T : List Nat) (l : List (Nat × HObj)) (h' : Heap) : Prop where
  nodup : (T ++ namesOf l).Nodup
  fresh : ∀ m ∈ T ++ namesOf l, h m = none
  there : ∀ m ∈ T, h' m ≠ none
  owns : Owns h' l
  upto : Upto (T ++ namesOf l) h h'

theorem NewT.toNew {h h' : Heap} {l : List (Nat × HObj)} (x : NewT h [] l h') : New h l h' := ⟨x.nodup, x.fresh, x.owns, x.upto⟩
theorem New.toT {h h' : Heap} {l : List (Nat × HObj)} (x : New h l h') : NewT h [] l h' := ⟨x.nodup, x.fresh, by simp, x.owns, x.upto⟩
theorem NewT.drop {h h' : Heap} {T : List Nat} {l : List (Nat × HObj)} (x : NewT h T l h') : New h l (dropN h' T) := by
  obtain ⟨_, nb, dis⟩ := List.nodup_append.1 x.nodup
  refine ⟨nb, fun m hm => x.fresh m (List.mem_append_right _ hm), fun p hp => ?_, fun m hm => ?_⟩
  · have : p.1 ∉ T := fun q => dis _ q _ (mem_namesOf.2 ⟨p.2, hp⟩) rfl
    simp only [dropN, if_neg this]
    exact x.owns p hp
  · by_cases e : m ∈ T
    · simp only [dropN, if_pos e]
      exact (x.fresh m (List.mem_append_left _ e)).symm
    · simp only [dropN, if_neg e]
      exact x.upto m (by simp [e, hm])
theorem NewT.some {h h' : Heap} {T : List Nat} {l : List (Nat × HObj)} (x : NewT h T l h') {m : Nat} (hm : m ∈ T ++ namesOf l) : h' m ≠ none := by
  rcases List.mem_append.1 hm with hm | hm
  · exact x.there m hm
  · obtain ⟨o, ho⟩ := mem_namesOf.1 hm
    rw [x.owns _ ho]; simp
/-- One row more that matters. -/
theorem NewT.row {h h' : Heap} {T : List Nat} {l : List (Nat × HObj)} (x : NewT h T l h') {n : Nat} {o : HObj} (hn : h' n = none) : NewT h T ((n, o) :: l) (upd h' n o) := by
  have hn1 : n ∉ T ++ namesOf l := fun q => x.some q hn
  have nd := List.nodup_append.1 x.nodup
  refine ⟨List.nodup_append.2 ⟨nd.1, ?_, ?_⟩, ?_, ?_, fun p hp => ?_, fun m hm => ?_⟩
  · show (n :: namesOf l).Nodup
    exact List.nodup_cons.2 ⟨fun q => hn1 (List.mem_append_right _ q), nd.2.1⟩
  · intro a ha b hb e
    have hb' : b ∈ n :: namesOf l := hb
    rcases List.mem_cons.1 hb' with rfl | hb'
    · exact hn1 (e ▸ List.mem_append_left _ ha)
    · exact nd.2.2 a ha b hb' e
  · intro m hm
    rcases List.mem_append.1 hm with hm | hm
    · exact x.fresh m (List.mem_append_left _ hm)
    · have hm' : m ∈ n :: namesOf l := hm
      rcases List.mem_cons.1 hm' with rfl | hm'
      · rw [← x.upto m hn1]; exact hn
      · exact x.fresh m (List.mem_append_right _ hm')
  · intro m hm
    have : m ≠ n := fun e => hn1 (e ▸ List.mem_append_left _ hm)
    rw [upd_ne _ _ _ _ this]; exact x.there m hm
  · rcases List.mem_cons.1 hp with rfl | hp
    · exact upd_same _ _ _
    · have : p.1 ≠ n := fun e => hn1 (e ▸ List.mem_append_right _ (mem_namesOf.2 ⟨p.2, hp⟩))
      rw [upd_ne _ _ _ _ this]; exact x.owns p hp
  · have h1 : m ≠ n := fun e => hm (e ▸ List.mem_append_right _ (by simp [namesOf]))
    rw [upd_ne _ _ _ _ h1]
    refine x.upto m fun q => hm ?_
    rcases List.mem_append.1 q with q | q
    · exact List.mem_append_left _ q
    · exact List.mem_append_right _ (List.mem_cons_of_mem _ q)
/-- What a row reads as behind a call that brings new rows. -/
theorem New.keep {h h' : Heap} {l : List (Nat × HObj)} (x : New h l h') {n : Nat} {o : HObj} (hn : h n = some o) : h' n = some o := by
  rw [x.upto n fun q => by rw [x.fresh n q] at hn; cases hn]; exact hn
theorem OV.val_v (x : HVal) : (OV.v x).val = x := rfl
theorem OS.flat {α : Type} {R : α → List OV → Prop} {sz : Nat} {l : List α} {y : OV} (h : OS R sz l y) : y.val.flat = true := by
  rcases h with ⟨rfl, _⟩ | ⟨n, es, rfl, _⟩ <;> rfl
theorem OS.one {α : Type} {R : α → List OV → Prop} {sz : Nat} {l : List α} {y : OV} (h : OS R sz l y) : y.val.cells = [y.val] := by
  rcases h with ⟨rfl, _⟩ | ⟨n, es, rfl, _⟩ <;> rfl
theorem rowsRows_snoc (es : List (List OV)) (e : List OV) : OV.rowsRows (es ++ [e]) = OV.rowsRows es ++ OV.rowsRow e := by
  rw [OV.rowsRows_append]; simp only [OV.rowsRows, List.append_nil]
end Go.Hl

/-
  Own results: contracts, calls under temporary rows, and calls that view all own rows as memory that nobody writes.
-/
namespace Go.Hl
set_option linter.unusedVariables false
set_option linter.unusedSimpArgs false

/-- A contract of a function that hands back new own rows. -/
def FnN (P : Program) (f : FuncId) (args : List HVal) (Q : HVal → List (Nat × HObj) → Prop) : Prop := ∀ h : Heap, HFn P f args h fun r h' => ∃ l, Q r l ∧ New h l h'

theorem New.under {g h' : Heap} {n : Nat} {o : HObj} {l : List (Nat × HObj)} (hg : g n = none) (x : New (upd g n o) l h') : ∃ g', h' = upd g' n o ∧ New g l g' ∧ g' n = none := by
  have hn : n ∉ namesOf l := fun q => by have := x.fresh n q; simp at this
  have hk : h' n = some o := x.keep (upd_same _ _ _)
  refine ⟨dropN h' [n], ?_, ⟨x.nodup, fun m hm => ?_, fun p hp => ?_, fun m hm => ?_⟩, by simp [dropN]⟩
  · funext m
    by_cases e : m = n
    · subst e; rw [upd_same, hk]
    · rw [upd_ne _ _ _ _ e]; simp [dropN, e]
  · have e : m ≠ n := fun e => hn (e ▸ hm)
    have := x.fresh m hm
    rwa [upd_ne _ _ _ _ e] at this
  · have e : p.1 ≠ n := fun e => hn (e ▸ mem_namesOf.2 ⟨p.2, hp⟩)
    have : dropN h' [n] p.1 = h' p.1 := by simp [dropN, e]
    rw [this]; exact x.owns p hp
  · by_cases e : m = n
    · subst e; rw [hg]; simp [dropN]
    · have : dropN h' [n] m = h' m := by simp [dropN, e]
      rw [this, x.upto m hm, upd_ne _ _ _ _ e]
theorem New.under2 {g h' : Heap} {n m : Nat} {x y : HObj} {l : List (Nat × HObj)} (hn : g n = none) (hm : upd g n x m = none) (q : New (upd (upd g n x) m y) l h') : ∃ g', h' = upd (upd g' n x) m y ∧ New g l g' ∧ g' n = none ∧ upd g' n x m = none := by
  obtain ⟨g1, rfl, q1, h1⟩ := q.under hm
  obtain ⟨g2, rfl, q2, h2⟩ := q1.under hn
  exact ⟨g2, rfl, q2, h2, h1⟩
theorem New.under3 {g h' : Heap} {n m k : Nat} {x y z : HObj} {l : List (Nat × HObj)} (hn : g n = none) (hm : upd g n x m = none) (hk : upd (upd g n x) m y k = none) (q : New (upd (upd (upd g n x) m y) k z) l h') :
    ∃ g', h' = upd (upd (upd g' n x) m y) k z ∧ New g l g' ∧ g' n = none ∧ upd g' n x m = none ∧ upd (upd g' n x) m y k = none := by
  obtain ⟨g1, rfl, q1, h1⟩ := q.under hk
  obtain ⟨g2, rfl, q2, h2, h3⟩ := q1.under2 hn hm
  exact ⟨g2, rfl, q2, h2, h3, h1⟩
section
variable {P : Program} {f : FuncId} {args : List HVal} {Q : HVal → List (Nat × HObj) → Prop} {K : HVal → Heap → Prop} {t : Tag K}
end

/-- The walk of a function that hands back new own rows. -/
theorem fnNF {P : Program} {f : FuncId} {fn : Func} {c : Code} (N : Nat) (keep ib : List Nat) (mk : Marks) {args : List HVal} {Q : HVal → List (Nat × HObj) → Prop} (hmix : P.follows .mixedOrders = true) (hf : P.funcs[f]? = some fn) (hb : fn.body = some c)
    (hck : (callable P f && decide (fn.ntmps = N) && codeOK N mk c) = true) (hl : args.length ≤ N)
    (hw : ∀ h, hwpF P N keep ib mk c (fun τ h' => postF P fn.results (fun r h' => ∃ r1 g l, Shift r h' r1 g ∧ Q r1 l ∧ New h l g) () .normal τ h') (postF P fn.results (fun r h' => ∃ r1 g l, Shift r h' r1 g ∧ Q r1 l ∧ New h l g) ()) (argsT 0 args) h ()) : FnN P f args Q := by
  intro h
  have h1 : HFn P f args h (fun r h' => ∃ r1 g l, Shift r h' r1 g ∧ Q r1 l ∧ New h l g) :=
    HFn.mono (fnHF (K := fun r h' => ∃ r1 g l, Shift r h' r1 g ∧ Q r1 l ∧ New h l g) N keep ib mk hmix hf hb hck hl (by
      have := hw h
      refine Eq.mp ?_ this
      have e : (fun r h' => ∃ r1 g l, Shift r h' r1 g ∧ Q r1 l ∧ New h l g) = (fun r h' => ∃ g' : Heap, g'.le h' ∧ ∃ r1 g l, Shift r g' r1 g ∧ Q r1 l ∧ New h l g) := by
        funext r h'
        refine propext ⟨fun ⟨r1, g, l, s, q⟩ => ⟨h', Heap.le_refl _, r1, g, l, s, q⟩, fun ⟨g', hl, r1, g, l, s, q⟩ => ⟨r1, g, l, (Shift.of (Sub.refl _) hl).trans s, q⟩⟩
      rw [e])) fun r h' q => q
  exact fn_of_wp_shift (fn := fn) (c := c) (N := N) h1 fun r h' ⟨r1, g, l, s, q, n⟩ => ⟨r1, g, s, l, q, n⟩

/-! ### all own rows as memory that nobody writes, for the time of a call -/
def goneA (h : Heap) : Heap := fun m => (h m).map fun _ => .gone
theorem goneA_live {h : Heap} {m : Nat} {o : HObj} (ho : goneA h m = some o) : o = .gone := by
  simp only [goneA, Option.map_eq_some_iff] at ho
  obtain ⟨_, _, rfl⟩ := ho; rfl
theorem imm_goneA {E : Env} {h : Heap} {w : World} {b : Nat} (hb : b < w.heap.size) : Imm E (goneA h) w b := ⟨hb, fun m o hm ho => by rw [goneA_live hm] at ho; exact ho.elim⟩
theorem Rel.goneA {E : Env} {h : Heap} {w : World} (R : Rel E h w) : Rel E (goneA h) w := by
  refine ⟨R.fin, fun m hm => R.dom m fun q => hm (by simp [Hl.goneA, q]), ?_, ?_, ?_, R.laid.imm fun b hb => imm_goneA hb.1⟩
  · intro m o b hm ho; rw [goneA_live hm] at ho; exact ho.elim
  · intro m o m' o' b hm ho; rw [goneA_live hm] at ho; exact ho.elim
  · intro m o hm; rw [goneA_live hm]; trivial
theorem HFn.lendA {P : Program} {f : FuncId} {args args' : List HVal} {h : Heap} {K : HVal → Heap → Prop} {K' : HVal → List (Nat × HObj) → Prop}
    (hview : ∀ E w vs, Rel E h w → RepL E h w args vs → RepL E (goneA h) w args' vs) (a : HFn P f args' (goneA h) K)
    (hK : ∀ r h', K r h' → ∃ l, K' r l ∧ New (goneA h) l h' ∧ r.solid = true ∧ ∀ p ∈ l, p.2.solid = true) :
    HFn P f args h fun r h' => ∃ l, K' r l ∧ New h l h' := by
  refine ⟨a.1, fun E w vs R hv => Calls.mono (a.2 E w vs R.goneA (hview E w vs R hv)) fun e w' he => ?_⟩
  cases e <;> try exact he
  obtain ⟨r, h', E', k, ev, R', rx⟩ := he
  obtain ⟨l, k', nw, hr, hsol⟩ := hK r h' k
  have hnew : ∀ m ∈ namesOf l, h m = none := fun m hm => by
    have := nw.fresh m hm
    simpa [goneA] using this
  let h2 : Heap := fun m => if m ∈ namesOf l then h' m else h m
  have e1 : ∀ m, m ∈ namesOf l → h2 m = h' m := fun m hm => if_pos hm
  have e2 : ∀ m, m ∉ namesOf l → h2 m = h m := fun m hm => if_neg hm
  let E2 : Env := { loc := E'.loc, fp := fun n => if n ∈ namesOf l then E'.fp n else E.fp n, used := E'.used }
  have f1 : ∀ m, m ∈ namesOf l → E2.fp m = E'.fp m := fun m hm => if_pos hm
  have f2 : ∀ m, m ∉ namesOf l → E2.fp m = E.fp m := fun m hm => if_neg hm
  have imm0 : ∀ b, b < w.heap.size → Imm E (goneA h) w b := fun b hb => imm_goneA hb
  have solL : ∀ m o, m ∈ namesOf l → h' m = some o → o.solid = true := fun m o hm ho => by
    obtain ⟨o', ho'⟩ := mem_namesOf.1 hm
    have := nw.owns _ ho'
    rw [ho] at this
    obtain rfl := Option.some.inj this
    exact hsol _ ho'
  have evA : Ev E h w E2 h2 w' := by
    refine ⟨ev.size, fun b hb => ?_, ev.shape, ev.loc, ev.os, ev.out⟩
    have h1 := ev.keep b (imm0 b hb.1)
    refine ⟨h1.1, h1.2.1, fun m o hm ho hf => ?_⟩
    by_cases e : m ∈ namesOf l
    · rw [e1 m e] at hm; rw [f1 m e] at hf; exact h1.2.2 m o hm ho hf
    · rw [e2 m e] at hm; rw [f2 m e] at hf; exact hb.2 m o hm ho hf
  have R2 : Rel E2 h2 w' := by
    refine ⟨R'.fin, fun m hm => ?_, ?_, ?_, ?_, R.laid.ev evA⟩
    · by_cases e : m ∈ namesOf l
      · rw [e1 m e] at hm; exact R'.dom m hm
      · rw [e2 m e] at hm; exact (ev.loc m (R.dom m hm)).2
    · intro m o b hm ho hf
      by_cases e : m ∈ namesOf l
      · rw [e1 m e] at hm; rw [f1 m e] at hf; exact R'.lt m o b hm ho hf
      · rw [e2 m e] at hm; rw [f2 m e] at hf; exact Nat.lt_of_lt_of_le (R.lt m o b hm ho hf) ev.size
    · intro m o m' o' b hm ho hm' ho' hf hf'
      by_cases e : m ∈ namesOf l
      · rw [e1 m e] at hm; rw [f1 m e] at hf
        by_cases e' : m' ∈ namesOf l
        · rw [e1 m' e'] at hm'; rw [f1 m' e'] at hf'; exact R'.apart m o m' o' b hm ho hm' ho' hf hf'
        · rw [e2 m' e'] at hm'; rw [f2 m' e'] at hf'
          exact absurd hf ((ev.keep b (imm0 b (R.lt m' o' b hm' ho' hf'))).2.2 m o hm ho)
      · rw [e2 m e] at hm; rw [f2 m e] at hf
        by_cases e' : m' ∈ namesOf l
        · rw [e1 m' e'] at hm'; rw [f1 m' e'] at hf'
          exact absurd hf' ((ev.keep b (imm0 b (R.lt m o b hm ho hf))).2.2 m' o' hm' ho')
        · rw [e2 m' e'] at hm'; rw [f2 m' e'] at hf'; exact R.apart m o m' o' b hm ho hm' ho' hf hf'
    · intro m o hm
      by_cases e : m ∈ namesOf l
      · rw [e1 m e] at hm
        exact ORel.solid (E := E') (E' := E2) (fun n hn => ⟨rfl, hn⟩) (fun _ _ => rfl) rfl (f1 m e) (fun _ _ => rfl) (solL m o e hm) (R'.obj m o hm)
      · rw [e2 m e] at hm
        cases o with
        | gone => trivial
        | row sz es => exact (R.obj m _ hm).ev evA (ev.loc m (R.dom m (by simp [hm]))).1 (f2 m e) fun b _ hb => (ev.keep b (imm0 b (R.lt m _ b hm trivial hb))).1
        | abs Q => exact (R.obj m _ hm).ev evA (ev.loc m (R.dom m (by simp [hm]))).1 (f2 m e) fun b _ hb => (ev.keep b (imm0 b (R.lt m _ b hm trivial hb))).1
        | raw t cs => exact (R.obj m _ hm).ev evA (ev.loc m (R.dom m (by simp [hm]))).1 (f2 m e) fun b _ hb => (ev.keep b (imm0 b (R.lt m _ b hm trivial hb))).1
        | map kt et l' => exact (R.obj m _ hm).ev evA (ev.loc m (R.dom m (by simp [hm]))).1 (f2 m e) fun b _ hb => (ev.keep b (imm0 b (R.lt m _ b hm trivial hb))).1
  refine ⟨r, h2, E2, ⟨l, k', ⟨nw.nodup, hnew, fun p hp => ?_, fun m hm => e2 m hm⟩⟩, evA, R2, Rep.solid (E := E') (E' := E2) (fun n hn => ⟨rfl, hn⟩) (fun _ _ => rfl) rx hr⟩
  rw [e1 p.1 (mem_namesOf.2 ⟨p.2, hp⟩)]; exact nw.owns p hp

/-- What a value reads as when all own rows are left alone. -/
def View (h : Heap) (x x' : HVal) : Prop := ∀ E w v, Rel E h w → Rep E h w x v → Rep E (goneA h) w x' v
def ViewL (h : Heap) : List HVal → List HVal → Prop
  | [], [] => True
  | x :: xs, y :: ys => View h x y ∧ ViewL h xs ys
  | _, _ => False
theorem imm_lt {E : Env} {h : Heap} {w : World} {b : Nat} (i : Imm E h w b) : Imm E (goneA h) w b := imm_goneA i.1
theorem View.same (h : Heap) (x : HVal) : View h x x := fun E w v R r => r.imm fun b i => imm_lt i
theorem imm_goneLA {E : Env} {h : Heap} {w : World} {S : List Nat} : ∀ b, Imm E (Hl.goneL h S) w b → Imm E (goneA h) w b := fun b i => imm_goneA i.1
theorem View.agg {h : Heap} (e : List OV) (ho : Owns h (OV.rowsRow e)) : View h (.agg (e.map OV.val)) (.agg (e.map OV.dat)) := fun E w v R r =>
  (Rep.unownAgg R (S := namesOf (OV.rowsRow e)) e v ho (fun p hp => mem_namesOf.2 ⟨p.2, hp⟩) r).imm imm_goneLA
/-- A pointer into an own row. -/
theorem View.op {h : Heap} {n sz i off : Nat} (es : List (List OV)) (hn : h n = some (.row sz (OV.cells es))) (hne : es ≠ []) (ho : Owns h (OV.rowsRows es)) : View h (.op n sz i off) (.ip sz (OV.datRows es) i off) := by
  intro E w v R r
  cases v <;> try (cases r; done)
  cases r with
  | op _ _ _ _ b o hd hl =>
    obtain ⟨b', o', hl', hbS, hs, cs, ct, cv, T, hh, hm', hT, hD, hc, hrr⟩ := row_of R hn (.inr ⟨_, hl⟩)
    rw [hl] at hl'
    obtain ⟨rfl, rfl⟩ := Prod.mk.inj (Option.some.inj hl')
    have hcs : ∀ i j y, at2 (OV.datRows es) i j = some y → ∃ c, at2 es i j = some c ∧ y = c.dat ∧ cs[o + i * sz + j]? = some (cv i j) ∧ (cv i j).oneCell' = true ∧ Rep E h w c.val (cv i j) := by
      intro i j y hy
      rw [OV.datRows_map, at2_map] at hy
      obtain ⟨c, hc1, rfl⟩ := Option.map_eq_some_iff.1 hy
      have hcell : at2 (OV.cells es) i j = some (.v c.val) := by rw [OV.cells, at2_map, hc1]; rfl
      have h2 := hrr i j _ hcell
      generalize hcv : cv i j = z at h2
      cases h2 with
      | v x c' S' h1 hx => exact ⟨c, hc1, rfl, hcv ▸ hc i j _ hcell, h1, hx⟩
    refine .ip sz (OV.datRows es) i off b o cv (imm_goneA (R.lt n _ b hn trivial hbS)) ?_ ?_ ?_ ?_
    · intro e he
      rw [OV.datRows_map, List.mem_map] at he
      obtain ⟨e', he', rfl⟩ := he
      have := hs (e'.map fun c => Cell.v c.val) (List.mem_map.2 ⟨e', he', rfl⟩)
      simpa using this
    · intro i j y hy
      obtain ⟨c, _, _, h1, _, _⟩ := hcs i j y hy
      simp only [World.cell?, hh]
      rw [← h1]
      simp
    · intro i j y hy; obtain ⟨c, _, _, _, h1, _⟩ := hcs i j y hy; exact h1
    · intro i j y hy
      obtain ⟨c, hc1, rfl, _, _, h1⟩ := hcs i j y hy
      obtain ⟨e, he, hj⟩ := at2_some hc1
      exact (unownRows R (S := namesOf (OV.rowsRows es)) es ho (fun p hp => mem_namesOf.2 ⟨p.2, hp⟩) e (List.mem_of_getElem? he) c (List.mem_of_getElem? hj) _ h1).imm imm_goneLA
theorem ViewL.repL {h : Heap} : ∀ {xs ys : List HVal}, ViewL h xs ys → ∀ E w vs, Rel E h w → RepL E h w xs vs → RepL E (goneA h) w ys vs
  | [], [], _, E, w, [], R, r => trivial
  | x :: xs, y :: ys, hv, E, w, v :: vs, R, r => ⟨hv.1 E w v R r.1, ViewL.repL hv.2 E w vs R r.2⟩
  | [], [], _, E, w, _ :: _, R, r => r.elim
  | x :: xs, y :: ys, hv, E, w, [], R, r => r.elim
  | [], _ :: _, h, _, _, _, _, _ => h.elim
  | _ :: _, [], h, _, _, _, _, _ => h.elim
theorem ViewL.nil {h : Heap} : ViewL h [] [] := trivial
theorem ViewL.cons {h : Heap} {x y : HVal} {xs ys : List HVal} (a : View h x y) (b : ViewL h xs ys) : ViewL h (x :: xs) (y :: ys) := ⟨a, b⟩
/-- Results that point into no memory that nobody writes. -/
def SolidQ (Q : HVal → List (Nat × HObj) → Prop) : Prop := ∀ r l, Q r l → r.solid = true ∧ ∀ p ∈ l, p.2.solid = true
theorem FnN.lend {P : Program} {f : FuncId} {args args' : List HVal} {Q : HVal → List (Nat × HObj) → Prop} {h : Heap} (a : FnN P f args' Q) (hv : ViewL h args args') (hQ : SolidQ Q) : HFn P f args h fun r h' => ∃ l, Q r l ∧ New h l h' :=
  HFn.lendA hv.repL (a (goneA h)) fun r h' ⟨l, q, n⟩ => ⟨l, q, n, (hQ r l q).1, (hQ r l q).2⟩
theorem Fn0.lend {P : Program} {f : FuncId} {args args' : List HVal} {r : HVal} {h : Heap} (a : Fn0 P f args' r) (hv : ViewL h args args') (hr : r.solid = true) : HFn P f args h fun r' h' => r' = r ∧ h' = h :=
  (HFn.lendA (K' := fun r' l => r' = r ∧ l = []) hv.repL (a (goneA h)) fun r' h' ⟨e, e'⟩ => by
    subst e; subst e'; exact ⟨[], ⟨rfl, rfl⟩, .nil _, hr, by simp⟩).mono fun r' h' ⟨l, ⟨e1, e2⟩, n⟩ => by
    subst e2
    exact ⟨e1, funext fun m => n.upto m (by simp [namesOf])⟩
section
variable {P : Program} {f : FuncId} {args args' : List HVal} {Q : HVal → List (Nat × HObj) → Prop} {K : HVal → Heap → Prop} {t : Tag K} {g : Heap}
theorem HFnF.lend0 {r : HVal} (a : Fn0 P f args' r) (hv : ViewL g args args') (hr : r.solid = true) (k : K r g) : HFnF P f args g K t :=
  HFnF.mkH (a.lend hv hr) fun r' h' ⟨e, e'⟩ => by subst e; subst e'; exact k
theorem HFnF.ln (a : FnN P f args' Q) (hv : ViewL g args args') (hQ : SolidQ Q) (k : ∀ r l g', Q r l → New g l g' → K r g') : HFnF P f args g K t :=
  HFnF.mkH (a.lend hv hQ) fun r h' ⟨l, q, n⟩ => k r l h' q n
end

/-! ### own values whose cells point nowhere else -/
mutual
def OV.sol : OV → Bool
  | .v x => x.solid
  | .nil _ => true
  | .sl _ _ es => OV.solRows es
def OV.solRows : List (List OV) → Bool
  | [] => true
  | e :: es => OV.solRow e && OV.solRows es
def OV.solRow : List OV → Bool
  | [] => true
  | x :: e => x.sol && OV.solRow e
end
theorem OV.val_solid : ∀ {x : OV}, x.sol = true → x.val.solid = true
  | .v x, h => by simpa only [OV.sol, OV.val] using h
  | .nil _, _ => by simp [OV.val, HVal.solid]
  | .sl _ _ _, _ => by simp [OV.val, HVal.solid]
theorem OV.solRow_all : ∀ (e : List OV), OV.solRow e = e.all OV.sol
  | [] => rfl
  | x :: e => by rw [OV.solRow, OV.solRow_all e]; rfl
theorem OV.solRows_all : ∀ (es : List (List OV)), OV.solRows es = es.all (fun e => e.all OV.sol)
  | [] => rfl
  | e :: es => by rw [OV.solRows, OV.solRows_all es, OV.solRow_all]; rfl
theorem OV.solidL_val : ∀ {e : List OV}, OV.solRow e = true → HVal.solidL (e.map OV.val) = true
  | [], _ => rfl
  | x :: e, h => by
    simp only [OV.solRow, Bool.and_eq_true] at h
    simp only [List.map_cons, HVal.solidL, OV.val_solid h.1, OV.solidL_val h.2, Bool.and_self]
theorem OV.cells_solid {sz : Nat} {es : List (List OV)} (h : OV.solRows es = true) : (HObj.row sz (OV.cells es)).solid = true := by
  rw [OV.solRows_all] at h
  simp only [HObj.solid, OV.cells, List.all_map, List.all_eq_true, Function.comp_apply] at h ⊢
  intro e he c hc
  exact OV.val_solid (h e he c hc)
mutual
theorem OV.rows_solid : ∀ {x : OV}, x.sol = true → ∀ p ∈ x.rows, p.2.solid = true
  | .v _, _ => by simp [OV.rows]
  | .nil _, _ => by simp [OV.rows]
  | .sl n sz es, h => fun p hp => by
    rw [OV.rows] at hp
    rcases List.mem_cons.1 hp with rfl | hp
    · exact OV.cells_solid (by simpa only [OV.sol] using h)
    · exact OV.rowsRows_solid (by simpa only [OV.sol] using h) p hp
theorem OV.rowsRows_solid : ∀ {es : List (List OV)}, OV.solRows es = true → ∀ p ∈ OV.rowsRows es, p.2.solid = true
  | [], _ => by simp [OV.rowsRows]
  | e :: es, h => fun p hp => by
    simp only [OV.solRows, Bool.and_eq_true] at h
    rw [OV.rowsRows] at hp
    rcases List.mem_append.1 hp with hp | hp
    · exact OV.rowsRow_solid h.1 p hp
    · exact OV.rowsRows_solid h.2 p hp
theorem OV.rowsRow_solid : ∀ {e : List OV}, OV.solRow e = true → ∀ p ∈ OV.rowsRow e, p.2.solid = true
  | [], _ => by simp [OV.rowsRow]
  | x :: e, h => fun p hp => by
    simp only [OV.solRow, Bool.and_eq_true] at h
    rw [OV.rowsRow] at hp
    rcases List.mem_append.1 hp with hp | hp
    · exact OV.rows_solid h.1 p hp
    · exact OV.rowsRow_solid h.2 p hp
end
end Go.Hl

/-
  What own results are: forms of contracts.
-/
namespace Go.Hl
set_option linter.unusedVariables false
set_option linter.unusedSimpArgs false
/-- An own slice is handed back (w: in what). -/
def QS (R : OV → Prop) (w : HVal → HVal := fun x => x) : HVal → List (Nat × HObj) → Prop := fun r l => ∃ y, R y ∧ r = w y.val ∧ l = y.rows
/-- A struct with own slices is handed back. -/
def QA (R : List OV → Prop) (w : HVal → HVal := fun x => x) : HVal → List (Nat × HObj) → Prop := fun r l => ∃ e, R e ∧ r = w (.agg (e.map OV.val)) ∧ l = OV.rowsRow e
theorem New.row {h h' : Heap} {l : List (Nat × HObj)} (x : New h l h') {n : Nat} {o : HObj} (hn : h' n = none) : New h ((n, o) :: l) (upd h' n o) := (x.toT.row hn).toNew
theorem solid_agg {l : List HVal} : (HVal.agg l).solid = HVal.solidL l := by simp only [HVal.solid]
theorem QA.solid {R : List OV → Prop} {w : HVal → HVal} (hR : ∀ e, R e → OV.solRow e = true) (hw : ∀ x : HVal, x.solid = true → (w x).solid = true) : SolidQ (QA R w) := fun r l ⟨y, hy, e1, e2⟩ => by
  subst e1 e2
  exact ⟨hw _ (by rw [solid_agg]; exact OV.solidL_val (hR y hy)), OV.rowsRow_solid (hR y hy)⟩
theorem OS.nil {α : Type} {R : α → List OV → Prop} {sz : Nat} : OS R sz [] (.nil sz) := .inl ⟨rfl, rfl⟩
theorem OS.mk {α : Type} {R : α → List OV → Prop} {sz n : Nat} {l : List α} {es : List (List OV)} (h : OR R l es) : OS R sz l (.sl n sz es) := .inr ⟨n, es, rfl, h⟩
theorem OV.nil_rows (sz : Nat) : (OV.nil sz).rows = [] := by rw [OV.rows]
theorem OV.v_rows (x : HVal) : (OV.v x).rows = [] := by rw [OV.rows]
theorem OV.sl_rows (n sz : Nat) (es : List (List OV)) : (OV.sl n sz es).rows = (n, .row sz (OV.cells es)) :: OV.rowsRows es := by rw [OV.rows]
theorem OV.row_nil : OV.rowsRow [] = [] := by rw [OV.rowsRow]
theorem OV.row_cons (x : OV) (e : List OV) : OV.rowsRow (x :: e) = x.rows ++ OV.rowsRow e := by rw [OV.rowsRow]
theorem OV.val_sl (n sz : Nat) (es : List (List OV)) : (OV.sl n sz es).val = .os n sz 0 es.length := rfl
theorem OV.map_val_nil : List.map OV.val [] = [] := rfl
theorem OV.map_val (x : OV) (e : List OV) : List.map OV.val (x :: e) = x.val :: e.map OV.val := rfl
end Go.Hl

/-
  Own values whose leaves are numbered one after the other (what laws.mark* do).
-/
namespace Go.Hl
set_option linter.unusedVariables false
set_option linter.unusedSimpArgs false

/-- Some rows are rewritten; their names stay, and so does all else. -/
structure Chg (h h' : Heap) (l l' : List (Nat × HObj)) : Prop where
  names : namesOf l' = namesOf l
  owns : Owns h' l'
  upto : Upto (namesOf l) h h'
theorem Chg.trans {h h1 h2 : Heap} {a b c : List (Nat × HObj)} (x : Chg h h1 a b) (y : Chg h1 h2 b c) : Chg h h2 a c :=
  ⟨y.names.trans x.names, y.owns, fun m hm => (y.upto m (by rw [x.names]; exact hm)).trans (x.upto m hm)⟩
theorem OR.split {α : Type} {R : α → List OV → Prop} : ∀ {l : List α} {es : List (List OV)}, OR R l es → ∀ k (hk : k < l.length), ∃ A e B, es = A ++ e :: B ∧ A.length = k ∧ R l[k] e
  | x :: l, e :: es, h, 0, _ => ⟨[], e, es, rfl, rfl, h.1⟩
  | x :: l, e :: es, h, k + 1, hk => by
    obtain ⟨A, e', B, h1, h2, h3⟩ := OR.split h.2 k (by simpa using hk)
    exact ⟨e :: A, e', B, by rw [h1]; rfl, by simp [h2], by simpa using h3⟩
  | [], [], _, k, hk => by simp at hk
  | [], _ :: _, h, _, _ => h.elim
  | _ :: _, [], h, _, _ => h.elim
theorem cells_append (a b : List (List OV)) : OV.cells (a ++ b) = OV.cells a ++ OV.cells b := by simp [OV.cells]
end Go.Hl

/-
  Calls under temporary rows, for some numbers of such rows.
-/
namespace Go.Hl
set_option linter.unusedVariables false
set_option linter.unusedSimpArgs false
theorem Owns.up {g : Heap} {l : List (Nat × HObj)} {n : Nat} {o : HObj} (ow : Owns g l) (hn : g n = none) : Owns (upd g n o) l := fun p hp => by
  have : p.1 ≠ n := fun e => by have := ow p hp; rw [e, hn] at this; cases this
  rw [upd_ne _ _ _ _ this]; exact ow p hp
theorem OR.solm {α : Type} {R : α → List OV → Prop} : ∀ {l : List α} {es : List (List OV)}, (∀ x ∈ l, ∀ e, R x e → OV.solRow e = true) → OR R l es → OV.solRows es = true
  | [], [], _, _ => rfl
  | x :: l, e :: es, hR, h => by rw [OV.solRows, hR x List.mem_cons_self e h.1, OR.solm (fun y hy => hR y (List.mem_cons_of_mem _ hy)) h.2]; rfl
  | [], _ :: _, _, h => h.elim
  | _ :: _, [], _, h => h.elim
theorem OS.solm {α : Type} {R : α → List OV → Prop} {sz : Nat} {l : List α} {y : OV} (hR : ∀ x ∈ l, ∀ e, R x e → OV.solRow e = true) (h : OS R sz l y) : y.sol = true := by
  rcases h with ⟨rfl, _⟩ | ⟨n, es, rfl, h⟩
  · rfl
  · simp only [OV.sol]; exact h.solm hR
end Go.Hl

/-
  Own results within tuples, and their sealed forms.
-/
namespace Go.Hl
set_option linter.unusedVariables false
set_option linter.unusedSimpArgs false
/-! ### a slice that grows from empty -/
/-- An own slice, or an empty one. -/
def oval (sz len : Nat) : Option Nat → HVal
  | none => .sl sz [] true
  | some n => .os n sz 0 len
def oheap (h : Heap) (o : HObj) : Option Nat → Heap
  | none => h
  | some n => upd h n o
theorem oval_none (sz len : Nat) : oval sz len none = .sl sz [] true := rfl
theorem oval_some (sz len n : Nat) : oval sz len (some n) = .os n sz 0 len := rfl
theorem oheap_none (h : Heap) (o : HObj) : oheap h o none = h := rfl
theorem oheap_some (h : Heap) (o : HObj) (n : Nat) : oheap h o (some n) = upd h n o := rfl
/-- Views of own values, as their data and as their numbered data. -/
theorem View.aggD {h : Heap} {c : List HVal} (e : List OV) (hd : e.map OV.dat = c) (ho : Owns h (OV.rowsRow e)) : View h (.agg (e.map OV.val)) (.agg c) := hd ▸ View.agg e ho
end Go.Hl

/-
  Ends of walks that hand back own slices.
-/
namespace Go.Hl
set_option linter.unusedVariables false
set_option linter.unusedSimpArgs false
/-- An own slice, or nil. -/
def onil (sz len : Nat) : Option Nat → HVal
  | none => .nilsl
  | some n => .os n sz 0 len
theorem onil_none (sz len : Nat) : onil sz len none = .nilsl := rfl
theorem onil_some (sz len n : Nat) : onil sz len (some n) = .os n sz 0 len := rfl
/-- Side conditions of a slice of own values that grows. -/
def gside (g : Heap) (es : List (List OV)) : Option Nat → Prop
  | none => es = []
  | some n => g n = none
theorem gside_none (g : Heap) (es : List (List OV)) : gside g es none = (es = []) := rfl
theorem gside_some (g : Heap) (es : List (List OV)) (n : Nat) : gside g es (some n) = (g n = none) := rfl
/-- What has grown, as an own value. -/
def gov (sz : Nat) (es : List (List OV)) : Option Nat → OV
  | none => .nil sz
  | some n => .sl n sz es
theorem gov_none (sz : Nat) (es : List (List OV)) : gov sz es none = .nil sz := rfl
theorem gov_some (sz : Nat) (es : List (List OV)) (n : Nat) : gov sz es (some n) = .sl n sz es := rfl
theorem gov_os {α : Type} {R : α → List OV → Prop} {sz : Nat} {l : List α} {es : List (List OV)} {g : Heap} {o : Option Nat} (h : OR R l es) (hs : gside g es o) : OS R sz l (gov sz es o) := by
  cases o with
  | none => rw [gside_none] at hs; subst hs; exact .inl ⟨rfl, by have := h.length; simpa using this⟩
  | some n => exact OS.mk h
theorem gov_sub {sz : Nat} {es : List (List OV)} {o : Option Nat} : Sub (onil sz es.length o) (gov sz es o).val := by
  cases o with
  | none => exact Sub.nil _ _
  | some n => exact Sub.refl _
theorem gov_new {sz : Nat} {es : List (List OV)} {h g : Heap} {o : Option Nat} (x : New h (OV.rowsRows es) g) (hs : gside g es o) : New h (gov sz es o).rows (oheap g (.row sz (OV.cells es)) o) := by
  cases o with
  | none => rw [gside_none] at hs; subst hs; rw [gov_none, OV.nil_rows, oheap_none]; simpa [OV.rowsRows] using x
  | some n => rw [gov_some, OV.sl_rows, oheap_some]; exact x.row hs
theorem take_cells (es : List (List OV)) : List.take es.length (OV.cells es) = OV.cells es := List.take_of_length_le (by simp [OV.cells])
theorem cells_snoc (es : List (List OV)) (e : List OV) : OV.cells (es ++ [e]) = OV.cells es ++ [e.map fun c => Cell.v c.val] := by rw [cells_append]; rfl
theorem cells_one (e : List OV) : OV.cells [e] = [e.map fun c => Cell.v c.val] := rfl
theorem onil_flat (sz len : Nat) (o : Option Nat) : (onil sz len o).flat = true := by cases o <;> rfl
theorem onil_cells (sz len : Nat) (o : Option Nat) : (onil sz len o).cells = [onil sz len o] := by cases o <;> rfl
theorem cells_len (es : List (List OV)) : (OV.cells es).length = es.length := by simp [OV.cells]
theorem OR.snoc {α : Type} {R : α → List OV → Prop} {l : List α} {es : List (List OV)} {e : List OV} {k : Nat} (h : OR R (l.take k) es) (hk : k < l.length) (he : R l[k] e) : OR R (l.take (k + 1)) (es ++ [e]) := by
  rw [List.take_succ_eq_append_getElem hk]
  exact OR.append h ⟨he, trivial⟩
theorem New.snoc {h g g1 : Heap} {es : List (List OV)} {e : List OV} (x : New h (OV.rowsRows es) g) (y : New g (OV.rowsRow e) g1) : New h (OV.rowsRows (es ++ [e])) g1 := by
  rw [rowsRows_snoc]; exact x.append y
theorem oheap_at {g : Heap} {R : HObj} {o : Option Nat} {m : Nat} (hg : g m = none) (hon : ∀ n, o = some n → ¬ n = m) : oheap g R o m = none := by
  cases o with
  | none => exact hg
  | some n =>
    have := hon n rfl
    rw [oheap_some, upd_ne _ _ _ _ fun e => this e.symm]; exact hg
theorem cells_nil : OV.cells [] = [] := rfl
theorem upd_swap {n m : Nat} {g : Heap} {x y : HObj} (h : ¬ n = m) : upd (upd g n x) m y = upd (upd g m y) n x := by
  funext q; simp only [upd_apply]; split <;> split <;> simp_all
/-! ### heaps that say less -/
def Heap.wk (g h : Heap) : Prop := ∀ E w, Rel E h w → Rel E g w ∧ ∀ b, Imm E h w b → Imm E g w b
theorem Heap.wk_of_le {g h : Heap} (hl : g.le h) : g.wk h := fun E w R => ⟨R.forget hl, fun b i => Imm.le hl i⟩
theorem Heap.wk.trans {a b c : Heap} (x : a.wk b) (y : b.wk c) : a.wk c := fun E w R =>
  ⟨(x E w (y E w R).1).1, fun d i => (x E w (y E w R).1).2 d ((y E w R).2 d i)⟩
theorem Heap.wk.ev {g h : Heap} (x : g.wk h) {E : Env} {w : World} (R : Rel E h w) : Ev E h w E g w :=
  ⟨Nat.le_refl _, fun b hb => ⟨rfl, (x E w R).2 b hb⟩, fun _ _ => rfl, fun _ hn => ⟨rfl, hn⟩, rfl, rfl⟩
theorem HWp.wk {P : Program} {N : Nat} {c : Code} {Q : Exit → Tmps → Heap → Prop} {τ : Tmps} {h g : Heap} (hl : g.wk h) (x : HWp P N c Q τ g) : HWp P N c Q τ h :=
  fun ds E w a R r => Code.wp_mono (fun e a' w' y => AfterC.trans (hl.ev R) y) (x ds E w a (hl E w R).1 (r.ev (hl.ev R)))
theorem HWp.loopW {P : Program} {N : Nat} {c : Code} {Q : Exit → Tmps → Heap → Prop} {τ : Tmps} {h : Heap} {α : Type} (S : α → Tmps) (H : α → Heap) (side : α → Prop) (μ : α → Nat) (x₀ : α)
    (h₀ : SatL (S x₀) τ ∧ (H x₀).wk h ∧ side x₀)
    (round : ∀ x, side x → HWp P N c (thenQ (fun τ' h' => ∃ x', SatL (S x') τ' ∧ (H x').wk h' ∧ side x' ∧ μ x' < μ x) Q) (S x) (H x)) : HWp P N (.loop c) Q τ h :=
  HWp.loop (fun x τ h => SatL (S x) τ ∧ (H x).wk h ∧ side x) μ x₀ h₀ fun x τ h ⟨h1, h2, h3⟩ =>
    HWp.wk h2 (HWp.weaken h1 (Heap.le_refl _) ((round x h3).mono fun e τ h q => by
      cases e <;> simp only [thenQ] at q ⊢ <;> first | exact q | (obtain ⟨x', a, b, c, d⟩ := q; exact ⟨x', ⟨a, b, c⟩, d⟩)))
theorem loopW {P : Program} {N : Nat} {keep ib : List Nat} {mk : Marks} {c : Code} {Q : Exit → Tmps → Heap → Prop} {τ : Tmps} {h : Heap} {t : Tag (Code.loop c, Q)} {α : Type} (hmix : P.follows .mixedOrders = true) (hc : codeOK N mk c = true) (S : α → Tmps) (H : α → Heap) (side : α → Prop) (μ : α → Nat) (x₀ : α)
    (h₀ : SatL (S x₀) τ ∧ (H x₀).wk h ∧ side x₀)
    (round : ∀ x, side x → hwpF P N keep ib mk c (fun τ' h' => ∃ x', SatL (S x') τ' ∧ (H x').wk h' ∧ side x' ∧ μ x' < μ x) Q (S x) (H x) ()) : HWpF P N (.loop c) Q τ h t :=
  HWp.loopW S H side μ x₀ h₀ fun x hx => hwpF_sound hmix c _ _ _ _ hc (round x hx)
/-- One cell says less. -/
def CellWk (x y : Cell) : Prop := ∀ E h w c S, CRep E h w x c S → CRep E h w y c S
theorem CellWk.v {x y : HVal} (s : Sub x y) : CellWk (.v x) (.v y) := fun E h w c S r => by
  cases r with
  | v _ _ _ h1 hx => exact .v _ _ _ h1 (s _ _ _ _ hx)
/-- Rows whose cells say less. -/
def RowsWk : List (List Cell) → List (List Cell) → Prop
  | [], [] => True
  | a :: l, b :: m => (a.length = b.length ∧ ∀ (j : Nat) (x : Cell), b[j]? = some x → ∃ y, a[j]? = some y ∧ CellWk y x) ∧ RowsWk l m
  | _, _ => False
theorem RowsWk.length : ∀ {l m}, RowsWk l m → l.length = m.length
  | [], [], _ => rfl
  | a :: l, b :: m, h => by rw [List.length_cons, List.length_cons, RowsWk.length h.2]
  | [], _ :: _, h => h.elim
  | _ :: _, [], h => h.elim
theorem RowsWk.size {sz : Nat} : ∀ {l m}, RowsWk l m → (∀ e ∈ l, e.length = sz) → ∀ e ∈ m, e.length = sz
  | [], [], _, _ => by simp
  | a :: l, b :: m, h, hs => fun e he => by
    rcases List.mem_cons.1 he with rfl | he
    · rw [← h.1.1]; exact hs a List.mem_cons_self
    · exact RowsWk.size h.2 (fun e he => hs e (List.mem_cons_of_mem _ he)) e he
  | [], _ :: _, h, _ => h.elim
  | _ :: _, [], h, _ => h.elim
end Go.Hl

/-
  Structs whose slices change: own fields written, heaps that say less, several slices that grow at a time.
-/
namespace Go.Hl
set_option linter.unusedVariables false
set_option linter.unusedSimpArgs false
/-! ### four slices that grow together -/
abbrev Q4 := Option (Nat × Nat × Nat × Nat)
def q1 : Q4 → Option Nat | none => none | some x => some x.1
def q2 : Q4 → Option Nat | none => none | some x => some x.2.1
/-! ### ends of walks -/
/-- A zero value of a type, as an own value. -/
def ZeroO (R : List OV → Prop) (z : List HVal) : Prop := ∃ e, R e ∧ OV.rowsRow e = [] ∧ Sub (.agg z) (.agg (e.map OV.val))
def WSub (w : HVal → HVal) : Prop := ∀ x y, Sub x y → Sub (w x) (w y)
theorem SubL.mid {x y : HVal} (s : Sub x y) (b : List HVal) : ∀ a : List HVal, SubL (a ++ x :: b) (a ++ y :: b)
  | [] => .cons s (.refl b)
  | z :: a => .cons (.refl z) (SubL.mid s b a)
theorem wsub_tup (a b : List HVal) : WSub fun x => .tup (a ++ x :: b) := fun _ _ s => Sub.tup (SubL.mid s b a)
theorem own_zero {R : List OV → Prop} {w : HVal → HVal} {z : List HVal} {h h' : Heap} (hz : ZeroO R z) (hw : WSub w) (hl : h.le h') : ∃ r1 g l, Shift (w (.agg z)) h' r1 g ∧ QA R w r1 l ∧ New h l g := by
  obtain ⟨e, h1, h2, h3⟩ := hz
  exact ⟨_, h, _, Shift.of (hw _ _ h3) hl, ⟨e, h1, rfl, h2.symm⟩, New.nil h⟩
theorem own_end {R : List OV → Prop} {w : HVal → HVal} {e : List OV} {h h' g : Heap} (hR : R e) (hn : New h (OV.rowsRow e) g) (hl : g.le h') : ∃ r1 g l, Shift (w (.agg (e.map OV.val))) h' r1 g ∧ QA R w r1 l ∧ New h l g :=
  ⟨_, g, _, Shift.of (Sub.refl _) hl, ⟨e, hR, rfl, rfl⟩, hn⟩
/-! ### own slices in a struct: read and written -/
/-! ### loops that leave the rows, or write one -/
theorem upd_self {h : Heap} {n : Nat} {o : HObj} (hn : h n = some o) : upd h n o = h := by
  funext q; simp only [upd_apply]; split
  · subst_vars; exact hn.symm
  · rfl
theorem Heap.le_both {g h : Heap} {n : Nat} {o : HObj} (hl : g.le h) : (upd g n o).le (upd h n o) := fun q => by
  simp only [upd_apply]; split
  · exact .inr rfl
  · exact hl q
/-! ### methods that change an own struct in its box -/
/-- A pointer to an own struct in its box, lent out. -/
theorem View.box {T : List HVal} {g : Heap} {nb sz : Nat} {e : List OV} (hd : e.map OV.dat = T) (hn : g nb = none) (ho : Owns g (OV.rowsRow e)) : View (upd g nb (.row sz (OV.cells [e]))) (.op nb sz 0 0) (.ip sz [T] 0 0) := by
  have := View.op (h := upd g nb (.row sz (OV.cells [e]))) (n := nb) (sz := sz) (i := 0) (off := 0) [e] (by rw [upd_same]) (by simp) (by
    have h1 : OV.rowsRows [e] = OV.rowsRow e := by simp [OV.rowsRows]
    rw [h1]; exact ho.up hn)
  have h2 : OV.datRows [e] = [T] := by rw [OV.datRows_map]; simp [hd]
  rwa [h2] at this
theorem New.le {h g : Heap} {l : List (Nat × HObj)} (w : New h l g) : h.le g := fun q => by
  by_cases hq : q ∈ namesOf l
  · exact .inl (w.fresh q hq)
  · exact .inr (w.upto q hq).symm
/-! ### an element of an own slice of structs is replaced -/
theorem cells_get {es : List (List OV)} {k : Nat} {e : List OV} (h : es[k]? = some e) : (OV.cells es)[k]? = some (e.map fun c => Cell.v c.val) := by
  rw [OV.cells, List.getElem?_map, h]; rfl
theorem OR.getE {α : Type} {R : α → List OV → Prop} : ∀ {l : List α} {es : List (List OV)}, OR R l es → ∀ (k : Nat) x, l[k]? = some x → ∃ e, es[k]? = some e ∧ R x e
  | [], [], _, k, x, h => by simp at h
  | a :: l, b :: es, h, 0, x, e => by simp at e; subst e; exact ⟨b, rfl, h.1⟩
  | a :: l, b :: es, h, k + 1, x, e => OR.getE h.2 k x (by simpa using e)
  | [], _ :: _, h, _, _, _ => h.elim
  | _ :: _, [], h, _, _, _ => h.elim
/-- An own slice that has an element is a row. -/
theorem OS.some {α : Type} {R : α → List OV → Prop} {sz : Nat} {l : List α} {y : OV} (h : OS R sz l y) (hl : 0 < l.length) : ∃ n es, y = .sl n sz es ∧ OR R l es := by
  rcases h with ⟨_, h⟩ | h
  · rw [h] at hl; simp at hl
  · exact h
/-! ### which heap says less, name by name -/
theorem Heap.le_none {g h : Heap} (hl : g.le h) {n : Nat} (hn : h n = none) : g n = none := by
  rcases hl n with e | e
  · exact e
  · rw [e, hn]
/-! ### a call, seen from a heap that says less -/
theorem HFn.wk {P : Program} {f : FuncId} {args : List HVal} {g h : Heap} {K : HVal → Heap → Prop} (hl : g.wk h) (a : HFn P f args g K) : HFn P f args h K :=
  ⟨a.1, fun E w vs R r => by
    obtain ⟨R', hi⟩ := hl E w R
    exact (a.2 E w vs R' (RepL.imm hi r)).mono fun e w' q => by
      cases e with
      | returned v =>
        obtain ⟨r, h', E', k, ev, R2, r2⟩ := q
        exact ⟨r, h', E', k, (hl.ev R).trans ev, R2, r2⟩
      | _ => exact q.elim⟩
theorem HFnF.wk {P : Program} {f : FuncId} {args : List HVal} {g h : Heap} {K : HVal → Heap → Prop} {t : Tag K} (hl : g.wk h) (a : HFnF P f args g K t) : HFnF P f args h K t := HFn.wk hl a
/-- .. and its result. -/
theorem HFn.shift {P : Program} {f : FuncId} {args : List HVal} {h : Heap} {K K' : HVal → Heap → Prop} (a : HFn P f args h K') (hk : ∀ r h', K' r h' → ∃ g : Heap, g.wk h' ∧ K r g) : HFn P f args h K :=
  ⟨a.1, fun E w vs R r => by
    exact (a.2 E w vs R r).mono fun e w' q => by
      cases e with
      | returned v =>
        obtain ⟨r, h', E', k, ev, R2, r2⟩ := q
        obtain ⟨g, hg, k'⟩ := hk r h' k
        obtain ⟨R3, hi⟩ := hg E' w' R2
        exact ⟨r, g, E', k', ev.trans (hg.ev R2), R3, Rep.imm hi r2⟩
      | _ => exact q.elim⟩
/-! ### a row of numbers that is filled from the left -/
set_option linter.unusedVariables false
set_option linter.unusedSimpArgs false
/-- A general contract by the walk, where what is handed back may be seen in another way. -/
theorem fnKF {P : Program} {f : FuncId} {fn : Func} {c : Code} (N : Nat) (keep ib : List Nat) (mk : Marks) {args : List HVal} {h : Heap} {K : HVal → Heap → Prop} (hmix : P.follows .mixedOrders = true) (hf : P.funcs[f]? = some fn) (hb : fn.body = some c)
    (hck : (callable P f && decide (fn.ntmps = N) && codeOK N mk c) = true) (hl : args.length ≤ N)
    (hw : hwpF P N keep ib mk c (fun τ h' => postF P fn.results (fun r h' => ∃ r1 g, Shift r h' r1 g ∧ K r1 g) () .normal τ h') (postF P fn.results (fun r h' => ∃ r1 g, Shift r h' r1 g ∧ K r1 g) ()) (argsT 0 args) h ()) : HFn P f args h K :=
  fn_of_wp_shift (fn := fn) (c := c) (N := N) (fn_hwp N keep ib mk hmix hf hb hck hl (K' := fun r h' => ∃ r1 g, Shift r h' r1 g ∧ K r1 g) (K := fun r h' => ∃ r1 g, Shift r h' r1 g ∧ K r1 g) hw fun _ h' hx => ⟨h', Heap.le_refl _, hx⟩) fun r h' hx => hx
end Go.Hl

/-
  Contracts of Go's library that the kit has proved, as contracts of this layer.
-/
namespace Go.Hl
set_option linter.unusedVariables false
set_option linter.unusedSimpArgs false
/-- A memory with more blocks behind. -/
theorem ev_grow {E : Env} {h : Heap} {w : World} (k : Nat) (os : Array Obj) : Ev E h w E h (Go.Sort.grow (w.drewN k) os) := by
  have hb : ∀ b, b < w.heap.size → (Go.Sort.grow (w.drewN k) os).heap[b]? = w.heap[b]? := fun b hb => by
    show (w.heap ++ os)[b]? = _
    rw [Array.getElem?_append_left hb]
  refine ⟨?_, fun b i => ⟨hb b i.1, ?_, i.2⟩, fun b i => ?_, fun _ hn => ⟨rfl, hn⟩, rfl, rfl⟩
  · show w.heap.size ≤ (w.heap ++ os).size
    simp
  · show b < (w.heap ++ os).size
    have := i.1
    simp; omega
  · simp only [World.shape?, hb b i]
theorem rel_grow {E : Env} {h : Heap} {w : World} (R : Rel E h w) (k : Nat) (os : Array Obj) : Rel E h (Go.Sort.grow (w.drewN k) os) :=
  have ev := ev_grow (E := E) (h := h) (w := w) k os
  ⟨R.fin, R.dom, fun n x b hn hx hb => Nat.lt_of_lt_of_le (R.lt n x b hn hx hb) ev.size, R.apart,
    fun n x hn => (R.obj n x hn).ev ev rfl rfl fun c hx hc => by
      have := R.lt n x c hn hx hc
      show (w.heap ++ os)[c]? = _
      rw [Array.getElem?_append_left this], R.laid.ev ev⟩
theorem fn0_grown {P : Program} {f : FuncId} {args : List HVal} {r : HVal} (hc : callable P f = true)
    (H : ∀ E h w vs, Rel E h w → RepL E h w args vs → Calls P f vs.toArray w fun e w' => ∃ v, e = .returned v ∧ (∀ E' h' w', Rep E' h' w' r v) ∧ ∃ k os, w' = Go.Sort.grow (w.drewN k) os) : Fn0 P f args r := fun h =>
  ⟨hc, fun E w vs R rl => (H E h w vs R rl).mono fun e w' q => by
    obtain ⟨v, rfl, hv, k, os, rfl⟩ := q
    exact ⟨r, h, E, ⟨rfl, rfl⟩, ev_grow k os, rel_grow R k os, hv _ _ _⟩⟩
/-- A laid variable's cells, read through its name. -/
theorem LaidIn.var {E : Env} {h : Heap} {w : World} (x : LaidIn E h w) {P : Program} {name : String} {g : Nat} {Q : Array Value → Prop} (hg : P.globalNamed name = some g) (hm : (g, Q) ∈ laidBlocks) : ∃ cs, w.var? P name = some cs ∧ Q cs := by
  obtain ⟨_, cs, t, f, ht, q⟩ := x _ hm
  exact ⟨cs, by simp only [World.var?, hg, Option.bind_some, ht], q⟩
theorem LaidIn.cell {E : Env} {h : Heap} {w : World} (x : LaidIn E h w) {g : Nat} {Q : Array Value → Prop} (hm : (g, Q) ∈ laidBlocks) : ∃ cs, (∀ i, w.cell? ⟨g, i, none⟩ = cs[i]?) ∧ Q cs := by
  obtain ⟨_, cs, t, f, ht, q⟩ := x _ hm
  exact ⟨cs, fun i => by simp only [World.cell?, ht]; simp, q⟩
end Go.Hl

/-
  Contracts of the shelf that end in 'Below' at the heap's end.
-/
namespace Go.Hl
set_option linter.unusedVariables false
theorem ev_below {E : Env} {h : Heap} {w w' : World} (x : Go.RowKit.Below w.heap.size w w') : Ev E h w E h w' := by
  refine ⟨x.size, fun b i => ⟨x.block b i.1, Nat.lt_of_lt_of_le i.1 x.size, i.2⟩, fun b i => ?_, fun _ hn => ⟨rfl, hn⟩, x.os, x.output⟩
  unfold World.shape?
  rw [x.block b i]
theorem rel_below {E : Env} {h : Heap} {w w' : World} (R : Rel E h w) (x : Go.RowKit.Below w.heap.size w w') : Rel E h w' :=
  have ev := ev_below (E := E) (h := h) x
  ⟨R.fin, R.dom, fun n o b hn hx hb => Nat.lt_of_lt_of_le (R.lt n o b hn hx hb) ev.size, R.apart,
    fun n o hn => (R.obj n o hn).ev ev rfl rfl fun c hx hc => x.block c (R.lt n o c hn hx hc), R.laid.ev ev⟩
theorem fn0_below {P : Program} {f : FuncId} {args : List HVal} {r : HVal} (hc : callable P f = true)
    (H : ∀ E h w vs, Rel E h w → RepL E h w args vs → Calls P f vs.toArray w fun e w' => ∃ v, e = .returned v ∧ (∀ E' h' w', Rep E' h' w' r v) ∧ Go.RowKit.Below w.heap.size w w') : Fn0 P f args r := fun h =>
  ⟨hc, fun E w vs R rl => (H E h w vs R rl).mono fun e w' q => by
    obtain ⟨v, rfl, hv, b⟩ := q
    exact ⟨r, h, E, ⟨rfl, rfl⟩, ev_below b, rel_below R b, hv _ _ _⟩⟩
end Go.Hl

/-
  A part of an own row, as a row of its own.
-/
namespace Go.Hl
set_option linter.unusedVariables false
set_option linter.unusedSimpArgs false
end Go.Hl

/-
  Own objects of which it is known what holds of them: changed under their own names.
-/
namespace Go.Hl
set_option linter.unusedVariables false
set_option linter.unusedSimpArgs false
/-- Another footprint of a name. -/
def Env.fpset (E : Env) (n : Nat) (S : Nat → Prop) : Env where
  loc := E.loc
  fp := fun m c => if m = n then S c else E.fp m c
  used := E.used
/-- What is kept beside a footprint. -/
structure AbsFr (w w' : World) (S S' : Nat → Prop) : Prop where
  new : ∀ c, S' c → S c ∨ w.heap.size ≤ c
  lt : ∀ c, S' c → c < w'.heap.size
  size : w.heap.size ≤ w'.heap.size
  heap : ∀ c, c < w.heap.size → ¬ S c → w'.heap[c]? = w.heap[c]?
  shape : ∀ c, c < w.heap.size → w'.shape? c = w.shape? c
  os : w'.os = w.os
  out : w'.output = w.output
theorem Ev.fpset {E : Env} {h : Heap} {w w' : World} (R : Rel E h w) {n : Nat} {x : HObj} (hn : h n = some x) (hx : x.live) {S : Nat → Prop} (x' : HObj) (F : AbsFr w w' (E.fp n) S) : Ev E h w (E.fpset n S) (upd h n x') w' := by
  refine ⟨F.size, fun c hc => ⟨F.heap c hc.1 (hc.2 n x hn hx), ⟨by have := hc.1; have := F.size; omega, ?_⟩⟩, F.shape, fun m hm => ⟨rfl, hm⟩, F.os, F.out⟩
  intro m y hm hy hf
  by_cases e : m = n
  · subst e
    have hf : S c := by simpa [Env.fpset] using hf
    rcases F.new c hf with q | q
    · exact hc.2 m x hn hx q
    · have := hc.1; omega
  · rw [upd_ne _ _ _ _ e] at hm
    exact hc.2 m y hm hy (by simpa [Env.fpset, e] using hf)
theorem Rel.fpset {E : Env} {h : Heap} {w w' : World} (R : Rel E h w) {n : Nat} {x : HObj} (hn : h n = some x) (hx : x.live) {S : Nat → Prop} (x' : HObj) (F : AbsFr w w' (E.fp n) S) (hO : ORel (E.fpset n S) (upd h n x') w' n x') : Rel (E.fpset n S) (upd h n x') w' := by
  have ev := Ev.fpset R hn hx x' F
  have hfp : ∀ m, m ≠ n → (E.fpset n S).fp m = E.fp m := fun m e => funext fun c => by simp [Env.fpset, e]
  have hold : ∀ m y, m ≠ n → upd h n x' m = some y → h m = some y := fun m y e hm => by rwa [upd_ne _ _ _ _ e] at hm
  have hS : ∀ c, (E.fpset n S).fp n c → S c := fun c hc => by simpa [Env.fpset] using hc
  refine ⟨R.fin, fun m hm => ?_, fun m y c hm hy hf => ?_, fun m y m' y' c hm hy hm' hy' hf hf' => ?_, fun m y hm => ?_, R.laid.ev ev⟩
  · by_cases e : m = n
    · subst e; exact R.dom m (by simp [hn])
    · rw [upd_ne _ _ _ _ e] at hm; exact R.dom m hm
  · by_cases e : m = n
    · subst e; exact F.lt c (hS c hf)
    · rw [hfp m e] at hf
      have := R.lt m y c (hold m y e hm) hy hf
      have := F.size; omega
  · have key : ∀ m y, m ≠ n → upd h n x' m = some y → y.live → (E.fpset n S).fp m c → (E.fpset n S).fp n c → False := fun m y e hm hy hf hf' => by
      rw [hfp m e] at hf
      rcases F.new c (hS c hf') with q | q
      · exact e (R.apart m y n x c (hold m y e hm) hy hn hx hf q)
      · have := R.lt m y c (hold m y e hm) hy hf; omega
    by_cases e : m = n
    · by_cases e' : m' = n
      · rw [e, e']
      · subst e; exact (key m' y' e' hm' hy' hf' hf).elim
    · by_cases e' : m' = n
      · subst e'; exact (key m y e hm hy hf hf').elim
      · rw [hfp m e] at hf; rw [hfp m' e'] at hf'
        exact R.apart m y m' y' c (hold m y e hm) hy (hold m' y' e' hm') hy' hf hf'
  · by_cases e : m = n
    · subst e; rw [upd_same] at hm; cases hm; exact hO
    · have hm' := hold m y e hm
      exact (R.obj m y hm').ev ev rfl (hfp m e) fun c hl hc => F.heap c (R.lt m y c hm' hl hc) fun q => e (R.apart m y n x c hm' hl hn hx hc q)
/-- A predicate of a block and its footprint that looks at these blocks only. -/
def AbsOK (Q : Nat → (Nat → Prop) → World → Prop) : Prop := ∀ b S w0 w, Q b S w0 → S b → (∀ c, S c → w.heap[c]? = w0.heap[c]?) → Q b S w
/-- A call that changes such an object, and nothing else. -/
theorem fn_abs {P : Program} {f : FuncId} {n sz : Nat} {h : Heap} {Q Q' : Nat → (Nat → Prop) → World → Prop} {xs : List HVal} {r : HVal} (hc : callable P f = true) (hQ : AbsOK Q) (hn : h n = some (.abs Q))
    (H : ∀ (E : Env) (g : Heap) (b : Nat) (S : Nat → Prop) (w : World) (vs : List Value), RepL E g w xs vs → Q b S w → S b → (∀ c, S c → c < w.heap.size) →
      Calls P f (Value.pointer (some ⟨b, 0, none⟩) :: vs).toArray w fun e w' => ∃ (u : Value) (S' : Nat → Prop), e = .returned u ∧ (∀ E' h' w', Rep E' h' w' r u) ∧ S' b ∧ Q' b S' w' ∧ AbsFr w w' S S') :
    HFn P f (.op n sz 0 0 :: xs) h fun r' h' => r' = r ∧ h' = upd h n (.abs Q') :=
  ⟨hc, fun E w vs R rl => by
    match vs, rl with
    | v :: vs, rl =>
      obtain ⟨b, hl, hf, w0, hq, ha⟩ := R.obj n _ hn
      have hq := hQ b _ w0 w hq hf ha
      have hv : v = .pointer (some ⟨b, 0, none⟩) := by
        have h1 := rl.1
        cases v <;> (try cases h1; done)
        cases h1 with
        | op _ _ _ _ b' o hd hl' =>
          rw [hl] at hl'
          cases hl'
          simp
      subst hv
      refine (H E h b (E.fp n) w vs rl.2 hq hf fun c hc => R.lt n _ c hn trivial hc).mono ?_
      rintro e w' ⟨u, S', rfl, hu, hSb, hq', F⟩
      exact ⟨r, _, E.fpset n S', ⟨rfl, rfl⟩, Ev.fpset R hn trivial _ F, R.fpset hn trivial _ F ⟨b, hl, by simpa [Env.fpset] using hSb, w', by
        have : (E.fpset n S').fp n = S' := funext fun c => by simp [Env.fpset]
        rw [this]; exact hq', fun _ _ => rfl⟩, hu _ _ _⟩⟩
/-- A row kept as it was laid, as an object of which it is known what holds. -/
theorem Heap.wk_abs {h : Heap} {n : Nat} {t : TypeId} {cs : Array Value} {Q : Nat → (Nat → Prop) → World → Prop} (hn : h n = some (.raw t cs)) (hq : ∀ b S w, S b → w.heap[b]? = some (.cells cs t (0, 0)) → Q b S w) : (upd h n (.abs Q)).wk h := fun E w R => by
  have hc : ∀ m y, upd h n (.abs Q) m = some y → y.live → ∃ y', h m = some y' ∧ y'.live := fun m y hm hy => by
    by_cases e : m = n
    · subst e; exact ⟨_, hn, trivial⟩
    · rw [upd_ne _ _ _ _ e] at hm; exact ⟨y, hm, hy⟩
  have hi : ∀ b, Imm E h w b → Imm E (upd h n (.abs Q)) w b := fun b i => ⟨i.1, fun m y hm hy => by
    obtain ⟨y', h1, h2⟩ := hc m y hm hy
    exact i.2 m y' h1 h2⟩
  refine ⟨⟨R.fin, fun m hm => ?_, fun m y b hm hy hf => ?_, fun m y m' y' b hm hy hm' hy' hf hf' => ?_, fun m y hm => ?_, R.laid.imm hi⟩, hi⟩
  · by_cases e : m = n
    · subst e; exact R.dom m (by simp [hn])
    · rw [upd_ne _ _ _ _ e] at hm; exact R.dom m hm
  · obtain ⟨z, h1, h2⟩ := hc m y hm hy; exact R.lt m z b h1 h2 hf
  · obtain ⟨z, h1, h2⟩ := hc m y hm hy
    obtain ⟨z', h1', h2'⟩ := hc m' y' hm' hy'
    exact R.apart m z m' z' b h1 h2 h1' h2' hf hf'
  · by_cases e : m = n
    · subst e
      rw [upd_same] at hm; cases hm
      obtain ⟨b, hl, hf, hb⟩ := R.obj m _ hn
      exact ⟨b, hl, hf, w, hq b _ w hf hb, fun _ _ => rfl⟩
    · rw [upd_ne _ _ _ _ e] at hm
      exact (R.obj m y hm).imm hi
end Go.Hl

/-
  A function that defers one closure which holds one of its boxes.
-/
namespace Go.Hl
set_option linter.unusedVariables false
set_option linter.unusedSimpArgs false
/-- What is known behind a call. -/
def HR (K : HVal → Heap → Prop) (E : Env) (h : Heap) (w : World) (e : Ending) (w' : World) : Prop :=
  match e with | .returned v => ∃ r h' E', K r h' ∧ Ev E h w E' h' w' ∧ Rel E' h' w' ∧ Rep E' h' w' r v | _ => False
/-- A contract of a deferred closure. -/
def HFnD (P : Program) (f : FuncId) (args : List HVal) (h : Heap) (K : HVal → Heap → Prop) : Prop :=
  callable P f = true ∧ ∀ E w (vs : List Value), Rel E h w → RepL E h w args vs → CallsD P f vs.toArray .returning w fun e u' w' => u' = .returning ∧ HR K E h w e w'
theorem HFnD.mono {P : Program} {f : FuncId} {args : List HVal} {h : Heap} {K K' : HVal → Heap → Prop} (a : HFnD P f args h K) (hk : ∀ r h', K r h' → K' r h') : HFnD P f args h K' :=
  ⟨a.1, fun E w vs R r => (a.2 E w vs R r).mono fun e u' w' ⟨hu, he⟩ => ⟨hu, by
    cases e with
    | returned v => obtain ⟨r, h', E', k, rest⟩ := he; exact ⟨r, h', E', hk _ _ k, rest⟩
    | _ => exact he.elim⟩⟩
def HFnDF (P : Program) (f : FuncId) (args : List HVal) (h : Heap) (K : HVal → Heap → Prop) (_ : Tag K) : Prop := HFnD P f args h K
theorem HFnDF.mk {P : Program} {f : FuncId} {args : List HVal} {h : Heap} {K K' : HVal → Heap → Prop} {t : Tag K} (a : HFnD P f args h K') (hk : ∀ r h', K' r h' → K r h') : HFnDF P f args h K t := a.mono hk
theorem argsT_rep {E : Env} {h : Heap} {w : World} {args : List HVal} {vs : List Value} {n N : Nat} (hn : n = N) (hl : args.length ≤ N) (hL : RepL E h w args vs) :
    RepT [] E h w N (argsT 0 args) { tmps := vs.toArray ++ Array.replicate (n - vs.toArray.size) undef, defers := [] } := by
  have hlen := hL.length
  refine ⟨?_, rfl, ?_⟩
  · simp [hn]; omega
  · intro k
    rw [tget_argsT]
    simp only [Nat.zero_le, if_true, Nat.sub_zero]
    by_cases hk : k < args.length
    · have hx : args[k]? = some args[k] := List.getElem?_eq_getElem hk
      have hv : vs[k]? = some (vs[k]'(by omega)) := List.getElem?_eq_getElem (by omega)
      rw [hx]
      have hg : (vs.toArray ++ Array.replicate (n - vs.toArray.size) undef).getD k undef = vs[k]'(by omega) := by
        have hk' : k < vs.length := by omega
        simp [Array.getD, Array.getElem_append, hk']; omega
      rw [hg]
      exact hL.get k _ _ hx hv
    · rw [List.getElem?_eq_none (by omega)]
      exact .any _
/-- A deferred closure's contract out of its body. -/
theorem fnHD {P : Program} {f : FuncId} {fn : Func} {c : Code} (N : Nat) (keep ib : List Nat) (mk : Marks) {args : List HVal} {h : Heap} {K : HVal → Heap → Prop} (hmix : P.follows .mixedOrders = true) (hf : P.funcs[f]? = some fn) (hb : fn.body = some c)
    (hck : (callable P f && decide (fn.ntmps = N) && codeOK N mk c) = true) (hl : args.length ≤ N)
    (hw : hwpF P N keep ib mk c (fun τ h' => postF P fn.results (fun r h' => ∃ g : Heap, g.le h' ∧ K r g) () .normal τ h') (postF P fn.results (fun r h' => ∃ g : Heap, g.le h' ∧ K r g) ()) (argsT 0 args) h ()) : HFnD P f args h K := by
  simp only [Bool.and_eq_true, decide_eq_true_eq] at hck
  refine ⟨hck.1.1, fun E w vs R hL => callsD_of_wp hf hb ?_⟩
  refine Code.wp_mono ?_ (hwpF_sound hmix c _ _ _ _ hck.2 hw [] E w _ R (argsT_rep hck.1.2 hl hL))
  rintro e a' w' ⟨τ', h', E', q, ev, R', r'⟩
  cases e <;> simp only [thenF, thenQ, postF, postQ] at q <;> try exact q.elim
  all_goals
    obtain ⟨x, v, h1, hk0, hx⟩ := resV_run R' r' q
    obtain ⟨g, hg, hk⟩ := hk0
    exact ⟨r'.defers, v, h1, x, g, E', hk, ev.forget hg, R'.forget hg, hx.imm fun b => Imm.le hg⟩
section
variable {P : Program} {fn : Func} {N : Nat} {K : HVal → Heap → Prop}
/-- A piece of the body of such a function. -/
def HD (P : Program) (fn : Func) (N : Nat) (K : HVal → Heap → Prop) (b : Code) (τ : Tmps) (h : Heap) : Prop :=
  ∀ E0 h0 w0 E w a, Ev E0 h0 w0 E h w → Rel E h w → RepT [] E h w N τ a → Code.wp P b (bodyPostD P fn (HR K E0 h0 w0)) a w
theorem HD.seq {x y : Code} {τ : Tmps} {h : Heap} (hx : HWp P N x (thenQ (HD P fn N K y) (postQ P fn.results fun r h' => ∃ g : Heap, g.le h' ∧ K r g)) τ h) : HD P fn N K (.seq x y) τ h := by
  intro E0 h0 w0 E w a ev0 R r
  refine wp_seq (Code.wp_mono ?_ (hx [] E w a R r))
  rintro e a' w' ⟨τ', h', E', q, ev, R', r'⟩
  cases e <;> simp only [thenQ, postQ] at q
  · simp only [Exit.then]
    exact q E0 h0 w0 E' w' a' (ev0.trans ev) R' r'
  all_goals try exact q.elim
  obtain ⟨x, v, h1, ⟨g, hg, hk⟩, hx⟩ := resV_run R' r' q
  show Leaves P fn a'.tmps (HR K E0 h0 w0) a'.defers .returning w'
  rw [r'.defers]
  exact ⟨v, h1, x, g, E', hk, (ev0.trans ev).forget hg, R'.forget hg, hx.imm fun b => Imm.le hg⟩
/-- The end of the body behind the defer. -/
def postD (P : Program) (fn : Func) (g : FuncId) (x : HVal) (K : HVal → Heap → Prop) (_ : Tag K) : Exit → Tmps → Heap → Prop
  | .normal, τ, h => HFnDF P g [x] h (fun _ h' => postF P fn.results K () .ret τ h') ()
  | .ret, τ, h => HFnDF P g [x] h (fun _ h' => postF P fn.results K () .ret τ h') ()
  | _, _, _ => False
@[go_sem] theorem postD_normal (g : FuncId) (x : HVal) (τ : Tmps) (h : Heap) (t : Tag K) : postD P fn g x K t .normal τ h = HFnDF P g [x] h (fun _ h' => postF P fn.results K () .ret τ h') () := rfl
@[go_sem] theorem postD_ret (g : FuncId) (x : HVal) (τ : Tmps) (h : Heap) (t : Tag K) : postD P fn g x K t .ret τ h = HFnDF P g [x] h (fun _ h' => postF P fn.results K () .ret τ h') () := rfl
theorem HD.defer {i d x g : Nat} {t1 t2 : TypeId} {p1 p2 : String} {f1 f2 : Array Edge} {ats : Array TypeId} {B : Code} {τ : Tmps} {h : Heap} (keep : List Nat) (hd : d < N)
    (hB : HWp P N B (thenQ (fun τ' h' => postD P fn g (tget τ x) (fun r h' => ∃ g : Heap, g.le h' ∧ K r g) () .normal τ' h') (postD P fn g (tget τ x) (fun r h' => ∃ g : Heap, g.le h' ∧ K r g) ())) (prune keep ((d, .fn (.func g) [] [tget τ x]) :: τ)) h) :
    HD P fn N K (.seq (.region i ⟨[⟨some d, .makeFunc (.func g) #[] #[.tmp x], t1, p1, f1, none⟩, ⟨none, .defer ⟨.value (.tmp d), #[], ats⟩, t2, p2, f2, none⟩]⟩ false) B) τ h := by
  intro E0 h0 w0 E w a ev0 R r
  have hsz : d < a.tmps.size := by rw [r.size]; exact hd
  refine wp_seq (wp_region_list ?_)
  have hv : Rep E h w (.fn (.func g) [] [tget τ x]) (.func (.func g) #[] #[a.tmps.getD x undef]) :=
    Rep.fn (.func g) [] [tget τ x] [] [a.tmps.getD x undef] rfl (by simp) rfl (fun j y v hy hv => by
      cases j with
      | zero => simp only [List.getElem?_cons_zero, Option.some.injEq] at hy hv; subst hy; subst hv; exact r.get x
      | succ j => simp at hy)
  have r1 : RepT [] E h w N ((d, .fn (.func g) [] [tget τ x]) :: τ) (a.put (some d) (.func (.func g) #[] #[a.tmps.getD x undef])) := r.put (some d) (fun k hk => by cases hk; exact hd) hv
  unfold wpList
  rw [if_pos (by rfl)]
  left
  simp only [Oper.wp, execOp, Instr.makeFunc, Array.map_empty]
  show wpList P _ _ _ (a.put (some d) (.func (.func g) #[] (#[Operand.tmp x].map a.eval))) w
  have e1 : (#[Operand.tmp x].map a.eval) = #[a.tmps.getD x undef] := by simp [Act.eval]
  rw [e1]
  generalize ha1 : a.put (some d) (.func (.func g) #[] #[a.tmps.getD x undef]) = a1 at r1
  have he : a1.eval (.tmp d) = .func (.func g) #[] #[a.tmps.getD x undef] := by
    subst ha1
    simp [Act.eval, Act.put, hsz]
  unfold wpList
  rw [if_pos (by rfl)]
  left
  have hrun : (execOp a1.eval ⟨none, .defer ⟨.value (.tmp d), #[], ats⟩, t2, p2, f2, none⟩).run P w = .ok (.defer ⟨.fn (.func g) #[a.tmps.getD x undef], #[]⟩) w := by
    simp [execOp, resolve, he, Deferred.ofValue]
  unfold Oper.wp
  rw [hrun]
  show wpList P _ _ _ (({ a1 with defers := ⟨.fn (.func g) #[a.tmps.getD x undef], #[]⟩ :: a1.defers } : Act).put none undef) w
  unfold wpList
  simp only [Exit.then]
  refine Code.wp_mono ?_ (hB [⟨.fn (.func g) #[a.tmps.getD x undef], #[]⟩] E w _ R (RepT.prune keep ⟨r1.size, by show _ :: a1.defers = _; rw [r1.defers], r1.get⟩))
  rintro e a' w' ⟨τ', h', E', q, ev, R', r'⟩
  have hcap := (r.get x).ev ev
  have key : HFnD P g [tget τ x] h' (fun _ h'' => postF P fn.results (fun r h' => ∃ g : Heap, g.le h' ∧ K r g) () .ret τ' h'') → bodyPostD P fn (HR K E0 h0 w0) .ret a' w' := fun q => by
    show Leaves P fn a'.tmps (HR K E0 h0 w0) a'.defers .returning w'
    rw [r'.defers]
    obtain ⟨hcal, hc⟩ := q
    refine leaves_cons (by simp) ?_ ((hc E' w' [a.tmps.getD x undef] R' ⟨hcap, trivial⟩).mono ?_) (f := g) (args := #[a.tmps.getD x undef])
    · unfold callable at hcal
      split at hcal
      · rename_i fn' hfn
        obtain ⟨c1, c2⟩ : fn'.body.isSome = true ∧ ¬ fn'.name = "runtime.NumGoroutine" := by simpa using hcal
        obtain ⟨bb, hbb⟩ := Option.isSome_iff_exists.1 c1
        simp [invoke, callFunc, hfn, hbb, c2]
      · simp at hcal
    · rintro e u' w'' ⟨rfl, he⟩
      cases e with
      | returned v =>
        obtain ⟨r2, h2, E2, k, ev2, R2, _⟩ := he
        have r2' := r'.ev ev2
        have k : resV P fn.results τ' h2 (fun r h' => ∃ g : Heap, g.le h' ∧ K r g) := k
        obtain ⟨x3, v3, h3, ⟨g3, hg3, hk3⟩, hx3⟩ := resV_run R2 r2' k
        exact ⟨v3, h3, x3, g3, E2, hk3, ((ev0.trans ev).trans ev2).forget hg3, R2.forget hg3, hx3.imm fun b => Imm.le hg3⟩
      | _ => exact he.elim
  cases e <;> simp only [thenQ, postD] at q <;> first | exact q.elim | exact key q
/-- The walk of a function that defers one closure behind two pieces of code. -/
theorem fnDF {f : FuncId} {a1 a2 B : Code} {i d x g : Nat} {t1 t2 : TypeId} {p1 p2 : String} {f1 f2 : Array Edge} {ats : Array TypeId} (N : Nat) (keep ib : List Nat) (mk : Marks) {args : List HVal} {h : Heap} (hmix : P.follows .mixedOrders = true) (hf : P.funcs[f]? = some fn)
    (hb : fn.body = some (.seq a1 (.seq a2 (.seq (.region i ⟨[⟨some d, .makeFunc (.func g) #[] #[.tmp x], t1, p1, f1, none⟩, ⟨none, .defer ⟨.value (.tmp d), #[], ats⟩, t2, p2, f2, none⟩]⟩ false) B))))
    (hck : (callable P f && decide (fn.ntmps = N) && decide (d < N) && codeOK N mk a1 && codeOK N mk a2 && codeOK N mk B) = true) (hl : args.length ≤ N)
    (hw : hwpF P N keep ib mk a1 (fun τ h => hwpF P N keep ib mk a2 (fun τ h => hwpF P N keep ib mk B (fun τ' h' => postD P fn g (tget τ x) (fun r h' => ∃ g : Heap, g.le h' ∧ K r g) () .normal τ' h')
        (postD P fn g (tget τ x) (fun r h' => ∃ g : Heap, g.le h' ∧ K r g) ()) (prune keep ((d, .fn (.func g) [] [tget τ x]) :: τ)) h ())
        (postF P fn.results (fun r h' => ∃ g : Heap, g.le h' ∧ K r g) ()) τ h ()) (postF P fn.results (fun r h' => ∃ g : Heap, g.le h' ∧ K r g) ()) (argsT 0 args) h ()) : HFn P f args h K := by
  simp only [Bool.and_eq_true, decide_eq_true_eq] at hck
  obtain ⟨⟨⟨⟨⟨c0, cN⟩, cd⟩, c1⟩, c2⟩, cB⟩ := hck
  refine ⟨c0, fun E w vs R hL => calls_of_wp_defers hf hb ?_⟩
  have go : HD P fn N K (.seq a1 (.seq a2 (.seq (.region i ⟨[⟨some d, .makeFunc (.func g) #[] #[.tmp x], t1, p1, f1, none⟩, ⟨none, .defer ⟨.value (.tmp d), #[], ats⟩, t2, p2, f2, none⟩]⟩ false) B))) (argsT 0 args) h := by
    refine HD.seq ((hwpF_sound hmix a1 _ _ _ _ c1 hw).mono fun e τ h q => ?_)
    cases e <;> simp only [thenF, thenQ] at q ⊢ <;> try exact q
    refine HD.seq ((hwpF_sound hmix a2 _ _ _ _ c2 q).mono fun e τ h q => ?_)
    cases e <;> simp only [thenF, thenQ] at q ⊢ <;> try exact q
    exact HD.defer keep cd (hwpF_sound hmix B _ _ _ _ cB q)
  exact go E h w E w _ (.refl _ _ _) R (argsT_rep cN hl hL)
/-- .. where what is handed back may be seen in another way. -/
theorem fnDK {f : FuncId} {a1 a2 B : Code} {i d x g : Nat} {t1 t2 : TypeId} {p1 p2 : String} {f1 f2 : Array Edge} {ats : Array TypeId} (N : Nat) (keep ib : List Nat) (mk : Marks) {args : List HVal} {h : Heap} (hmix : P.follows .mixedOrders = true) (hf : P.funcs[f]? = some fn)
    (hb : fn.body = some (.seq a1 (.seq a2 (.seq (.region i ⟨[⟨some d, .makeFunc (.func g) #[] #[.tmp x], t1, p1, f1, none⟩, ⟨none, .defer ⟨.value (.tmp d), #[], ats⟩, t2, p2, f2, none⟩]⟩ false) B))))
    (hck : (callable P f && decide (fn.ntmps = N) && decide (d < N) && codeOK N mk a1 && codeOK N mk a2 && codeOK N mk B) = true) (hl : args.length ≤ N)
    (hw : hwpF P N keep ib mk a1 (fun τ h => hwpF P N keep ib mk a2 (fun τ h => hwpF P N keep ib mk B (fun τ' h' => postD P fn g (tget τ x) (fun r h' => ∃ g : Heap, g.le h' ∧ ∃ r1 g1, Shift r g r1 g1 ∧ K r1 g1) () .normal τ' h')
        (postD P fn g (tget τ x) (fun r h' => ∃ g : Heap, g.le h' ∧ ∃ r1 g1, Shift r g r1 g1 ∧ K r1 g1) ()) (prune keep ((d, .fn (.func g) [] [tget τ x]) :: τ)) h ())
        (postF P fn.results (fun r h' => ∃ g : Heap, g.le h' ∧ ∃ r1 g1, Shift r g r1 g1 ∧ K r1 g1) ()) τ h ()) (postF P fn.results (fun r h' => ∃ g : Heap, g.le h' ∧ ∃ r1 g1, Shift r g r1 g1 ∧ K r1 g1) ()) (argsT 0 args) h ()) : HFn P f args h K :=
  fn_of_wp_shift (fn := fn) (c := a1) (N := N) (fnDF N keep ib mk hmix hf hb hck hl hw) fun _ _ hx => hx
end
end Go.Hl

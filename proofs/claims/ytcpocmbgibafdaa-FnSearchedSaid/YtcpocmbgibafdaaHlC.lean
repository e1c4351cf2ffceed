/-
  Contracts of functions and laws of the layer over the walk.
-/
import Derived.Test.YtcpocmbgibafdaaHlB
import Derived.KernelRfl
import Derived.ReadAgain
import Derived.ChangeArms
import Derived.ChangeSame
import Derived.Handed
import Derived.JoinedOf
namespace Go.Hl
attribute [go_sem] List.nil_append List.cons_append
theorem nn (n : Nat) : (0 ≤ (n : Int)) = True := by simp
attribute [go_sem] eszO srcOf dstOf srcTy dOf' plainRows places placesOK fillC fillCOK setC fillH fillOK ld ldOwn plains stCells eszOf dOf hev hevM opTmps tget tput argsT HVal.ofValue HVal.ofValue1 binH Hl.prune SatL bndH
  upd_same upd_none nn le_upd
attribute [go_sem] Call.operands Array.toList_append Option.map List.map Option.bind List.contains List.elem List.filterMap Op.operands Option.toList Array.size List.all List.set
attribute [go_sem] if_true if_false Option.bind_some Option.bind_none List.toList_toArray List.getElem?_toArray List.getElem?_cons_zero List.getElem?_cons_succ true_and and_true forall_const Bool.true_eq_false Bool.false_eq_true false_implies implies_true decide_true decide_false List.length_map BEq.rfl List.append_nil List.getElem?_map Int.toNat_natCast Bool.not_eq_true' Bool.not_eq_false' decide_eq_true_eq decide_eq_false_iff_not Int.natCast_inj Int.ofNat_lt Int.ofNat_le Bool.not_true Bool.not_false HVal.int.injEq HVal.bool.injEq Heap.le_refl
attribute [go_sem] ne_eq Bool.and_self Bool.true_and Bool.and_true Bool.false_and Bool.and_false Int.reduceLT Int.reduceNeg Int.reduceLE Int.reduceEq Nat.reduceLeDiff Nat.reduceSub Nat.reduceMul Nat.zero_add Nat.add_zero List.length_cons List.length_nil List.drop_zero List.take_zero List.take_nil List.drop_nil List.take_succ_cons List.drop_succ_cons List.replicate List.map_nil List.map_cons List.length_map not_true_eq_false not_false_eq_true true_implies decide_not ite_not
attribute [go_sem] Bool.true_or Bool.false_or Bool.or_true Bool.or_false Nat.reduceAdd Nat.reduceEqDiff Nat.reduceBEq reduceCtorEq
@[go_sem] theorem cells_any  : HVal.cells (HVal.any) = [(HVal.any)] := rfl
@[go_sem] theorem flat_any  : HVal.flat (HVal.any) = false := rfl
@[go_sem] theorem cells_bool (b : Bool) : HVal.cells (HVal.bool b) = [(HVal.bool b)] := rfl
@[go_sem] theorem flat_bool (b : Bool) : HVal.flat (HVal.bool b) = true := rfl
@[go_sem] theorem cells_int (k : IntKind) (n : Int) : HVal.cells (HVal.int k n) = [(HVal.int k n)] := rfl
@[go_sem] theorem flat_int (k : IntKind) (n : Int) : HVal.flat (HVal.int k n) = true := rfl
@[go_sem] theorem cells_str (s : List UInt8) : HVal.cells (HVal.str s) = [(HVal.str s)] := rfl
@[go_sem] theorem flat_str (s : List UInt8) : HVal.flat (HVal.str s) = true := rfl
@[go_sem] theorem cells_nilptr  : HVal.cells (HVal.nilptr) = [(HVal.nilptr)] := rfl
@[go_sem] theorem flat_nilptr  : HVal.flat (HVal.nilptr) = true := rfl
@[go_sem] theorem cells_nilsl  : HVal.cells (HVal.nilsl) = [(HVal.nilsl)] := rfl
@[go_sem] theorem flat_nilsl  : HVal.flat (HVal.nilsl) = true := rfl
@[go_sem] theorem cells_nilfn  : HVal.cells (HVal.nilfn) = [(HVal.nilfn)] := rfl
@[go_sem] theorem flat_nilfn  : HVal.flat (HVal.nilfn) = true := rfl
@[go_sem] theorem cells_nilif  : HVal.cells (HVal.nilif) = [(HVal.nilif)] := rfl
@[go_sem] theorem flat_nilif  : HVal.flat (HVal.nilif) = true := rfl
@[go_sem] theorem cells_nilmap  : HVal.cells (HVal.nilmap) = [(HVal.nilmap)] := rfl
@[go_sem] theorem flat_nilmap  : HVal.flat (HVal.nilmap) = true := rfl
@[go_sem] theorem cells_sl (sz : Nat) (es : List (List HVal)) (b : Bool) : HVal.cells (HVal.sl sz es b) = [(HVal.sl sz es b)] := rfl
@[go_sem] theorem flat_sl (sz : Nat) (es : List (List HVal)) (b : Bool) : HVal.flat (HVal.sl sz es b) = true := rfl
@[go_sem] theorem cells_ip (sz : Nat) (es : List (List HVal)) (i o : Nat) : HVal.cells (HVal.ip sz es i o) = [(HVal.ip sz es i o)] := rfl
@[go_sem] theorem flat_ip (sz : Nat) (es : List (List HVal)) (i o : Nat) : HVal.flat (HVal.ip sz es i o) = true := rfl
@[go_sem] theorem cells_os (n sz i l : Nat) : HVal.cells (HVal.os n sz i l) = [(HVal.os n sz i l)] := rfl
@[go_sem] theorem flat_os (n sz i l : Nat) : HVal.flat (HVal.os n sz i l) = true := rfl
@[go_sem] theorem cells_op (n sz i l : Nat) : HVal.cells (HVal.op n sz i l) = [(HVal.op n sz i l)] := rfl
@[go_sem] theorem flat_op (n sz i l : Nat) : HVal.flat (HVal.op n sz i l) = true := rfl
@[go_sem] theorem cells_tup (cs : List HVal) : HVal.cells (HVal.tup cs) = [(HVal.tup cs)] := rfl
@[go_sem] theorem flat_tup (cs : List HVal) : HVal.flat (HVal.tup cs) = false := rfl
@[go_sem] theorem cells_fn (f : Fn) (a b : List HVal) : HVal.cells (HVal.fn f a b) = [(HVal.fn f a b)] := rfl
@[go_sem] theorem flat_fn (f : Fn) (a b : List HVal) : HVal.flat (HVal.fn f a b) = true := rfl
@[go_sem] theorem cells_iface (t : TypeId) (v : HVal) : HVal.cells (HVal.iface t v) = [(HVal.iface t v)] := rfl
@[go_sem] theorem flat_iface (t : TypeId) (v : HVal) : HVal.flat (HVal.iface t v) = true := rfl
@[go_sem] theorem cells_mp (n : Nat) : HVal.cells (HVal.mp n) = [(HVal.mp n)] := rfl
@[go_sem] theorem flat_mp (n : Nat) : HVal.flat (HVal.mp n) = true := rfl
@[go_sem] theorem cells_agg (cs : List HVal) : HVal.cells (.agg cs) = cs := rfl
@[go_sem] theorem flat_agg (cs : List HVal) : HVal.flat (.agg cs) = false := rfl
@[go_sem] theorem maxLen_lit : maxLen = 9223372036854775807 := rfl
set_option linter.unusedVariables false
set_option linter.unusedSimpArgs false

/-- Whatever stands for x stands for y. -/
def Sub (x y : HVal) : Prop := ∀ E h w v, Rep E h w x v → Rep E h w y v

theorem Sub.refl (x : HVal) : Sub x x := fun _ _ _ _ r => r
theorem Sub.trans {x y z : HVal} (a : Sub x y) (b : Sub y z) : Sub x z := fun E h w v r => b E h w v (a E h w v r)
theorem Sub.any (x : HVal) : Sub x .any := fun _ _ _ v _ => .any v
theorem Sub.loose (sz : Nat) (es : List (List HVal)) (t : Bool) : Sub (.sl sz es t) (.sl sz es false) := fun E h w v r => by
  cases r with
  | sl0 _ _ a cap ht hmax ha => exact .sl0 sz false _ _ (fun e => by simp at e) hmax ha
  | sl _ _ _ b o cap cv hi hcap hmax ht hs hc h1 hr => exact .sl sz es false b o _ cv hi hcap hmax (fun e => by simp at e) hs hc h1 hr

/-- From one view of a value and of the named rows to another one of the same memory. -/
def Shift (r' : HVal) (h' : Heap) (r : HVal) (h : Heap) : Prop :=
  ∀ E w v, Rel E h' w → Rep E h' w r' v → ∃ E', Ev E h' w E' h w ∧ Rel E' h w ∧ Rep E' h w r v

theorem Shift.of {r' r : HVal} {h' h : Heap} (s : Sub r' r) (hl : h.le h') : Shift r' h' r h := fun E w v R x =>
  ⟨E, (Ev.refl E h' w).forget hl, R.forget hl, s _ _ _ _ (x.imm fun b => Imm.le hl)⟩
theorem Shift.trans {a b c : HVal} {h1 h2 h3 : Heap} (x : Shift a h1 b h2) (y : Shift b h2 c h3) : Shift a h1 c h3 := fun E w v R r => by
  obtain ⟨E', ev, R', r'⟩ := x E w v R r
  obtain ⟨E'', ev', R'', r''⟩ := y E' w v R' r'
  exact ⟨E'', ev.trans ev', R'', r''⟩

mutual
/-- A value in which a name's slices read as memory that nobody writes any more. -/
def HVal.sealUp (n : Nat) (es : List (List HVal)) : HVal → HVal
  | .os m sz i len => if m = n then .sl sz ((es.drop i).take len) false else .os m sz i len
  | .op m sz i off => if m = n then .ip sz es i off else .op m sz i off
  | .agg cs => .agg (sealL n es cs)
  | .tup cs => .tup (sealL n es cs)
  | x => x
def sealL (n : Nat) (es : List (List HVal)) : List HVal → List HVal
  | [] => []
  | x :: xs => x.sealUp n es :: sealL n es xs
end

theorem sealL_eq (n : Nat) (es : List (List HVal)) : ∀ l, sealL n es l = l.map (HVal.sealUp n es)
  | [] => rfl
  | x :: l => by simp [sealL, sealL_eq n es l]

mutual
def sealOK (n sz k : Nat) : HVal → Bool
  | .os m sz' i len => m != n || (sz' == sz && decide (i + len ≤ k))
  | .op m sz' i len => m != n || sz' == sz
  | .agg cs => sealOKL n sz k cs
  | .tup cs => sealOKL n sz k cs
  | _ => true
def sealOKL (n sz k : Nat) : List HVal → Bool
  | [] => true
  | x :: xs => sealOK n sz k x && sealOKL n sz k xs
end

theorem sealOKL_get (n sz k : Nat) : ∀ (l : List HVal), sealOKL n sz k l = true → ∀ (i : Nat) x, l[i]? = some x → sealOK n sz k x = true
  | [], _, i, x, hx => by simp at hx
  | y :: l, h, 0, x, hx => by simp at hx; subst hx; simp only [sealOKL, Bool.and_eq_true] at h; exact h.1
  | y :: l, h, i + 1, x, hx => by simp only [sealOKL, Bool.and_eq_true] at h; exact sealOKL_get n sz k l h.2 i x (by simpa using hx)

/-- The slices of a name, where its row is given up. -/
theorem Rep.sealed {E : Env} {h : Heap} {w : World} (R : Rel E h w) {n sz : Nat} {es : List (List Cell)} (hn : h n = some (.row sz es)) {x : HVal} {v : Value} (r : Rep E h w x v)
    (hb : sealOK n sz es.length x = true) : Rep E (upd h n .gone) w (x.sealUp n (valRows es)) v := by
  have hi : ∀ b, Imm E h w b → Imm E (upd h n .gone) w b := fun b => imm_gone n b
  induction r with
  | any v => exact .any v
  | bool b => exact .bool b
  | int k n => exact .int k n
  | str s hl => exact .str s hl
  | nilptr => exact .nilptr
  | nilsl => exact .nilsl
  | nilfn => exact .nilfn
  | nilif => exact .nilif
  | nilmap => exact .nilmap
  | sl0 sz t a cap ht hmax ha => exact .sl0 sz t a cap ht hmax ha
  | sl sz es t b o cap cv hb' hcap hmax ht hs hc h1 hr ih => exact .sl sz es t b o cap cv (hi b hb') hcap hmax ht hs hc h1 fun i j x hx => (hr i j x hx).imm hi
  | ip sz es i off b o cv hb' hs hc h1 hr ih => exact .ip sz es i off b o cv (hi b hb') hs hc h1 fun i j x hx => (hr i j x hx).imm hi
  | os0 m sz' hd hl =>
    simp only [HVal.sealUp]
    split
    · have : ((valRows es).drop 0).take 0 = [] := by simp
      rw [this]
      exact .sl0 sz' false none 0 (fun _ => rfl) (by simp [maxLen]) trivial
    · exact .os0 m sz' hd hl
  | op m sz' i off b o hd hl =>
    simp only [HVal.sealUp]
    split
    · rename_i e
      subst e
      simp only [sealOK, bne_self_eq_false, Bool.false_or, beq_iff_eq] at hb
      subst hb
      obtain ⟨b', o', hl', hbS, hs, cs, ct, cv, T, hh, hm', hT, hD, hc, hrr⟩ := row_of R hn (.inr ⟨_, hl⟩)
      rw [hl] at hl'
      obtain ⟨rfl, rfl⟩ := Prod.mk.inj (Option.some.inj hl')
      have himm : ∀ c, E.fp m c → Imm E (upd h m .gone) w c := fun c hc => imm_of_gone R hn trivial c hc
      have hat : ∀ i' j y, at2 (valRows es) i' j = some y → ∃ c, at2 es i' j = some c ∧ y = c.val := by
        intro i' j y hy
        rw [at2_valRows] at hy
        obtain ⟨c, hc, rfl⟩ := Option.map_eq_some_iff.1 hy
        exact ⟨c, hc, rfl⟩
      exact .ip sz' (valRows es) i off b o cv (himm b hbS) (fun e he => size_valRows hs e he)
        (fun i' j y hy => by
          obtain ⟨c, hc', rfl⟩ := hat i' j y hy
          have := hc _ _ _ hc'
          simp only [World.cell?, hh]
          rw [← this]
          simp)
        (fun i' j y hy => by obtain ⟨c, hc', rfl⟩ := hat i' j y hy; exact (hrr _ _ _ hc').one)
        (fun i' j y hy => by
          obtain ⟨c, hc', rfl⟩ := hat i' j y hy
          exact (hrr _ _ _ hc').sealed hi fun b hb => himm b (hT _ _ b hb).1)
    · exact .op m sz' i off b o hd hl
  | fn f cs ds vs us hl hr hl' hr' ih ih' => exact .fn f cs ds vs us hl (fun i x v hx hv => (hr i x v hx hv).imm hi) hl' (fun i x v hx hv => (hr' i x v hx hv).imm hi)
  | iface t x v hr ih => exact .iface t x v (hr.imm hi)
  | mp n b o hd hl => exact .mp n b o hd hl
  | agg cs vs hl hr ih =>
    simp only [HVal.sealUp, sealL_eq]
    simp only [sealOK] at hb
    refine .agg _ vs (by simpa using hl) fun i x v hx hv => ?_
    rw [List.getElem?_map] at hx
    obtain ⟨y, hy, rfl⟩ := Option.map_eq_some_iff.1 hx
    exact ih i y v hy hv (sealOKL_get _ _ _ _ hb i y hy)
  | tup cs vs hl hr ih =>
    simp only [HVal.sealUp, sealL_eq]
    simp only [sealOK] at hb
    refine .tup _ vs (by simpa using hl) fun i x v hx hv => ?_
    rw [List.getElem?_map] at hx
    obtain ⟨y, hy, rfl⟩ := Option.map_eq_some_iff.1 hx
    exact ih i y v hy hv (sealOKL_get _ _ _ _ hb i y hy)
  | os m sz' i len b o cap t mm hd hl hlc hmax hsh hm =>
    simp only [HVal.sealUp]
    split
    · rename_i e
      subst e
      simp only [sealOK, bne_self_eq_false, Bool.false_or, Bool.and_eq_true, beq_iff_eq, decide_eq_true_eq] at hb
      obtain ⟨rfl, hle⟩ := hb
      obtain ⟨b', o', hl', hbS, hs, cs, ct, cv, T, hh, hm', hT, hD, hc, hrr⟩ := row_of R hn (.inr ⟨_, hl⟩)
      rw [hl] at hl'
      obtain ⟨rfl, rfl⟩ := Prod.mk.inj (Option.some.inj hl')
      have himm : ∀ c, E.fp m c → Imm E (upd h m .gone) w c := fun c hc => imm_of_gone R hn trivial c hc
      have hlen : (((valRows es).drop i).take len).length = len := by rw [List.length_take, List.length_drop, length_valRows]; omega
      have hat : ∀ i' j y, at2 (((valRows es).drop i).take len) i' j = some y → ∃ c, at2 es (i + i') j = some c ∧ y = c.val := by
        intro i' j y hy
        obtain ⟨e, h1, h2⟩ := at2_some hy
        have hlt : i' < len := by have := (List.getElem?_eq_some_iff.1 h1).1; rw [hlen] at this; exact this
        rw [List.getElem?_take_of_lt hlt, List.getElem?_drop] at h1
        have : at2 (valRows es) (i + i') j = some y := by simp [at2, h1, h2]
        rw [at2_valRows] at this
        obtain ⟨c, hc, rfl⟩ := Option.map_eq_some_iff.1 this
        exact ⟨c, hc, rfl⟩
      have := Rep.sl (E := E) (h := upd h m .gone) (w := w) sz' (((valRows es).drop i).take len) false b (o + i * sz') cap (fun i' j => cv (i + i') j) (himm b hbS) (by rw [hlen]; exact hlc) hmax (fun e => by simp at e)
        (fun e he => size_valRows hs e (List.mem_of_mem_drop (List.mem_of_mem_take he)))
        (fun i' j y hy => by
          obtain ⟨c, hc', rfl⟩ := hat i' j y hy
          have := hc _ _ _ hc'
          simp only [World.cell?, hh]
          rw [← this]
          simp only [Option.isSome_none, Bool.false_eq_true, if_false]
          congr 1; rw [Nat.add_mul]; omega)
        (fun i' j y hy => by obtain ⟨c, hc', rfl⟩ := hat i' j y hy; exact (hrr _ _ _ hc').one)
        (fun i' j y hy => by
          obtain ⟨c, hc', rfl⟩ := hat i' j y hy
          exact (hrr _ _ _ hc').sealed hi fun b hb => himm b (hT _ _ b hb).1)
      rw [hlen] at this
      exact this
    · exact .os m sz' i len b o cap t mm hd hl hlc hmax hsh hm

theorem Shift.sealUp {x : HVal} {h : Heap} {n sz : Nat} {es : List (List Cell)} (hn : h n = some (.row sz es)) (hb : sealOK n sz es.length x = true) : Shift x h (x.sealUp n (valRows es)) (upd h n .gone) := fun E w v R r =>
  ⟨E, Ev.gone n, R.gone hn, r.sealed R hn hb⟩

/-- A function's contract by the walk of its body, where what it hands back is seen in another way. -/
theorem fn_of_wp_shift {P : Program} {f : FuncId} {fn : Func} {c : Code} {N : Nat} {args : List HVal} {h : Heap} {K K' : HVal → Heap → Prop} (a : HFn P f args h K') (hk : ∀ r h', K' r h' → ∃ r₁ h₁, Shift r h' r₁ h₁ ∧ K r₁ h₁) : HFn P f args h K :=
  ⟨a.1, fun E w vs R hL => Calls.mono (a.2 E w vs R hL) fun e w' he => by
    cases e <;> try exact he
    obtain ⟨r, h', E', k, ev, R', rx⟩ := he
    obtain ⟨r₁, h₁, hs, k₁⟩ := hk r h' k
    obtain ⟨E'', ev', R'', rx'⟩ := hs E' w' _ R' rx
    exact ⟨r₁, h₁, E'', k₁, ev.trans ev', R'', rx'⟩⟩

theorem shift_le {r : HVal} {h' h : Heap} (hl : h.le h') : Shift r h' r h := .of (.refl r) hl

/-- A tag whose type names what simp shall leave alone. -/
abbrev Tag {α : Type} (_ : α) : Type := Unit

def optF {α : Type} (o : Option α) (K : α → Prop) (_ : Tag K) : Prop := match o with | some x => K x | none => False
@[go_sem] theorem optF_some {α : Type} (x : α) (K : α → Prop) (t : Tag K) : optF (some x) K t = K x := rfl
@[go_sem] theorem optF_none {α : Type} (K : α → Prop) (t : Tag K) : optF none K t = False := rfl

def condF (v : HVal) (A B : Prop) (_ : Tag (A, B)) : Prop := match v with | .bool t => (t = true → A) ∧ (t = false → B) | _ => False
@[go_sem] theorem condF_bool (c : Bool) (A B : Prop) (t : Tag (A, B)) : condF (.bool c) A B t = ((c = true → A) ∧ (c = false → B)) := rfl
@[go_sem high] theorem condF_true (A B : Prop) (t : Tag (A, B)) : condF (.bool true) A B t = A := by simp [condF]
@[go_sem high] theorem condF_false (A B : Prop) (t : Tag (A, B)) : condF (.bool false) A B t = B := by simp [condF]

def thenF (K : Tmps → Heap → Prop) (Q : Exit → Tmps → Heap → Prop) (_ : Tag (K, Q)) : Exit → Tmps → Heap → Prop := thenQ K Q
@[go_sem] theorem thenF_normal (K : Tmps → Heap → Prop) (Q : Exit → Tmps → Heap → Prop) (t : Tag (K, Q)) (τ : Tmps) (h : Heap) : thenF K Q t .normal τ h = K τ h := rfl
@[go_sem] theorem thenF_ret (K : Tmps → Heap → Prop) (Q : Exit → Tmps → Heap → Prop) (t : Tag (K, Q)) (τ : Tmps) (h : Heap) : thenF K Q t .ret τ h = Q .ret τ h := rfl
@[go_sem] theorem thenF_exit (K : Tmps → Heap → Prop) (Q : Exit → Tmps → Heap → Prop) (t : Tag (K, Q)) (i : Nat) (τ : Tmps) (h : Heap) : thenF K Q t (.exit i) τ h = Q (.exit i) τ h := rfl

def blockF (id : Nat) (K : Tmps → Heap → Prop) (Q : Exit → Tmps → Heap → Prop) (_ : Tag (K, Q)) : Exit → Tmps → Heap → Prop := blockK id K Q
@[go_sem] theorem blockF_ret (id : Nat) (K : Tmps → Heap → Prop) (Q : Exit → Tmps → Heap → Prop) (t : Tag (K, Q)) (τ : Tmps) (h : Heap) : blockF id K Q t .ret τ h = Q .ret τ h := rfl
@[go_sem] theorem blockF_same (id : Nat) (K : Tmps → Heap → Prop) (Q : Exit → Tmps → Heap → Prop) (t : Tag (K, Q)) (τ : Tmps) (h : Heap) : blockF id K Q t (.exit id) τ h = K τ h := by simp [blockF, blockK]
@[go_sem] theorem blockF_other (id i : Nat) (K : Tmps → Heap → Prop) (Q : Exit → Tmps → Heap → Prop) (t : Tag (K, Q)) (τ : Tmps) (h : Heap) (hi : (i == id) = false) : blockF id K Q t (.exit i) τ h = Q (.exit i) τ h := by
  have : i ≠ id := by simpa using hi
  simp [blockF, blockK, this]

def HWpF (P : Program) (N : Nat) (c : Code) (Q : Exit → Tmps → Heap → Prop) (τ : Tmps) (h : Heap) (_ : Tag (c, Q)) : Prop := HWp P N c Q τ h

/-! ### regions -/
def stepF (P : Program) (ib : List Nat) (d : Option Tmp) (op : Op) (ρ : Operand → HVal) (h : Heap) (K : HVal → Heap → Prop) (_ : Tag (op, K)) : Prop :=
  stepI P ib ⟨d, op, 0, "", #[], none⟩ ρ h K

def stepG (P : Program) (ib : List Nat) (d : Option Tmp) (op : Op) (ρ : Operand → HVal) (K : HVal → Prop) (_ : Tag (op, K)) : Prop :=
  stepSI P ib ⟨d, op, 0, "", #[], none⟩ ρ K

def RegWF (P : Program) (ib : List Nat) (os l : List Oper) (τ : Tmps) (h : Heap) (K : Tmps → Heap → Prop) (_ : Tag (os, l, K)) : Prop := RegW P ib os.toArray l τ h K

def gslot (os : List Oper) (g : Nat) (_ : Tag os) : Option Tmp := (os.toArray[g]?).bind (·.dst)
@[go_sem] theorem gslot_zero (o : Oper) (os : List Oper) (t : Tag (o :: os)) : gslot (o :: os) 0 t = o.dst := by simp [gslot]
@[go_sem] theorem gslot_succ (o : Oper) (os : List Oper) (n : Nat) (t : Tag (o :: os)) : gslot (o :: os) (n + 1) t = gslot os n () := by simp [gslot]

def guardF (v : HVal) (b : Bool) (A B C : Prop) (_ : Tag (A, B, C)) : Prop := match v with
  | .bool b' => (b' = b → A) ∧ (b' = !b → B)
  | .tup [] => C
  | _ => False
@[go_sem] theorem guardF_tup (b : Bool) (A B C : Prop) (t : Tag (A, B, C)) : guardF (.tup []) b A B C t = C := rfl
@[go_sem] theorem guardF_t (c : Bool) (A B C : Prop) (t : Tag (A, B, C)) : guardF (.bool c) true A B C t = ((c = true → A) ∧ (c = false → B)) := rfl
@[go_sem] theorem guardF_f (c : Bool) (A B C : Prop) (t : Tag (A, B, C)) : guardF (.bool c) false A B C t = ((c = false → A) ∧ (c = true → B)) := rfl
@[go_sem high] theorem guardF_tt (A B C : Prop) (t : Tag (A, B, C)) : guardF (.bool true) true A B C t = A := by simp [guardF]
@[go_sem high] theorem guardF_ft (A B C : Prop) (t : Tag (A, B, C)) : guardF (.bool false) true A B C t = B := by simp [guardF]
@[go_sem high] theorem guardF_tf (A B C : Prop) (t : Tag (A, B, C)) : guardF (.bool true) false A B C t = B := by simp [guardF]
@[go_sem high] theorem guardF_ff (A B C : Prop) (t : Tag (A, B, C)) : guardF (.bool false) false A B C t = A := by simp [guardF]

section
variable (P : Program) (ib : List Nat) (os rest : List Oper) (τ : Tmps) (h : Heap) (K : Tmps → Heap → Prop) (d : Option Tmp) (op : Op) (ty : TypeId) (p : String) (af : Array Edge)
@[go_sem] theorem RegWF_nil (t : Tag (os, [], K)) : RegWF P ib os [] τ h K t = K τ h := rfl
@[go_sem] theorem RegWF_none (t : Tag (os, (⟨d, op, ty, p, af, none⟩ :: rest), K)) : RegWF P ib os (⟨d, op, ty, p, af, none⟩ :: rest) τ h K t =
    stepF P ib d op (hev τ) h (fun v h' => RegWF P ib os rest (tput τ d v) h' K ()) () := rfl
@[go_sem] theorem RegWF_some (g : Nat) (b : Bool) (t : Tag (os, (⟨d, op, ty, p, af, some (g, b)⟩ :: rest), K)) : RegWF P ib os (⟨d, op, ty, p, af, some (g, b)⟩ :: rest) τ h K t =
    optF (gslot os g ()) (fun s => guardF (tget τ s) b (stepF P ib d op (hev ((s, .bool b) :: τ)) h (fun v h' => RegWF P ib os rest (tput ((s, .bool b) :: τ) d v) h' K ()) ())
      (RegWF P ib os rest (tput ((s, .bool !b) :: τ) d (.tup [])) h K ()) (RegWF P ib os rest (tput τ d (.tup [])) h K ()) ()) () := by
  unfold RegWF
  rw [RegW]
  simp only [optF, gslot]
  cases (os.toArray[g]?).bind (·.dst) with
  | none => rfl
  | some s =>
    simp only [guardF]
    cases tget τ s <;> first | rfl | (rename_i cs; cases cs <;> rfl)
end

def RegDF (P : Program) (ib : List Nat) (os : List Oper) (ms : List Nat) (cr : List (Nat × Nat)) (l : Plan) (pr : List (Nat × Nat)) (τ : Tmps) (h : Heap) (K : Tmps → Heap → Prop) (_ : Tag (os, K)) : Prop := RegD P ib os.toArray ms cr l pr τ h K

/-- One operation of a region that draws. -/
def opDF (P : Program) (ib : List Nat) (os : List Oper) (cr : List (Nat × Nat)) (i : Nat) (m : Bool) (o : Oper) (pr : List (Nat × Nat)) (τ : Tmps) (h : Heap) (K : List (Nat × Nat) → Tmps → Heap → Prop) (_ : Tag (os, o, K)) : Prop :=
  match o.guard with
  | none => stepO P ib cr i m o (hevM os.toArray o τ) pr h (fun pr' v h' => K pr' (tput τ o.dst v) h')
  | some (g, b) => match (os.toArray[g]?).bind (·.dst) with
    | some d => match tget τ d with
      | .bool b' => (b' = b → stepO P ib cr i m o (hevM os.toArray o ((d, .bool b) :: τ)) pr h (fun pr' v h' => K pr' (tput ((d, .bool b) :: τ) o.dst v) h')) ∧
          (b' = !b → K pr (tput ((d, .bool !b) :: τ) o.dst (.tup [])) h)
      | .tup [] => K pr (tput τ o.dst (.tup [])) h
      | _ => False
    | none => False

/-- The operation at a place. -/
def opAt (os : List Oper) (i : Nat) (K : Oper → Prop) (_ : Tag (os, K)) : Prop := match os[i]? with | some o => K o | none => False
@[go_sem] theorem opAt_zero (o : Oper) (os : List Oper) (K : Oper → Prop) (t : Tag (o :: os, K)) : opAt (o :: os) 0 K t = K o := rfl
@[go_sem] theorem opAt_succ (o : Oper) (os : List Oper) (i : Nat) (K : Oper → Prop) (t : Tag (o :: os, K)) : opAt (o :: os) (i + 1) K t = opAt os i K () := rfl

def hevG (os : List Oper) (o : Oper) (τ : Tmps) (_ : Tag (os, o)) : Operand → HVal := hevM os.toArray o τ

section
variable (P : Program) (ib : List Nat) (os : List Oper) (τ : Tmps) (h : Heap) (K : Tmps → Heap → Prop) (d : Option Tmp) (op : Op) (ty : TypeId) (p : String) (af : Array Edge)
variable (cr : List (Nat × Nat)) (pr : List (Nat × Nat)) (i : Nat)
@[go_sem] theorem RegDF_nil (ms : List Nat) (t : Tag (os, K)) : RegDF P ib os ms cr .nil pr τ h K t = K τ h := rfl
theorem OpD_at (ms : List Nat) (i : Nat) (C : List (Nat × Nat) → Tmps → Heap → Prop) : OpD P ib os.toArray ms cr i pr τ h C = opAt os i (fun o => opDF P ib os cr i (ms.contains i) o pr τ h C ()) () := by
  simp only [OpD, opAt, opDF, List.getElem?_toArray]
  cases os[i]? <;> rfl
@[go_sem] theorem RegDF_op (ms : List Nat) (l : Plan) (i : Nat) (t : Tag (os, K)) : RegDF P ib os ms cr (.op i l) pr τ h K t = opAt os i (fun o => opDF P ib os cr i (ms.contains i) o pr τ h (fun pr' τ' h' => RegDF P ib os ms cr l pr' τ' h' K ()) ()) () := by
  simp only [RegDF, RegD]; exact OpD_at P ib os τ h cr pr ms i _
@[go_sem] theorem RegDF_alt (ms : List Nat) (l q : Plan) (i j : Nat) (t : Tag (os, K)) : RegDF P ib os ms cr (.alt i l j q) pr τ h K t = ((opAt os i (fun o => opDF P ib os cr i (ms.contains i) o pr τ h (fun pr' τ' h' => RegDF P ib os ms cr l pr' τ' h' K ()) ()) ()) ∧ opAt os j (fun o => opDF P ib os cr j (ms.contains j) o pr τ h (fun pr' τ' h' => RegDF P ib os ms cr q pr' τ' h' K ()) ()) ()) := by
  simp only [RegDF, RegD]; rw [OpD_at P ib os τ h cr pr ms i _, OpD_at P ib os τ h cr pr ms j _]
@[go_sem] theorem hevG_tmp (o : Oper) (t : Tag (os, o)) (k : Nat) : hevG os o τ t (.tmp k) = if (opTmps os.toArray o).contains k then tget τ k else .any := rfl
@[go_sem] theorem hevG_const (o : Oper) (t : Tag (os, o)) (v : Value) : hevG os o τ t (.const v) = HVal.ofValue v := rfl
@[go_sem] theorem hevG_func (o : Oper) (t : Tag (os, o)) (f : FuncId) : hevG os o τ t (.func f) = hev τ (.func f) := rfl
def isLdOp : Op → Bool
  | .load _ _ => true
  | _ => false
def stepM (d : Option Tmp) (op : Op) (ρ : Operand → HVal) (M : List (Nat × Nat) → HVal → Heap → Prop) (_ : Tag (op, M)) : Prop :=
  if isLdOp op then stepR P ⟨d, op, 0, "", #[], none⟩ ρ h (fun n v => M (addP cr i n pr) v h) else stepI P ib ⟨d, op, 0, "", #[], none⟩ ρ h (fun v h' => protF cr i pr h h' ∧ M pr v h')
theorem stepO_t (ρ : Operand → HVal) (g : Option (Nat × Bool)) (M : List (Nat × Nat) → HVal → Heap → Prop) : stepO P ib cr i true ⟨d, op, ty, p, af, g⟩ ρ pr h M = stepM P ib h cr pr i d op ρ M () := by
  unfold stepO stepM
  cases op <;> rfl
@[go_sem] theorem opDF_t (L : List (Nat × Nat) → Tmps → Heap → Prop) (t : Tag (os, (⟨d, op, ty, p, af, none⟩ : Oper), L)) : opDF P ib os cr i true ⟨d, op, ty, p, af, none⟩ pr τ h L t = stepM P ib h cr pr i d op (hevG os ⟨d, op, ty, p, af, none⟩ τ ()) (fun pr' v h' => L pr' (tput τ d v) h') () := by
  rw [← stepO_t (ty := ty) (p := p) (af := af) (g := none)]; rfl
@[go_sem] theorem opDF_f (L : List (Nat × Nat) → Tmps → Heap → Prop) (t : Tag (os, (⟨d, op, ty, p, af, none⟩ : Oper), L)) : opDF P ib os cr i false ⟨d, op, ty, p, af, none⟩ pr τ h L t = stepG P ib d op (hevG os ⟨d, op, ty, p, af, none⟩ τ ()) (fun v => L pr (tput τ d v) h) () := rfl
@[go_sem] theorem opDF_gt (L : List (Nat × Nat) → Tmps → Heap → Prop) (g : Nat) (b : Bool) (t : Tag (os, (⟨d, op, ty, p, af, some (g, b)⟩ : Oper), L)) : opDF P ib os cr i true ⟨d, op, ty, p, af, some (g, b)⟩ pr τ h L t =
    optF (gslot os g ()) (fun s => guardF (tget τ s) b (stepM P ib h cr pr i d op (hevG os ⟨d, op, ty, p, af, some (g, b)⟩ ((s, .bool b) :: τ) ()) (fun pr' v h' => L pr' (tput ((s, .bool b) :: τ) d v) h') ())
      (L pr (tput ((s, .bool !b) :: τ) d (.tup [])) h) (L pr (tput τ d (.tup [])) h) ()) () := by
  simp only [opDF, optF, gslot, ← stepO_t (ty := ty) (p := p) (af := af) (g := some (g, b))]
  cases (os.toArray[g]?).bind (·.dst) with
  | none => rfl
  | some s =>
    simp only [guardF]
    cases tget τ s <;> first | rfl | (rename_i cs; cases cs <;> rfl)
@[go_sem] theorem opDF_gf (L : List (Nat × Nat) → Tmps → Heap → Prop) (g : Nat) (b : Bool) (t : Tag (os, (⟨d, op, ty, p, af, some (g, b)⟩ : Oper), L)) : opDF P ib os cr i false ⟨d, op, ty, p, af, some (g, b)⟩ pr τ h L t =
    optF (gslot os g ()) (fun s => guardF (tget τ s) b (stepG P ib d op (hevG os ⟨d, op, ty, p, af, some (g, b)⟩ ((s, .bool b) :: τ) ()) (fun v => L pr (tput ((s, .bool b) :: τ) d v) h) ())
      (L pr (tput ((s, .bool !b) :: τ) d (.tup [])) h) (L pr (tput τ d (.tup [])) h) ()) () := by
  simp only [opDF, optF, gslot]
  cases (os.toArray[g]?).bind (·.dst) with
  | none => rfl
  | some s =>
    simp only [guardF]
    cases tget τ s <;> first | rfl | (rename_i cs; cases cs <;> rfl)

end

/-! ### code -/
def drawT (b : Bool) (A B : Prop) (_ : Tag (A, B)) : Prop := drawS b A B
@[go_sem] theorem drawT_t (A B : Prop) (t : Tag (A, B)) : drawT true A B t = A := rfl
@[go_sem] theorem drawT_f (A B : Prop) (t : Tag (A, B)) : drawT false A B t = B := rfl
@[go_sem] theorem semP_nil : semP .nil = true := rfl
@[go_sem] theorem semP_op (i : Nat) (p : Plan) : semP (.op i p) = false := rfl
@[go_sem] theorem semP_alt (i : Nat) (p : Plan) (j : Nat) (q : Plan) : semP (.alt i p j q) = false := rfl
def hwpF (P : Program) (N : Nat) (keep ib : List Nat) (mk : Marks) (c : Code) (K : Tmps → Heap → Prop) (Q : Exit → Tmps → Heap → Prop) (τ : Tmps) (h : Heap) (_ : Tag (c, K, Q)) : Prop := hwp P N keep ib mk c K Q τ h
section
variable (P : Program) (N : Nat) (keep ib : List Nat) (mk : Marks) (K : Tmps → Heap → Prop) (Q : Exit → Tmps → Heap → Prop) (τ : Tmps) (h : Heap)
@[go_sem] theorem hwpF_skip (t : Tag (Code.skip, K, Q)) : hwpF P N keep ib mk .skip K Q τ h t = K τ h := rfl
@[go_sem] theorem hwpF_ret (t : Tag (Code.ret, K, Q)) : hwpF P N keep ib mk .ret K Q τ h t = Q .ret τ h := rfl
@[go_sem] theorem hwpF_exit (i : Nat) (t : Tag (Code.exit i, K, Q)) : hwpF P N keep ib mk (.exit i) K Q τ h t = Q (.exit i) τ h := rfl
@[go_sem] theorem hwpF_seq (a b : Code) (t : Tag (Code.seq a b, K, Q)) : hwpF P N keep ib mk (.seq a b) K Q τ h t = hwpF P N keep ib mk a (fun τ h => hwpF P N keep ib mk b K Q τ h ()) Q τ h () := rfl
@[go_sem] theorem hwpF_cond (x : Operand) (a b : Code) (t : Tag (Code.cond x a b, K, Q)) : hwpF P N keep ib mk (.cond x a b) K Q τ h t = condF (hev τ x) (hwpF P N keep ib mk a K Q τ h ()) (hwpF P N keep ib mk b K Q τ h ()) () := by
  simp only [hwpF, hwp, condF]; cases hev τ x <;> rfl
@[go_sem] theorem hwpF_block (i : Nat) (c : Code) (t : Tag (Code.block i c, K, Q)) : hwpF P N keep ib mk (.block i c) K Q τ h t = hwpF P N keep ib mk c K (blockF i K Q ()) τ h () := rfl
@[go_sem] theorem hwpF_loop (c : Code) (t : Tag (Code.loop c, K, Q)) : hwpF P N keep ib mk (.loop c) K Q τ h t = HWpF P N (.loop c) (thenF K Q ()) τ h () := rfl
@[go_sem] theorem hwpF_region (i : Nat) (os : List Oper) (t : Tag (Code.region i ⟨os⟩ false, K, Q)) : hwpF P N keep ib mk (.region i ⟨os⟩ false) K Q τ h t = RegWF P ib os os τ h (fun τ' h' => K (Hl.prune keep τ') h') () := rfl
@[go_sem] theorem hwpF_draw (i : Nat) (os : List Oper) (t : Tag (Code.region i ⟨os⟩ true, K, Q)) : hwpF P N keep ib mk (.region i ⟨os⟩ true) K Q τ h t = drawT (semP (mk i).2.1) (HWpF P N (.region i ⟨os⟩ true) (onlyN K) τ h ()) (RegDF P ib os (mk i).1 (mk i).2.2 (mk i).2.1 [] τ h (fun τ' h' => K (Hl.prune keep τ') h') ()) () := rfl
end
theorem hwpF_sound {P : Program} {N : Nat} {keep ib : List Nat} {mk : Marks} (hmix : P.follows .mixedOrders = true) (c : Code) (K : Tmps → Heap → Prop) (Q : Exit → Tmps → Heap → Prop) (τ : Tmps) (h : Heap) (hc : codeOK N mk c = true) (hw : hwpF P N keep ib mk c K Q τ h ()) : HWp P N c (thenF K Q ()) τ h :=
  hwp_sound hmix c K Q τ h hc hw

def notIB : Op → Bool
  | .box .. => false
  | .buildSlice .. => false
  | .call ⟨.builtin .append, _, _⟩ => false
  | _ => true

theorem stepF_gen {P : Program} {ib : List Nat} {d : Option Tmp} {op : Op} {ρ : Operand → HVal} {h : Heap} {K : HVal → Heap → Prop} {t : Tag (op, K)} (hop : notIB op = true) : stepF P ib d op ρ h K t = step P ⟨d, op, 0, "", #[], none⟩ ρ h K := by
  unfold stepF stepI
  cases d with
  | none => rfl
  | some d =>
    simp only
    split
    · cases op <;> first | rfl | (simp [notIB] at hop; done) | (rename_i c; rcases c with ⟨f, as, ats⟩; cases f <;> first | rfl | (rename_i b; cases b <;> first | rfl | (simp [notIB] at hop; done)))
    · rfl
theorem stepG_gen {P : Program} {ib : List Nat} {d : Option Tmp} {op : Op} {ρ : Operand → HVal} {K : HVal → Prop} {t : Tag (op, K)} (hop : notIB op = true) : stepG P ib d op ρ K t = stepS P ⟨d, op, 0, "", #[], none⟩ ρ K := by
  unfold stepG stepSI
  cases d with
  | none => rfl
  | some d =>
    simp only
    split
    · cases op <;> first | rfl | (simp [notIB] at hop)
    · rfl

def binC (P : Program) (op : BinOp) (ty : TypeId) (c : Bool) (x y : HVal) (K : HVal → Prop) (_ : Tag K) : Prop := stepBinC P op ty c x y K
def binF (P : Program) (op : BinOp) (ty : TypeId) (x y : HVal) (K : HVal → Prop) (_ : Tag K) : Prop := stepBin P op ty x y K
def unF (op : UnOp) (x : HVal) (K : HVal → Prop) (_ : Tag K) : Prop := stepUn op x K
def faF (d : Option TyD) (f : Nat) (x : HVal) (K : HVal → Prop) (_ : Tag K) : Prop := stepFA d f x K
def iaF (re : Option TyR) (x i : HVal) (K : HVal → Prop) (_ : Tag K) : Prop := stepIA re x i K
def ldF (r : Option TyR) (a : HVal) (h : Heap) (K : HVal → Prop) (_ : Tag K) : Prop := stepLd r a h K
def stF (r : Option TyR) (a v : HVal) (h : Heap) (K : Heap → Prop) (_ : Tag K) : Prop := stepSt r a v h K
def alF (r : Option TyR) (h : Heap) (K : HVal → Heap → Prop) (_ : Tag K) : Prop := stepAlloc r h K
def slD (P : Program) (t : TypeId) (x : HVal) (lo hi : Option HVal) (K : HVal → Prop) (_ : Tag K) : Prop := stepSliceD P t x lo hi K
def slF (P : Program) (t : TypeId) (x : HVal) (lo hi : Option HVal) (K : HVal → Prop) (_ : Tag K) : Prop := stepSlice P t x lo hi K
def lenF (P : Program) (d : Option TyD) (x : HVal) (K : HVal → Prop) (_ : Tag K) : Prop := match d, x with
    | some (.slice _), .sl _ es _ => es.length ≤ 9223372036854775807 → K (.int .i64 es.length)
    | some (.slice _), .os _ _ _ n => n ≤ 9223372036854775807 → K (.int .i64 n)
    | some (.slice _), .nilsl => K (.int .i64 0)
    | some .str, .str s => s.length ≤ 9223372036854775807 → K (.int .i64 s.length)
    | _, _ => False
def lenG (P : Program) (d : Option TyD) (x : HVal) (K : HVal → Prop) (_ : Tag K) : Prop := match d, x with
    | some (.slice _), .sl _ es _ => K (.int .i64 es.length)
    | some (.slice _), .os _ _ _ n => K (.int .i64 n)
    | some (.slice _), .nilsl => K (.int .i64 0)
    | some .str, .str s => K (.int .i64 s.length)
    | _, _ => False
def cvF (P : Program) (s : Option TyD) (d : Option TyD) (x : HVal) (K : HVal → Prop) (_ : Tag K) : Prop := match d, x with
  | some (.int k'), .int k n => s.isSome = true ∧ K (.int k' (k'.wrap n))
  | some .str, .sl 1 es _ => (match s with
    | some (.slice et) => dOf P et = some (.int .u8) ∧ (match bytesOf es with | some bs => K (.str bs) | none => False)
    | _ => False)
  | _, _ => False
/-- A reading in a region with an order. -/
def rdF (cr : List (Nat × Nat)) (i : Nat) (pr : List (Nat × Nat)) (r : Option TyR) (x : HVal) (h : Heap) (M : List (Nat × Nat) → HVal → Heap → Prop) (_ : Tag M) : Prop := match x with
  | .op n sz j off => stepLd r (.op n sz j off) h fun v => M (addP cr i (some n) pr) v h
  | .ip sz es j off => stepLd r (.ip sz es j off) h fun v => M (addP cr i none pr) v h
  | _ => False
def andF (c A : Prop) (_ : Tag A) : Prop := c ∧ A
@[go_sem] theorem andF_eq (c A : Prop) (t : Tag A) : andF c A t = (c ∧ A) := rfl
@[go_sem high] theorem andF_true (A : Prop) (t : Tag A) : andF True A t = A := by simp [andF]
def buF (P : Program) (r : Option TyR) (ps : List (Nat × HVal)) (K : HVal → Prop) (_ : Tag K) : Prop := stepBuild P r ps K
def exF (x : HVal) (i : Nat) (K : HVal → Prop) (_ : Tag K) : Prop := match x with
    | .tup cs => match cs[i]? with | some x => K x | none => False
    | _ => False
def ncF (x : HVal) (K : HVal → Prop) (_ : Tag K) : Prop := match x with
    | .op n sz i k => K (.op n sz i k)
    | .ip sz es i k => K (.ip sz es i k)
    | _ => False
def callF (P : Program) (f : HVal) (args : List HVal) (h : Heap) (K : HVal → Heap → Prop) (_ : Tag K) : Prop := match f with
    | .fn (.func g) first cap => HFn P g (first ++ args ++ cap) h K
    | _ => False
/-- A call, as the proofs meet it. -/
def HFnF (P : Program) (g : FuncId) (args : List HVal) (h : Heap) (K : HVal → Heap → Prop) (_ : Tag K) : Prop := HFn P g args h K
theorem HFnF.mk {P : Program} {g : FuncId} {args : List HVal} {h : Heap} {K : HVal → Heap → Prop} {t : Tag K} {r : HVal} (a : Fn0 P g args r) (k : K r h) : HFnF P g args h K t := Fn0.call a k
section
variable (P : Program) (ib : List Nat) (d : Option Tmp) (ρ : Operand → HVal) (h : Heap) (K : HVal → Heap → Prop) (L : HVal → Prop)
@[go_sem] theorem sf_move (x : Operand) (t : Tag (Op.move x, K)) : stepF P ib d (.move x) ρ h K t = K (ρ x) h := by rw [stepF_gen rfl]; rfl
@[go_sem] theorem sg_move (x : Operand) (t : Tag (Op.move x, L)) : stepG P ib d (.move x) ρ L t = L (ρ x) := by rw [stepG_gen rfl]; rfl
@[go_sem] theorem sf_assign (x : Operand) (t : Tag (Op.assign x, K)) : stepF P ib d (.assign x) ρ h K t = K (ρ x) h := by rw [stepF_gen rfl]; rfl
@[go_sem] theorem sg_assign (x : Operand) (t : Tag (Op.assign x, L)) : stepG P ib d (.assign x) ρ L t = L (ρ x) := by rw [stepG_gen rfl]; rfl
@[go_sem] theorem sf_pick (c a b : Operand) (t : Tag (Op.pick c a b, K)) : stepF P ib d (.pick c a b) ρ h K t = condF (ρ c) (K (ρ a) h) (K (ρ b) h) () := by
  rw [stepF_gen rfl]; simp only [step, condF]; cases ρ c <;> rfl
@[go_sem] theorem sg_pick (c a b : Operand) (t : Tag (Op.pick c a b, L)) : stepG P ib d (.pick c a b) ρ L t = condF (ρ c) (L (ρ a)) (L (ρ b)) () := by
  rw [stepG_gen rfl]; simp only [stepS, condF]; cases ρ c <;> rfl
@[go_sem] theorem sf_bin (op : BinOp) (ty ty' : TypeId) (x y : Operand) (t : Tag (Op.binOp op ty x y ty', K)) : stepF P ib d (.binOp op ty x y ty') ρ h K t = binC P op ty (constOp y) (ρ x) (ρ y) (fun v => K v h) () := by rw [stepF_gen rfl]; rfl
@[go_sem] theorem sg_bin (op : BinOp) (ty ty' : TypeId) (x y : Operand) (t : Tag (Op.binOp op ty x y ty', L)) : stepG P ib d (.binOp op ty x y ty') ρ L t = binF P op ty (ρ x) (ρ y) L () := by rw [stepG_gen rfl]; rfl
@[go_sem] theorem sf_un (op : UnOp) (ty : TypeId) (x : Operand) (t : Tag (Op.unOp op ty x, K)) : stepF P ib d (.unOp op ty x) ρ h K t = unF op (ρ x) (fun v => K v h) () := by rw [stepF_gen rfl]; rfl
@[go_sem] theorem sg_un (op : UnOp) (ty : TypeId) (x : Operand) (t : Tag (Op.unOp op ty x, L)) : stepG P ib d (.unOp op ty x) ρ L t = unF op (ρ x) L () := by rw [stepG_gen rfl]; rfl
@[go_sem] theorem sf_conv (s e : TypeId) (x : Operand) (t : Tag (Op.convert s e x, K)) : stepF P ib d (.convert s e x) ρ h K t = cvF P (dOf P s) (dOf P e) (ρ x) (fun v => K v h) () := by rw [stepF_gen rfl]; rfl
@[go_sem] theorem sg_conv (s e : TypeId) (x : Operand) (t : Tag (Op.convert s e x, L)) : stepG P ib d (.convert s e x) ρ L t = cvF P (dOf P s) (dOf P e) (ρ x) L () := by rw [stepG_gen rfl]; rfl
@[go_sem] theorem sf_fa (ty : TypeId) (x : Operand) (f : Nat) (t : Tag (Op.fieldAddr ty x f, K)) : stepF P ib d (.fieldAddr ty x f) ρ h K t = faF (dOf P ty) f (ρ x) (fun v => K v h) () := by rw [stepF_gen rfl]; rfl
@[go_sem] theorem sg_fa (ty : TypeId) (x : Operand) (f : Nat) (t : Tag (Op.fieldAddr ty x f, L)) : stepG P ib d (.fieldAddr ty x f) ρ L t = faF (dOf P ty) f (ρ x) L () := by rw [stepG_gen rfl]; rfl
@[go_sem] theorem sf_ia (ty : TypeId) (x i : Operand) (t : Tag (Op.indexAddr ty x i, K)) : stepF P ib d (.indexAddr ty x i) ρ h K t = iaF (eszOf P ty) (ρ x) (ρ i) (fun v => K v h) () := by rw [stepF_gen rfl]; rfl
@[go_sem] theorem sg_ia (ty : TypeId) (x i : Operand) (t : Tag (Op.indexAddr ty x i, L)) : stepG P ib d (.indexAddr ty x i) ρ L t = iaF (eszOf P ty) (ρ x) (ρ i) L () := by rw [stepG_gen rfl]; rfl
@[go_sem] theorem sf_ld (ty : TypeId) (a : Operand) (t : Tag (Op.load ty a, K)) : stepF P ib d (.load ty a) ρ h K t = ldF (tyR P ty) (ρ a) h (fun v => K v h) () := by rw [stepF_gen rfl]; rfl
@[go_sem] theorem sf_st (ty : TypeId) (a v : Operand) (t : Tag (Op.store ty a v, K)) : stepF P ib d (.store ty a v) ρ h K t = stF (tyR P ty) (ρ a) (ρ v) h (fun h' => K .any h') () := by rw [stepF_gen rfl]; rfl
@[go_sem] theorem sf_al (ty : TypeId) (t : Tag (Op.alloc ty, K)) : stepF P ib d (.alloc ty) ρ h K t = alF (tyR P ty) h K () := by rw [stepF_gen rfl]; rfl
@[go_sem] theorem sf_sl (ty : TypeId) (x : Operand) (lo hi : Option Operand) (t : Tag (Op.slice ty x lo hi none, K)) : stepF P ib d (.slice ty x lo hi none) ρ h K t = slD P ty (ρ x) (lo.map ρ) (hi.map ρ) (fun v => K v h) () := by rw [stepF_gen rfl]; rfl
@[go_sem] theorem sg_sl (ty : TypeId) (x : Operand) (lo hi : Option Operand) (t : Tag (Op.slice ty x lo hi none, L)) : stepG P ib d (.slice ty x lo hi none) ρ L t = slF P ty (ρ x) (lo.map ρ) (hi.map ρ) L () := by rw [stepG_gen rfl]; rfl
@[go_sem] theorem sm_ld (cr pr : List (Nat × Nat)) (i : Nat) (ty : TypeId) (a : Operand) (M : List (Nat × Nat) → HVal → Heap → Prop) (t : Tag (Op.load ty a, M)) : stepM P ib h cr pr i d (.load ty a) ρ M t = rdF cr i pr (tyR P ty) (ρ a) h M () := by
  unfold stepM stepR rdF; simp only [isLdOp, if_true]
  cases ρ a <;> rfl
@[go_sem] theorem sm_oth (cr pr : List (Nat × Nat)) (i : Nat) (op : Op) (M : List (Nat × Nat) → HVal → Heap → Prop) (t : Tag (op, M)) (hop : isLdOp op = false) : stepM P ib h cr pr i d op ρ M t = stepF P ib d op ρ h (fun v h' => andF (protF cr i pr h h') (M pr v h') ()) () := by
  unfold stepM; rw [hop]; rfl
@[go_sem] theorem sf_ex (x : Operand) (i : Nat) (t : Tag (Op.extract x i, K)) : stepF P ib d (.extract x i) ρ h K t = exF (ρ x) i (fun v => K v h) () := by rw [stepF_gen rfl]; rfl
@[go_sem] theorem sg_ex (x : Operand) (i : Nat) (t : Tag (Op.extract x i, L)) : stepG P ib d (.extract x i) ρ L t = exF (ρ x) i L () := by rw [stepG_gen rfl]; rfl
@[go_sem] theorem sf_nc (x : Operand) (t : Tag (Op.nilCheck x, K)) : stepF P ib d (.nilCheck x) ρ h K t = ncF (ρ x) (fun v => K v h) () := by rw [stepF_gen rfl]; rfl
@[go_sem] theorem sg_nc (x : Operand) (t : Tag (Op.nilCheck x, L)) : stepG P ib d (.nilCheck x) ρ L t = ncF (ρ x) L () := by rw [stepG_gen rfl]; rfl
@[go_sem] theorem sf_mf (f : Fn) (fs cs : Array Operand) (t : Tag (Op.makeFunc f fs cs, K)) : stepF P ib d (.makeFunc f fs cs) ρ h K t = K (.fn f (fs.toList.map ρ) (cs.toList.map ρ)) h := by rw [stepF_gen rfl]; rfl
@[go_sem] theorem sg_mf (f : Fn) (fs cs : Array Operand) (t : Tag (Op.makeFunc f fs cs, L)) : stepG P ib d (.makeFunc f fs cs) ρ L t = L (.fn f (fs.toList.map ρ) (cs.toList.map ρ)) := by rw [stepG_gen rfl]; rfl
@[go_sem] theorem sf_bu (ty : TypeId) (ps : Array (Nat × Operand)) (t : Tag (Op.build ty ps, K)) : stepF P ib d (.build ty ps) ρ h K t = buF P (tyR P ty) (ps.toList.map fun p => (p.1, ρ p.2)) (fun v => K v h) () := by rw [stepF_gen rfl]; rfl
@[go_sem] theorem sg_bu (ty : TypeId) (ps : Array (Nat × Operand)) (t : Tag (Op.build ty ps, L)) : stepG P ib d (.build ty ps) ρ L t = buF P (tyR P ty) (ps.toList.map fun p => (p.1, ρ p.2)) L () := by rw [stepG_gen rfl]; rfl
@[go_sem] theorem sf_call (f : Operand) (as : Array Operand) (ats : Array TypeId) (t : Tag (Op.call ⟨.value f, as, ats⟩, K)) : stepF P ib d (.call ⟨.value f, as, ats⟩) ρ h K t = callF P (ρ f) (as.toList.map ρ) h K () := by rw [stepF_gen rfl]; rfl
end

section
variable (P : Program) (ib : List Nat) (d : Option Tmp) (ρ : Operand → HVal) (h : Heap) (K : HVal → Heap → Prop) (L : HVal → Prop)
@[go_sem] theorem sf_len (x : Operand) (ty : TypeId) (t : Tag (Op.call ⟨.builtin .len, #[x], #[ty]⟩, K)) : stepF P ib d (.call ⟨.builtin .len, #[x], #[ty]⟩) ρ h K t = lenF P (dOf P ty) (ρ x) (fun v => K v h) () := by rw [stepF_gen rfl]; rfl
@[go_sem] theorem sg_len (x : Operand) (ty : TypeId) (t : Tag (Op.call ⟨.builtin .len, #[x], #[ty]⟩, L)) : stepG P ib d (.call ⟨.builtin .len, #[x], #[ty]⟩) ρ L t = lenG P (dOf P ty) (ρ x) L () := by rw [stepG_gen rfl]; rfl
def apF (P : Program) (re : Option TyR) (t1 : Option TypeId) (x y : HVal) (h : Heap) (K : HVal → Heap → Prop) (_ : Tag K) : Prop := stepApp P re t1 x y h K
/-! box and buildSlice -/
def ibHas (ib : List Nat) (d : Option Tmp) : Bool := match d with | some d => ib.contains d | none => false
@[go_sem] theorem ibHas_some (k : Nat) : ibHas ib (some k) = ib.contains k := rfl
def apI (i : Bool) (P : Program) (re : Option TyR) (t1 : Option TypeId) (x y : HVal) (h : Heap) (K : HVal → Heap → Prop) (_ : Tag K) : Prop := if i then apF P re t1 x y h (sealK K) () else apF P re t1 x y h K ()
@[go_sem] theorem sf_app (x y : Operand) (a b : TypeId) (t : Tag (Op.call ⟨.builtin .append, #[x, y], #[a, b]⟩, K)) : stepF P ib d (.call ⟨.builtin .append, #[x, y], #[a, b]⟩) ρ h K t = apI (ibHas ib d) P (eszOf P a) (some b) (ρ x) (ρ y) h K () := by
  unfold stepF stepI apI ibHas
  cases d with
  | none => rfl
  | some d => simp only; split <;> rfl
@[go_sem] theorem apI_t (re : Option TyR) (t1 : Option TypeId) (x y : HVal) (t : Tag K) : apI true P re t1 x y h K t = apF P re t1 x y h (sealK K) () := rfl
@[go_sem] theorem apI_f (re : Option TyR) (t1 : Option TypeId) (x y : HVal) (t : Tag K) : apI false P re t1 x y h K t = apF P re t1 x y h K () := rfl
def boxF (i r : Bool) (ty : TypeId) (x : HVal) (h : Heap) (K : HVal → Heap → Prop) (_ : Tag K) : Prop := if i then stepBoxI x (fun v => K v h) else if r then stepRaw ty x h K else stepBox x h K
@[go_sem] theorem sf_box (ty : TypeId) (x : Operand) (t : Tag (Op.box ty x, K)) : stepF P ib d (.box ty x) ρ h K t = boxF (ibHas ib d) (rawB ty) ty (ρ x) h K () := by
  unfold stepF stepI boxF ibHas
  cases d with
  | none => rfl
  | some d => simp only; split <;> rfl
@[go_sem] theorem rawB_eq (ty : TypeId) : rawB ty = (match rawTy with | none => false | some r => decide (ty = r)) := rfl
attribute [go_sem] rawTy
@[go_sem] theorem boxF_t (r : Bool) (ty : TypeId) (x : HVal) (t : Tag K) : boxF true r ty x h K t = (x.cells.all HVal.flat = true ∧ K (.ip x.cells.length [x.cells] 0 0) h) := rfl
@[go_sem] theorem boxF_r (ty : TypeId) (x : HVal) (t : Tag K) : boxF false true ty x h K t = (x.cells = [.nilptr, .nilsl] ∧ ∀ n, h n = none → K (.op n 2 0 0) (upd h n (.raw ty #[.pointer none, .slice none 0 0]))) := rfl
@[go_sem] theorem boxF_f (ty : TypeId) (x : HVal) (t : Tag K) : boxF false false ty x h K t = (x.cells.all HVal.flat = true ∧ ∀ n, h n = none → K (.op n x.cells.length 0 0) (upd h n (.row x.cells.length [x.cells.map .v]))) := rfl
def bsF (i : Bool) (re : Option TyR) (len : Nat) (ps : List (Nat × HVal)) (h : Heap) (K : HVal → Heap → Prop) (_ : Tag K) : Prop :=
  if i then stepBS re len ps (fun sz es => K (.sl sz es true) h) else stepBS re len ps fun sz es => ∀ n, h n = none → K (.os n sz 0 len) (upd h n (.row sz (es.map (List.map .v))))
def bsG (i : Bool) (re : Option TyR) (len : Nat) (ps : List (Nat × HVal)) (K : HVal → Prop) (_ : Tag K) : Prop :=
  if i then stepBS re len ps (fun sz es => K (.sl sz es true)) else False
@[go_sem] theorem sf_bs (ty : TypeId) (len : Nat) (ps : Array (Nat × Operand)) (t : Tag (Op.buildSlice ty len ps, K)) : stepF P ib d (.buildSlice ty len ps) ρ h K t = bsF (ibHas ib d) (eszOf P ty) len (ps.toList.map fun p => (p.1, ρ p.2)) h K () := by
  unfold stepF stepI bsF ibHas
  cases d with
  | none => rfl
  | some d => simp only; split <;> rfl
@[go_sem] theorem sg_bs (ty : TypeId) (len : Nat) (ps : Array (Nat × Operand)) (t : Tag (Op.buildSlice ty len ps, L)) : stepG P ib d (.buildSlice ty len ps) ρ L t = bsG (ibHas ib d) (eszOf P ty) len (ps.toList.map fun p => (p.1, ρ p.2)) L () := by
  unfold stepG stepSI bsG ibHas
  cases d with
  | none => rfl
  | some d => simp only; split <;> rfl
@[go_sem] theorem bsF_t (re : TyR) (len : Nat) (ps : List (Nat × HVal)) (t : Tag K) : bsF true (some re) len ps h K t = (re.zero.length = re.sz ∧ 0 < re.sz ∧ re.zero.all HVal.flat = true ∧ len * re.sz ≤ 16777216 ∧ fillOK len re.sz ps = true ∧ K (.sl re.sz (fillH (List.replicate len re.zero) ps) true) h) := rfl
@[go_sem] theorem bsG_t (re : TyR) (len : Nat) (ps : List (Nat × HVal)) (t : Tag L) : bsG true (some re) len ps L t = (re.zero.length = re.sz ∧ 0 < re.sz ∧ re.zero.all HVal.flat = true ∧ len * re.sz ≤ 16777216 ∧ fillOK len re.sz ps = true ∧ L (.sl re.sz (fillH (List.replicate len re.zero) ps) true)) := rfl
@[go_sem] theorem bsF_f (re : TyR) (len : Nat) (ps : List (Nat × HVal)) (t : Tag K) : bsF false (some re) len ps h K t = (re.zero.length = re.sz ∧ 0 < re.sz ∧ re.zero.all HVal.flat = true ∧ len * re.sz ≤ 16777216 ∧ fillOK len re.sz ps = true ∧ ∀ n, h n = none → K (.os n re.sz 0 len) (upd h n (.row re.sz ((fillH (List.replicate len re.zero) ps).map (List.map .v))))) := rfl

/-! calls -/
@[go_sem] theorem callF_fn (g : FuncId) (first cap args : List HVal) (t : Tag K) : callF P (.fn (.func g) first cap) args h K t = HFnF P g (first ++ args ++ cap) h K () := rfl
/-! arithmetic -/
@[go_sem] theorem binF_add (ty : TypeId) (k k' : IntKind) (a b : Int) (t : Tag L) : binF P .add ty (.int k a) (.int k' b) L t = optF (binH .add (.int k a) (.int k' b)) L () := by simp only [binF, stepBin, optF]; cases binH _ _ _ <;> rfl
@[go_sem] theorem binF_sub (ty : TypeId) (k k' : IntKind) (a b : Int) (t : Tag L) : binF P .sub ty (.int k a) (.int k' b) L t = optF (binH .sub (.int k a) (.int k' b)) L () := by simp only [binF, stepBin, optF]; cases binH _ _ _ <;> rfl
@[go_sem] theorem binF_mul (ty : TypeId) (k k' : IntKind) (a b : Int) (t : Tag L) : binF P .mul ty (.int k a) (.int k' b) L t = optF (binH .mul (.int k a) (.int k' b)) L () := by simp only [binF, stepBin, optF]; cases binH _ _ _ <;> rfl
@[go_sem] theorem binF_and (ty : TypeId) (k k' : IntKind) (a b : Int) (t : Tag L) : binF P .and ty (.int k a) (.int k' b) L t = optF (binH .and (.int k a) (.int k' b)) L () := by simp only [binF, stepBin, optF]; cases binH _ _ _ <;> rfl
@[go_sem] theorem binF_or (ty : TypeId) (k k' : IntKind) (a b : Int) (t : Tag L) : binF P .or ty (.int k a) (.int k' b) L t = optF (binH .or (.int k a) (.int k' b)) L () := by simp only [binF, stepBin, optF]; cases binH _ _ _ <;> rfl
@[go_sem] theorem binF_xor (ty : TypeId) (k k' : IntKind) (a b : Int) (t : Tag L) : binF P .xor ty (.int k a) (.int k' b) L t = optF (binH .xor (.int k a) (.int k' b)) L () := by simp only [binF, stepBin, optF]; cases binH _ _ _ <;> rfl
@[go_sem] theorem binF_andNot (ty : TypeId) (k k' : IntKind) (a b : Int) (t : Tag L) : binF P .andNot ty (.int k a) (.int k' b) L t = optF (binH .andNot (.int k a) (.int k' b)) L () := by simp only [binF, stepBin, optF]; cases binH _ _ _ <;> rfl
@[go_sem] theorem binF_eql (ty : TypeId) (k k' : IntKind) (a b : Int) (t : Tag L) : binF P .eql ty (.int k a) (.int k' b) L t = optF (binH .eql (.int k a) (.int k' b)) L () := by simp only [binF, stepBin, optF]; cases binH _ _ _ <;> rfl
@[go_sem] theorem binF_neq (ty : TypeId) (k k' : IntKind) (a b : Int) (t : Tag L) : binF P .neq ty (.int k a) (.int k' b) L t = optF (binH .neq (.int k a) (.int k' b)) L () := by simp only [binF, stepBin, optF]; cases binH _ _ _ <;> rfl
@[go_sem] theorem binF_lss (ty : TypeId) (k k' : IntKind) (a b : Int) (t : Tag L) : binF P .lss ty (.int k a) (.int k' b) L t = optF (binH .lss (.int k a) (.int k' b)) L () := by simp only [binF, stepBin, optF]; cases binH _ _ _ <;> rfl
@[go_sem] theorem binF_leq (ty : TypeId) (k k' : IntKind) (a b : Int) (t : Tag L) : binF P .leq ty (.int k a) (.int k' b) L t = optF (binH .leq (.int k a) (.int k' b)) L () := by simp only [binF, stepBin, optF]; cases binH _ _ _ <;> rfl
@[go_sem] theorem binF_gtr (ty : TypeId) (k k' : IntKind) (a b : Int) (t : Tag L) : binF P .gtr ty (.int k a) (.int k' b) L t = optF (binH .gtr (.int k a) (.int k' b)) L () := by simp only [binF, stepBin, optF]; cases binH _ _ _ <;> rfl
@[go_sem] theorem binF_geq (ty : TypeId) (k k' : IntKind) (a b : Int) (t : Tag L) : binF P .geq ty (.int k a) (.int k' b) L t = optF (binH .geq (.int k a) (.int k' b)) L () := by simp only [binF, stepBin, optF]; cases binH _ _ _ <;> rfl
@[go_sem] theorem binF_quo (ty : TypeId) (k k' : IntKind) (a b : Int) (t : Tag L) : binF P .quo ty (.int k a) (.int k' b) L t = (k = k' ∧ b ≠ 0 ∧ L (.int k (k.wrap (a.tdiv b)))) := rfl
@[go_sem] theorem binF_rem (ty : TypeId) (k k' : IntKind) (a b : Int) (t : Tag L) : binF P .rem ty (.int k a) (.int k' b) L t = (k = k' ∧ b ≠ 0 ∧ L (.int k (a.tmod b))) := rfl
@[go_sem] theorem binF_shl (ty : TypeId) (k k' : IntKind) (a b : Int) (t : Tag L) : binF P .shl ty (.int k a) (.int k' b) L t = (0 ≤ b ∧ L (.int k (k.wrap (a * 2 ^ (min b.toNat k.bits))))) := rfl
@[go_sem] theorem binF_shr (ty : TypeId) (k k' : IntKind) (a b : Int) (t : Tag L) : binF P .shr ty (.int k a) (.int k' b) L t = (0 ≤ b ∧ L (.int k (a.fdiv (2 ^ (min b.toNat k.bits))))) := rfl
@[go_sem] theorem binF_sadd (ty : TypeId) (a b : List UInt8) (t : Tag L) : binF P .add ty (.str a) (.str b) L t = (a.length + b.length ≤ 9223372036854775807 ∧ L (.str (a ++ b))) := rfl
@[go_sem] theorem binF_seql (ty : TypeId) (a b : List UInt8) (t : Tag L) : binF P .eql ty (.str a) (.str b) L t = L (.bool (decide (a = b))) := rfl
@[go_sem] theorem binF_sneq (ty : TypeId) (a b : List UInt8) (t : Tag L) : binF P .neq ty (.str a) (.str b) L t = L (.bool (!decide (a = b))) := rfl
@[go_sem] theorem binF_slss (ty : TypeId) (a b : List UInt8) (t : Tag L) : binF P .lss ty (.str a) (.str b) L t = L (.bool (Op.bytesLess a b)) := rfl
@[go_sem] theorem binF_beql (ty : TypeId) (a b : Bool) (t : Tag L) : binF P .eql ty (.bool a) (.bool b) L t = (dOf P ty = some .bool ∧ L (.bool (a == b))) := rfl
@[go_sem] theorem binF_bneq (ty : TypeId) (a b : Bool) (t : Tag L) : binF P .neq ty (.bool a) (.bool b) L t = (dOf P ty = some .bool ∧ L (.bool (a != b))) := rfl
@[go_sem] theorem constOp_const (v : Value) : constOp (.const v) = true := rfl
@[go_sem] theorem constOp_tmp (v : Tmp) : constOp (.tmp v) = false := rfl
@[go_sem] theorem constOp_global (v : Nat) : constOp (.global v) = false := rfl
@[go_sem] theorem constOp_func (v : FuncId) : constOp (.func v) = false := rfl
@[go_sem] theorem binC_agg (op : BinOp) (ty : TypeId) (c : Bool) (xs : List HVal) (y : HVal) (t : Tag L) : binC P op ty c (.agg xs) y L t = binF P op ty (.agg xs) y L () := by cases c <;> rfl
attribute [go_sem] isB
@[go_sem] theorem binC_int (op : BinOp) (ty : TypeId) (c : Bool) (k : IntKind) (a : Int) (y : HVal) (t : Tag L) : binC P op ty c (.int k a) y L t = binF P op ty (.int k a) y L () := by cases c <;> rfl
@[go_sem] theorem binC_bool (op : BinOp) (ty : TypeId) (c : Bool) (a : Bool) (y : HVal) (t : Tag L) : binC P op ty c (.bool a) y L t = binF P op ty (.bool a) y L () := by cases c <;> rfl
@[go_sem] theorem binC_str (op : BinOp) (ty : TypeId) (c : Bool) (a : List UInt8) (y : HVal) (t : Tag L) : binC P op ty c (.str a) y L t = binF P op ty (.str a) y L () := by cases c <;> rfl
@[go_sem] theorem binC_ifc (ty ti : TypeId) (v : HVal) (t : Tag L) : binC P .eql ty true (.iface ti v) .nilif L t = (isIfc P ty = true ∧ L (.bool false)) := rfl
@[go_sem] theorem binC_nif (ty : TypeId) (t : Tag L) : binC P .eql ty true .nilif .nilif L t = (isIfc P ty = true ∧ L (.bool true)) := rfl
@[go_sem] theorem binC_nifc (ty ti : TypeId) (v : HVal) (t : Tag L) : binC P .neq ty true (.iface ti v) .nilif L t = (isIfc P ty = true ∧ L (.bool true)) := rfl
@[go_sem] theorem binC_nnif (ty : TypeId) (t : Tag L) : binC P .neq ty true .nilif .nilif L t = (isIfc P ty = true ∧ L (.bool false)) := rfl
@[go_sem] theorem unF_not (b : Bool) (t : Tag L) : unF .not (.bool b) L t = L (.bool (!b)) := rfl
@[go_sem] theorem unF_neg (k : IntKind) (n : Int) (t : Tag L) : unF .neg (.int k n) L t = L (.int k (k.wrap (0 - n))) := rfl
@[go_sem] theorem cvF_int (s : TyD) (k k' : IntKind) (n : Int) (t : Tag L) : cvF P (some s) (some (.int k')) (.int k n) L t = L (.int k' (k'.wrap n)) := by simp [cvF]
@[go_sem] theorem cvF_bytes (et : TypeId) (es : List (List HVal)) (b : Bool) (t : Tag L) : cvF P (some (.slice et)) (some .str) (.sl 1 es b) L t = (dOf P et = some (.int .u8) ∧ optF (bytesOf es) (fun bs => L (.str bs)) ()) := by
  simp only [cvF, optF]; cases bytesOf es <;> rfl
@[go_sem] theorem rdF_op (cr pr : List (Nat × Nat)) (i : Nat) (r : Option TyR) (n sz j off : Nat) (M : List (Nat × Nat) → HVal → Heap → Prop) (t : Tag M) : rdF cr i pr r (.op n sz j off) h M t = ldF r (.op n sz j off) h (fun v => M (addP cr i (some n) pr) v h) () := rfl
@[go_sem] theorem rdF_ip (cr pr : List (Nat × Nat)) (i : Nat) (r : Option TyR) (sz j off : Nat) (es : List (List HVal)) (M : List (Nat × Nat) → HVal → Heap → Prop) (t : Tag M) : rdF cr i pr r (.ip sz es j off) h M t = ldF r (.ip sz es j off) h (fun v => M (addP cr i none pr) v h) () := rfl
attribute [go_sem] addP hasL hasP protF bytesOf
@[go_sem] theorem isLdOp_move (x : Operand) : isLdOp (.move x) = false := rfl
@[go_sem] theorem isLdOp_assign (x : Operand) : isLdOp (.assign x) = false := rfl
@[go_sem] theorem isLdOp_alloc (x : TypeId) : isLdOp (.alloc x) = false := rfl
@[go_sem] theorem isLdOp_box (x : TypeId) (v : Operand) : isLdOp (.box x v) = false := rfl
@[go_sem] theorem isLdOp_bs (x : TypeId) (l : Nat) (ps : Array (Nat × Operand)) : isLdOp (.buildSlice x l ps) = false := rfl
@[go_sem] theorem isLdOp_build (x : TypeId) (ps : Array (Nat × Operand)) : isLdOp (.build x ps) = false := rfl
@[go_sem] theorem isLdOp_store (x : TypeId) (a v : Operand) : isLdOp (.store x a v) = false := rfl
@[go_sem] theorem isLdOp_mk (x : TypeId) (a v : Operand) : isLdOp (.makeSlice x a v) = false := rfl
@[go_sem] theorem isLdOp_call (c : Call) : isLdOp (.call c) = false := rfl
@[go_sem] theorem isLdOp_mm (x : TypeId) (r : Option Operand) : isLdOp (.makeMap x r) = false := rfl
@[go_sem] theorem isLdOp_lookup (x : TypeId) (a b : Operand) (c : Bool) : isLdOp (.lookup x a b c) = false := rfl
@[go_sem] theorem isLdOp_mu (x : TypeId) (a b c : Operand) : isLdOp (.mapUpdate x a b c) = false := rfl
@[go_sem] theorem isLdOp_me (x : TypeId) (a b : Operand) : isLdOp (.mapEntry x a b) = false := rfl
@[go_sem] theorem isLdOp_es (x : TypeId) (a b c : Operand) : isLdOp (.entryStore x a b c) = false := rfl
@[go_sem] theorem isLdOp_ins (x : TypeId) (a b c : Operand) : isLdOp (.insert x a b c) = false := rfl
@[go_sem] theorem isLdOp_range (x : TypeId) (a : Operand) : isLdOp (.range x a) = false := rfl
@[go_sem] theorem isLdOp_next (a : Operand) (b : Bool) : isLdOp (.next a b) = false := rfl
@[go_sem] theorem isLdOp_entry (a : Operand) : isLdOp (.entry a) = false := rfl
@[go_sem] theorem isLdOp_slice (x : TypeId) (a : Operand) (b c d : Option Operand) : isLdOp (.slice x a b c d) = false := rfl
@[go_sem] theorem isLdOp_ia (x : TypeId) (a b : Operand) : isLdOp (.indexAddr x a b) = false := rfl
@[go_sem] theorem isLdOp_fa (x : TypeId) (a : Operand) (b : Nat) : isLdOp (.fieldAddr x a b) = false := rfl
@[go_sem] theorem isLdOp_ex (a : Operand) (b : Nat) : isLdOp (.extract a b) = false := rfl
@[go_sem] theorem isLdOp_mf (f : Fn) (a b : Array Operand) : isLdOp (.makeFunc f a b) = false := rfl
@[go_sem] theorem isLdOp_conv (a b : TypeId) (x : Operand) : isLdOp (.convert a b x) = false := rfl
@[go_sem] theorem isLdOp_bin (o : BinOp) (a b : TypeId) (x y : Operand) : isLdOp (.binOp o a x y b) = false := rfl
@[go_sem] theorem isLdOp_pick (x y z : Operand) : isLdOp (.pick x y z) = false := rfl
@[go_sem] theorem isLdOp_nc (x : Operand) : isLdOp (.nilCheck x) = false := rfl

/-! memory -/
def fldF (fs : List (Nat × TypeId × Nat)) (f : Nat) (K : Nat → Prop) (_ : Tag K) : Prop := match fs[f]? with | some (off, _, sz') => sz' ≠ 0 ∧ K off | none => False
@[go_sem] theorem fldF_zero (off sz : Nat) (ty : TypeId) (fs : List (Nat × TypeId × Nat)) (M : Nat → Prop) (t : Tag M) : fldF ((off, ty, sz) :: fs) 0 M t = (sz ≠ 0 ∧ M off) := rfl
@[go_sem] theorem fldF_succ (x : Nat × TypeId × Nat) (fs : List (Nat × TypeId × Nat)) (n : Nat) (M : Nat → Prop) (t : Tag M) : fldF (x :: fs) (n + 1) M t = fldF fs n M () := rfl
@[go_sem] theorem faF_op (fs : List (Nat × TypeId × Nat)) (f n sz i k : Nat) (t : Tag L) : faF (some (.st fs)) f (.op n sz i k) L t = fldF fs f (fun off => L (.op n sz i (k + off))) () := rfl
@[go_sem] theorem faF_ip (fs : List (Nat × TypeId × Nat)) (f sz i k : Nat) (es : List (List HVal)) (t : Tag L) : faF (some (.st fs)) f (.ip sz es i k) L t = fldF fs f (fun off => L (.ip sz es i (k + off))) () := rfl
@[go_sem] theorem iaF_sl (re : TyR) (sz : Nat) (es : List (List HVal)) (b : Bool) (k : IntKind) (n : Int) (t : Tag L) : iaF (some re) (.sl sz es b) (.int k n) L t = (re.sz = sz ∧ 0 ≤ n ∧ n < es.length ∧ L (.ip sz es n.toNat 0)) := rfl
@[go_sem] theorem iaF_os (re : TyR) (m sz i0 len : Nat) (k : IntKind) (n : Int) (t : Tag L) : iaF (some re) (.os m sz i0 len) (.int k n) L t = (re.sz = sz ∧ 0 ≤ n ∧ n < len ∧ L (.op m sz (i0 + n.toNat) 0)) := rfl
@[go_sem] theorem ldF_ip (r : TyR) (sz i off : Nat) (es : List (List HVal)) (t : Tag L) : ldF (some r) (.ip sz es i off) h L t = optF es[i]? (fun e => optF (ld r e off) L ()) () := by
  simp only [ldF, stepLd, optF]
  cases es[i]? with
  | none => rfl
  | some e => simp only; cases ld r e off <;> rfl
def rowF (o : Option HObj) (K : Nat → List (List Cell) → Prop) (_ : Tag K) : Prop := match o with | some (.row sz es) => K sz es | _ => False
@[go_sem] theorem rowF_row (sz : Nat) (es : List (List Cell)) (M : Nat → List (List Cell) → Prop) (t : Tag M) : rowF (some (.row sz es)) M t = M sz es := rfl
@[go_sem] theorem ldF_op (r : TyR) (n sz i off : Nat) (t : Tag L) : ldF (some r) (.op n sz i off) h L t = rowF (h n) (fun sz' es => sz' = sz ∧ optF es[i]? (fun e => optF (ldOwn r e off) L ()) ()) () := by
  simp only [ldF, stepLd, rowF]
  cases h n with
  | none => rfl
  | some o =>
    cases o with
    | row sz' es =>
      simp only [optF]
      cases es[i]? with
      | none => rfl
      | some e => simp only; cases ldOwn r e off <;> rfl
    | _ => rfl
@[go_sem] theorem stF_op (r : TyR) (n sz i off : Nat) (v : HVal) (M : Heap → Prop) (t : Tag M) : stF (some r) (.op n sz i off) v h M t = rowF (h n) (fun sz' es => sz' = sz ∧ optF es[i]? (fun e => v.cells.all HVal.flat = true ∧ v.cells.length = r.sz ∧ off + r.sz ≤ e.length ∧ M (upd h n (.row sz (es.set i (stCells e off v.cells))))) ()) () := by
  simp only [stF, stepSt, rowF]
  cases h n with
  | none => rfl
  | some o =>
    cases o with
    | row sz' es => simp only [optF]; cases es[i]? <;> rfl
    | _ => rfl
@[go_sem] theorem apF_os (re : TyR) (t1 : Option TypeId) (n sz i len : Nat) (y : HVal) (t : Tag K) : apF P (some re) t1 (.os n sz i len) y h K t = (re.zero.length = re.sz ∧ 0 < re.sz ∧ srcTy P t1 = true ∧ re.sz = sz ∧ rowF (h n) (fun sz' es => sz' = sz ∧ i + len ≤ es.length ∧ optF (srcOf h sz y) (fun ys => (len + ys.length) * re.bytes ≤ 140737488355328 ∧ len + ys.length ≤ 9223372036854775807 ∧
    ∀ b, h b = none → K (.os b sz 0 (len + ys.length)) (upd (upd h n .gone) b (.row sz ((es.drop i).take len ++ ys.map (List.map .v))))) ()) ()) := by
  simp only [apF, stepApp, rowF]
  cases h n with
  | none => rfl
  | some o =>
    cases o with
    | row sz' es => simp only [optF]; cases srcOf h sz y <;> rfl
    | _ => rfl
@[go_sem] theorem apF_sl (re : TyR) (t1 : Option TypeId) (sz : Nat) (es : List (List HVal)) (tg : Bool) (y : HVal) (t : Tag K) : apF P (some re) t1 (.sl sz es tg) y h K t = (re.zero.length = re.sz ∧ 0 < re.sz ∧ srcTy P t1 = true ∧ optF (dstOf re.sz (.sl sz es tg)) (fun olds => optF (srcOf h re.sz y) (fun ys => (ys = [] → K (.sl sz es tg) h) ∧ (ys ≠ [] → (olds.length + ys.length) * re.bytes ≤ 140737488355328 ∧ olds.length + ys.length ≤ 9223372036854775807 ∧
    ∀ n, h n = none → K (.os n re.sz 0 (olds.length + ys.length)) (upd h n (.row re.sz ((olds ++ ys).map (List.map .v)))))) ()) ()) := by
  simp only [apF, stepApp]
  cases hd : dstOf re.sz (.sl sz es tg) with
  | none => rfl
  | some olds => simp only [optF]; cases srcOf h re.sz y <;> rfl
@[go_sem] theorem apF_nil (re : TyR) (t1 : Option TypeId) (y : HVal) (t : Tag K) : apF P (some re) t1 .nilsl y h K t = (re.zero.length = re.sz ∧ 0 < re.sz ∧ srcTy P t1 = true ∧ optF (srcOf h re.sz y) (fun ys => (ys = [] → K .nilsl h) ∧ (ys ≠ [] → ((([] : List (List HVal)).length) + ys.length) * re.bytes ≤ 140737488355328 ∧ (([] : List (List HVal)).length) + ys.length ≤ 9223372036854775807 ∧
    ∀ n, h n = none → K (.os n re.sz 0 ((([] : List (List HVal)).length) + ys.length)) (upd h n (.row re.sz (([] ++ ys).map (List.map .v)))))) ()) := by
  simp only [apF, stepApp, dstOf]
  cases srcOf h re.sz y <;> rfl
@[go_sem] theorem alF_some (r : TyR) (t : Tag K) : alF (some r) h K t = (r.zero ≠ [] ∧ r.zero.all HVal.flat = true ∧ ∀ n, h n = none → K (.op n r.zero.length 0 0) (upd h n (.row r.zero.length [r.zero.map .v]))) := rfl
@[go_sem] theorem lenF_sl (et : TypeId) (sz : Nat) (es : List (List HVal)) (b : Bool) (t : Tag L) : lenF P (some (.slice et)) (.sl sz es b) L t = (es.length ≤ 9223372036854775807 → L (.int .i64 es.length)) := rfl
@[go_sem] theorem lenF_os (et : TypeId) (m sz i n : Nat) (t : Tag L) : lenF P (some (.slice et)) (.os m sz i n) L t = (n ≤ 9223372036854775807 → L (.int .i64 n)) := rfl
@[go_sem] theorem lenF_nil (et : TypeId) (t : Tag L) : lenF P (some (.slice et)) .nilsl L t = L (.int .i64 0) := rfl
@[go_sem] theorem lenF_str (s : List UInt8) (t : Tag L) : lenF P (some .str) (.str s) L t = (s.length ≤ 9223372036854775807 → L (.int .i64 s.length)) := rfl
@[go_sem] theorem lenG_sl (et : TypeId) (sz : Nat) (es : List (List HVal)) (b : Bool) (t : Tag L) : lenG P (some (.slice et)) (.sl sz es b) L t = L (.int .i64 es.length) := rfl
@[go_sem] theorem lenG_os (et : TypeId) (m sz i n : Nat) (t : Tag L) : lenG P (some (.slice et)) (.os m sz i n) L t = L (.int .i64 n) := rfl
@[go_sem] theorem lenG_nil (et : TypeId) (t : Tag L) : lenG P (some (.slice et)) .nilsl L t = L (.int .i64 0) := rfl
@[go_sem] theorem lenG_str (s : List UInt8) (t : Tag L) : lenG P (some .str) (.str s) L t = L (.int .i64 s.length) := rfl
@[go_sem] theorem exF_tup (cs : List HVal) (i : Nat) (t : Tag L) : exF (.tup cs) i L t = optF cs[i]? L () := by
  simp only [exF, optF]; cases cs[i]? <;> rfl
@[go_sem] theorem ncF_op (n sz i k : Nat) (t : Tag L) : ncF (.op n sz i k) L t = L (.op n sz i k) := rfl
@[go_sem] theorem ncF_ip (sz i k : Nat) (es : List (List HVal)) (t : Tag L) : ncF (.ip sz es i k) L t = L (.ip sz es i k) := rfl
@[go_sem] theorem buF_some (r : TyR) (ps : List (Nat × HVal)) (t : Tag L) : buF P (some r) ps L t = (placesOK P r.d = true ∧ r.zero ≠ [] ∧ fillCOK (places P r.d) r.zero.length ps = true ∧ L (.agg (fillC (places P r.d) r.zero ps))) := rfl
@[go_sem] theorem slF_sl (ty : TypeId) (sz : Nat) (es : List (List HVal)) (b : Bool) (lo hi : Option HVal) (t : Tag L) : slF P ty (.sl sz es b) lo hi L t = optF (eszOf P ty) (fun re => re.sz = sz ∧ optF (bndH 0 lo) (fun l => optF (bndH es.length hi) (fun m => 0 ≤ l ∧ l ≤ m ∧ m ≤ es.length ∧ L (.sl sz ((es.take m.toNat).drop l.toNat) (b && decide (m = es.length)))) ()) ()) () := by
  simp only [slF, stepSlice, optF]
  cases eszOf P ty with
  | none => rfl
  | some re =>
    simp only
    cases bndH 0 lo with
    | none => rfl
    | some l => simp only; cases bndH es.length hi <;> rfl

@[go_sem] theorem slF_os (ty : TypeId) (n sz i len : Nat) (lo hi : Option HVal) (t : Tag L) : slF P ty (.os n sz i len) lo hi L t = optF (eszOf P ty) (fun re => re.sz = sz ∧ optF (bndH 0 lo) (fun l => optF (bndH len hi) (fun m => 0 ≤ l ∧ (l ≤ m ∧ l < len) ∧ m ≤ len ∧ L (.os n sz (i + l.toNat) (m.toNat - l.toNat))) ()) ()) () := by
  simp only [slF, stepSlice, optF]
  cases eszOf P ty with
  | none => rfl
  | some re =>
    simp only
    cases bndH 0 lo with
    | none => rfl
    | some l => simp only; cases bndH len hi <;> rfl
@[go_sem] theorem slD_str (ty : TypeId) (s : List UInt8) (lo hi : Option HVal) (t : Tag L) : slD P ty (.str s) lo hi L t = slF P ty (.str s) lo hi L () := by cases hi <;> rfl
@[go_sem] theorem slD_sl (ty : TypeId) (sz : Nat) (es : List (List HVal)) (b : Bool) (lo hi : Option HVal) (t : Tag L) : slD P ty (.sl sz es b) lo hi L t = slF P ty (.sl sz es b) lo hi L () := by cases hi <;> rfl
@[go_sem] theorem slD_os (ty : TypeId) (n sz i len : Nat) (lo : Option HVal) (y : HVal) (t : Tag L) : slD P ty (.os n sz i len) lo (some y) L t = slF P ty (.os n sz i len) lo (some y) L () := rfl
@[go_sem] theorem slD_osN (ty : TypeId) (n sz i len : Nat) (lo : Option HVal) (t : Tag L) : slD P ty (.os n sz i len) lo none L t = optF (eszOf P ty) (fun re => re.sz = sz ∧ optF (bndH 0 lo) (fun l => 0 ≤ l ∧ l ≤ len ∧ (l < len → L (.os n sz (i + l.toNat) (len - l.toNat))) ∧ (l = len → L (.os n sz (i + len) 0) ∧ L (.sl sz [] true))) ()) () := by
  simp only [slD, stepSliceD, optF]
  cases eszOf P ty with
  | none => rfl
  | some re =>
    simp only
    cases bndH 0 lo <;> rfl
/-! what is handed back -/
def resF (P : Program) (τ : Tmps) (h : Heap) (l : List ResultVar) (M : List HVal → Prop) (_ : Tag M) : Prop := resL P τ h l M
@[go_sem] theorem resF_nil (τ : Tmps) (M : List HVal → Prop) (t : Tag M) : resF P τ h [] M t = M [] := rfl
@[go_sem] theorem resF_tmp (τ : Tmps) (s : Tmp) (l : List ResultVar) (M : List HVal → Prop) (t : Tag M) : resF P τ h (.tmp s :: l) M t = resF P τ h l (fun vs => M (tget τ s :: vs)) () := rfl
@[go_sem] theorem resF_cell (τ : Tmps) (a : Tmp) (ty : TypeId) (l : List ResultVar) (M : List HVal → Prop) (t : Tag M) : resF P τ h (.cell a ty :: l) M t = ldF (tyR P ty) (tget τ a) h (fun v => resF P τ h l (fun vs => M (v :: vs)) ()) () := rfl
def packF (vs : List HVal) (L : HVal → Prop) (_ : Tag L) : Prop := match vs with | [v] => L v | vs => L (.tup vs)
@[go_sem] theorem packF_nil (t : Tag L) : packF [] L t = L (.tup []) := rfl
@[go_sem] theorem packF_one (v : HVal) (t : Tag L) : packF [v] L t = L v := rfl
@[go_sem] theorem packF_two (v w : HVal) (vs : List HVal) (t : Tag L) : packF (v :: w :: vs) L t = L (.tup (v :: w :: vs)) := rfl
end

/-- A function's end. -/
def postF (P : Program) (rs : Array ResultVar) (K : HVal → Heap → Prop) (_ : Tag K) : Exit → Tmps → Heap → Prop := postQ P rs K
section
variable (P : Program) (rs : Array ResultVar) (K : HVal → Heap → Prop) (τ : Tmps) (h : Heap)
@[go_sem] theorem postF_normal (t : Tag K) : postF P rs K t .normal τ h = resF P τ h rs.toList (fun vs => packF vs (fun v => K v h) ()) () := rfl
@[go_sem] theorem postF_ret (t : Tag K) : postF P rs K t .ret τ h = resF P τ h rs.toList (fun vs => packF vs (fun v => K v h) ()) () := rfl
@[go_sem] theorem postF_exit (i : Nat) (t : Tag K) : postF P rs K t (.exit i) τ h = False := rfl
end

theorem fn0F {P : Program} {f : FuncId} {fn : Func} {c : Code} (N : Nat) (keep ib : List Nat) (mk : Marks) {args : List HVal} {r : HVal} (hmix : P.follows .mixedOrders = true) (hf : P.funcs[f]? = some fn) (hb : fn.body = some c)
    (hck : (callable P f && decide (fn.ntmps = N) && codeOK N mk c) = true) (hl : args.length ≤ N)
    (hw : ∀ h, hwpF P N keep ib mk c (fun τ h' => postF P fn.results (fun r' h' => r' = r ∧ h.le h') () .normal τ h') (postF P fn.results (fun r' h' => r' = r ∧ h.le h') ()) (argsT 0 args) h ()) : Fn0 P f args r :=
  fn0_hwp N keep ib mk hmix hf hb hck hl hw
/-- A loop: for each x the slots S x and the named rows H x at the head of a round. -/
theorem loopF {P : Program} {N : Nat} {keep ib : List Nat} {mk : Marks} {c : Code} {Q : Exit → Tmps → Heap → Prop} {τ : Tmps} {h : Heap} {t : Tag (Code.loop c, Q)} {α : Type} (hmix : P.follows .mixedOrders = true) (hc : codeOK N mk c = true) (S : α → Tmps) (H : α → Heap) (side : α → Prop) (μ : α → Nat) (x₀ : α)
    (h₀ : SatL (S x₀) τ ∧ (H x₀).le h ∧ side x₀)
    (round : ∀ x, side x → hwpF P N keep ib mk c (fun τ' h' => ∃ x', SatL (S x') τ' ∧ (H x').le h' ∧ side x' ∧ μ x' < μ x) Q (S x) (H x) ()) : HWpF P N (.loop c) Q τ h t :=
  HWp.loopF S H side μ x₀ h₀ fun x hx => hwpF_sound hmix c _ _ _ _ hc (round x hx)
theorem fn0A {P : Program} {f : FuncId} {fn : Func} {c : Code} (N : Nat) (keep ib : List Nat) (mk : Marks) {args : List HVal} {r : HVal} (hf : P.funcs[f]? = some fn) (hw : ∀ h, hwpF P N keep ib mk c (fun τ h' => postF P fn.results (fun r' h' => r' = r ∧ h.le h') () .normal τ h') (postF P fn.results (fun r' h' => r' = r ∧ h.le h') ()) (argsT 0 args) h ()) (hmix : P.follows .mixedOrders = true := by exact mix) (hb : fn.body = some c := by rfl) (hck : (callable P f && decide (fn.ntmps = N) && codeOK N mk c) = true := by kernel_rfl) (hl : args.length ≤ N := by simp) : Fn0 P f args r :=
  fn0F N keep ib mk hmix hf hb hck hl hw
theorem loopA {P : Program} {N : Nat} (keep ib : List Nat) (mk : Marks) {c : Code} {Q : Exit → Tmps → Heap → Prop} {τ : Tmps} {h : Heap} {t : Tag (Code.loop c, Q)} {α : Type} (S : α → Tmps) (H : α → Heap) (side : α → Prop) (μ : α → Nat) (x₀ : α) (h₀ : SatL (S x₀) τ ∧ (H x₀).le h ∧ side x₀) (round : ∀ x, side x → hwpF P N keep ib mk c (fun τ' h' => ∃ x', SatL (S x') τ' ∧ (H x').le h' ∧ side x' ∧ μ x' < μ x) Q (S x) (H x) ()) (hmix : P.follows .mixedOrders = true := by exact mix) (hc : codeOK N mk c = true := by kernel_rfl) : HWpF P N (.loop c) Q τ h t :=
  loopF (keep := keep) (ib := ib) (mk := mk) hmix hc S H side μ x₀ h₀ round
/-! ### a step of the walk as one term -/
end Go.Hl

/-
  From the kit's readings of a call's arguments to typed cells, and from a contract to a row's end.
-/
namespace Go.Hl
open Go.ChangeShapes Go.WideShapes
set_option linter.unusedVariables false
set_option linter.unusedSimpArgs false

/-- Cells that read as data of a type: ints, bools, strings, slices and structs of these. -/
def Dat (P : Program) : Nat → TypeId → List HVal → Prop
  | 0, _, _ => False
  | n + 1, t, xs =>
    match P.underlying t with
    | some .bool => ∃ b, xs = [.bool b]
    | some (.int k) => ∃ i, xs = [.int k i] ∧ (Lit.int k i).wf = true
    | some .string => ∃ s, xs = [.str s]
    | some (.slice e) => ∃ es, xs = [.sl (P.cellsOf e) es false] ∧ ∀ y ∈ es, Dat P n e y
    | some (.struct fs) => xs.length = P.cellsOf t ∧ ∀ (i : Nat) (f : Field), fs[i]? = some f → Dat P n f.type ((xs.drop f.offset).take (P.cellsOf f.type))
    | _ => False

def tilesB (P : Program) : List Field → Nat → Option Nat
  | [], o => some o
  | f :: fs, o => if f.offset = o then tilesB P fs (o + P.cellsOf f.type) else none

/-- The types that Dat reads, closed. -/
def datB (P : Program) (T : List TypeId) : Bool := T.all fun t =>
  match P.underlying t with
  | some .bool | some (.int _) | some .string => P.cellsOf t == 1
  | some (.slice e) => P.cellsOf t == 1 && decide (0 < P.cellsOf e) && T.contains e
  | some (.struct fs) => (tilesB P fs.toList 0 == some (P.cellsOf t)) && fs.toList.all (fun f => T.contains f.type)
  | _ => false

theorem dat_one {P : Program} {T : List TypeId} (hT : datB P T = true) : ∀ (n : Nat) (t : TypeId) (xs : List HVal), t ∈ T → Dat P n t xs → xs.length = P.cellsOf t ∧ xs.all HVal.flat = true
  | 0, _, _, _, h => h.elim
  | n + 1, t, xs, ht, h => by
    have hd := List.all_eq_true.1 hT t ht
    unfold Dat at h
    split at h
    · rename_i hu; rw [hu] at hd; obtain ⟨b, rfl⟩ := h; exact ⟨by simpa using (of_decide_eq_true hd).symm, rfl⟩
    · rename_i hu; rw [hu] at hd; obtain ⟨i, rfl, _⟩ := h; exact ⟨by simpa using (of_decide_eq_true hd).symm, rfl⟩
    · rename_i hu; rw [hu] at hd; obtain ⟨s, rfl⟩ := h; exact ⟨by simpa using (of_decide_eq_true hd).symm, rfl⟩
    · rename_i e hu
      rw [hu] at hd; obtain ⟨es, rfl, _⟩ := h
      simp only [Bool.and_eq_true, beq_iff_eq] at hd
      exact ⟨by simp [hd.1.1], rfl⟩
    · rename_i fs hu
      rw [hu] at hd
      obtain ⟨hl, hf⟩ := h
      refine ⟨hl, ?_⟩
      simp only [Bool.and_eq_true, beq_iff_eq, List.all_eq_true] at hd
      have key : ∀ (l : List Field) (o : Nat), (∀ f ∈ l, T.contains f.type = true ∧ Dat P n f.type ((xs.drop f.offset).take (P.cellsOf f.type))) → tilesB P l o = some (P.cellsOf t) → (xs.drop o).all HVal.flat = true := by
        intro l
        induction l with
        | nil => intro o _ ho; simp only [tilesB, Option.some.injEq] at ho; rw [List.drop_eq_nil_of_le (by omega)]; rfl
        | cons f l ih =>
          intro o hl' ho
          simp only [tilesB] at ho
          split at ho
          · rename_i e
            have h1 := hl' f List.mem_cons_self
            have h2 := (dat_one hT n _ _ (by simpa using h1.1) h1.2).2
            have h3 := ih _ (fun g hg => hl' g (List.mem_cons_of_mem _ hg)) ho
            rw [e] at h2
            rw [← List.take_append_drop (P.cellsOf f.type) (xs.drop o), List.all_append, h2, List.drop_drop, h3]; rfl
          · cases ho
      have := key fs.toList 0 (fun f hf' => by
        obtain ⟨i, hi⟩ := List.getElem?_of_mem hf'
        exact ⟨hd.2 f hf', hf i f (by simpa using hi)⟩) hd.1
      simpa using this
    · exact h.elim

section
variable {H : Type} {enc : TypeId × Value → H} {P : Program} {w : World} {base : Nat} {sp : Nat → Bool} {held : Bool}

theorem cell_one_of_flat {E : Env} {h : Heap} {xs : List HVal} {vs : List Value} (hr : RepL E h w xs vs) (hf : xs.all HVal.flat = true) (j : Nat) (v : Value) (hv : vs[j]? = some v) : v.oneCell' = true := by
  obtain ⟨hj, _⟩ := List.getElem?_eq_some_iff.1 hv
  have hl := hr.length
  have hx : xs[j]? = some xs[j] := List.getElem?_eq_getElem (by omega)
  exact (Rep.flat_one (hr.get j _ _ hx hv) (List.all_eq_true.1 hf _ (List.mem_of_getElem? hx))).1

/-- What the kit reads as data, read as typed cells. -/
theorem open_dat {T : List TypeId} (hT : datB P T = true) {E : Env} {h : Heap} (hI : ∀ b, b < w.heap.size → Imm E h w b) :
    ∀ (n : Nat) (t : TypeId) (cs : List Value) (x : DataW H × List MemPlace), t ∈ T → DataW.trod enc P w base sp held n t cs = some x → ∃ xs, Dat P n t xs ∧ RepL E h w xs cs
  | 0, t, cs, x, _, hx => by simp [DataW.trod] at hx
  | n + 1, t, cs, x, ht, hx => by
    have hd := List.all_eq_true.1 hT t ht
    match hu : P.underlying t with
    | some .bool =>
      obtain ⟨b, rfl, _⟩ := DataW.trod_bool hu hx
      exact ⟨[.bool b], by simp only [Dat, hu]; exact ⟨b, rfl⟩, ⟨.bool b, trivial⟩⟩
    | some (.int k) =>
      obtain ⟨i, rfl, _, hw⟩ := DataW.trod_int hu hx
      exact ⟨[.int k i], by simp only [Dat, hu]; exact ⟨i, rfl, hw⟩, ⟨.int k i, trivial⟩⟩
    | some .string =>
      obtain ⟨s, rfl, _, hs⟩ := DataW.trod_string hu hx
      refine ⟨[.str s.data.toList], by simp only [Dat, hu]; exact ⟨_, rfl⟩, ⟨?_, trivial⟩⟩
      have : s = ⟨s.data.toList.toArray⟩ := by cases s; simp
      rw [this]
      exact .str _ (by simpa using hs)
    | some (.slice e) =>
      rw [hu] at hd
      simp only [Bool.and_eq_true, beq_iff_eq, decide_eq_true_eq, List.contains_iff_mem] at hd
      rcases DataW.trod_slice hu hx with ⟨rfl, _⟩ | ⟨a, len, cap, elems, rest, m, hm, rfl, _, hb, hlc, hmax, hel, hcell, _, _⟩
      · exact ⟨[.sl (P.cellsOf e) [] false], by simp only [Dat, hu]; exact ⟨[], rfl, by simp⟩, ⟨.sl0 _ _ _ _ (fun e => by simp at e) (by simp) trivial, trivial⟩⟩
      · obtain rfl : n = m := by omega
        -- each element read
        have each : ∀ i, i < len → ∃ ys vs, Dat P n e ys ∧ RepL E h w ys vs ∧ w.cells? base (a.add (i * P.cellsOf e)) (P.cellsOf e) = some vs := by
          intro i hi
          have h1 := hcell i hi
          have hi' : i < elems.length := by omega
          rw [List.getElem?_eq_getElem hi'] at h1
          simp only [Option.bind_eq_some_iff] at h1
          obtain ⟨vs, h2, h3⟩ := h1
          obtain ⟨ys, h4, h5⟩ := open_dat hT hI n e vs _ hd.2 h3
          exact ⟨ys, vs, h4, h5, h2⟩
        let ys : Nat → List HVal := fun i => if hi : i < len then Classical.choose (each i hi) else []
        have hys : ∀ i, i < len → ∃ vs, Dat P n e (ys i) ∧ RepL E h w (ys i) vs ∧ w.cells? base (a.add (i * P.cellsOf e)) (P.cellsOf e) = some vs := by
          intro i hi
          have := Classical.choose_spec (each i hi)
          simpa only [ys, dif_pos hi] using this
        by_cases h0 : len = 0
        · subst h0
          exact ⟨[.sl (P.cellsOf e) [] false], by simp only [Dat, hu]; exact ⟨[], rfl, by simp⟩, ⟨.sl0 _ _ _ _ (fun e => by simp at e) hmax trivial, trivial⟩⟩
        have hpos : 0 < P.cellsOf e := hd.1.2
        -- the address is plain, the block is there
        obtain ⟨b, o, spot⟩ := a
        obtain ⟨vs0, _, _, hc0⟩ := hys 0 (by omega)
        have hc0' := World.cells?_some hc0
        have hz : w.cell? ((Addr.add ⟨b, o, spot⟩ (0 * P.cellsOf e)).add 0) = vs0[0]? := hc0'.2.2 0 hpos
        have hv0 : vs0[0]? = some vs0[0] := List.getElem?_eq_getElem (by omega)
        rw [hv0] at hz
        have hspot : spot = none := by
          have := World.cell?_spot hz
          simpa [Addr.add] using this
        subst hspot
        have hblt : b < w.heap.size := by
          have := World.cells?_block hc0 hpos
          simpa [Addr.add] using this
        have hmap : ∀ i, i < len → ((List.range len).map ys)[i]? = some (ys i) := fun i hi => by simp [hi]
        refine ⟨[.sl (P.cellsOf e) ((List.range len).map ys) false], ?_, ⟨?_, trivial⟩⟩
        · simp only [Dat, hu]
          refine ⟨_, rfl, fun y hy => ?_⟩
          simp only [List.mem_map, List.mem_range] at hy
          obtain ⟨i, hi, rfl⟩ := hy
          obtain ⟨vs, h1, _⟩ := hys i hi
          exact h1
        · have hlen : len = ((List.range len).map ys).length := by simp
          have cells : ∀ i j x, at2 ((List.range len).map ys) i j = some x → ∃ v, w.cell? ⟨b, o + i * P.cellsOf e + j, none⟩ = some v ∧ v.oneCell' = true ∧ Rep E h w x v := by
            intro i j x hx
            have hi : i < len := by have := at2_lt hx; simpa using this
            obtain ⟨y, hy, hj⟩ := at2_some hx
            rw [hmap i hi] at hy
            obtain rfl := Option.some.inj hy
            obtain ⟨vs, h1, h2, h3⟩ := hys i hi
            have hone := dat_one hT n e _ hd.2 h1
            have hjl : j < (ys i).length := (List.getElem?_eq_some_iff.1 hj).1
            have h4 := World.cells?_some h3
            have hjv : j < vs.length := by rw [h2.length] at hjl; exact hjl
            have hv : vs[j]? = some vs[j] := List.getElem?_eq_getElem hjv
            refine ⟨vs[j], ?_, cell_one_of_flat h2 hone.2 j _ hv, h2.get j x _ hj hv⟩
            have h5 := h4.2.2 j (by omega)
            rw [hv] at h5
            rw [← h5]
            rw [addr_add, addr_add]
          have cellsC : ∀ i j, ∃ v, ∀ x, at2 ((List.range len).map ys) i j = some x → w.cell? ⟨b, o + i * P.cellsOf e + j, none⟩ = some v ∧ v.oneCell' = true ∧ Rep E h w x v := by
            intro i j
            match hx : at2 ((List.range len).map ys) i j with
            | none => exact ⟨.bool true, fun x h => by simp at h⟩
            | some x =>
              obtain ⟨v, h1⟩ := cells i j x hx
              exact ⟨v, fun y hy => by obtain rfl := Option.some.inj hy; exact h1⟩
          let cv : Nat → Nat → Value := fun i j => Classical.choose (cellsC i j)
          have hcv : ∀ i j x, at2 ((List.range len).map ys) i j = some x → w.cell? ⟨b, o + i * P.cellsOf e + j, none⟩ = some (cv i j) ∧ (cv i j).oneCell' = true ∧ Rep E h w x (cv i j) := fun i j => Classical.choose_spec (cellsC i j)
          have := Rep.sl (E := E) (h := h) (w := w) (P.cellsOf e) ((List.range len).map ys) false b o cap cv (hI b hblt) (by simpa using hlc) hmax (fun e => by simp at e)
            (fun y hy => by
              simp only [List.mem_map, List.mem_range] at hy
              obtain ⟨i, hi, rfl⟩ := hy
              obtain ⟨vs, h1, _⟩ := hys i hi
              exact (dat_one hT n e _ hd.2 h1).1)
            (fun i j x hx => (hcv i j x hx).1) (fun i j x hx => (hcv i j x hx).2.1) (fun i j x hx => (hcv i j x hx).2.2)
          rw [← hlen] at this
          exact this
    | some (.struct fs) =>
      rw [hu] at hd
      simp only [Bool.and_eq_true, beq_iff_eq, List.all_eq_true] at hd
      obtain ⟨xs, m, hm, rfl, hl, hfl, hf⟩ := DataW.trod_struct hu hx
      obtain rfl : n = m := by omega
      -- field by field
      have key : ∀ (l : List Field) (o : Nat), (∀ f ∈ l, T.contains f.type = true ∧ ∃ y, DataW.trod enc P w base sp held n f.type ((cs.drop f.offset).take (P.cellsOf f.type)) = some y) → tilesB P l o = some (P.cellsOf t) →
          ∃ ys, RepL E h w ys (cs.drop o) ∧ ∀ f ∈ l, o ≤ f.offset ∧ Dat P n f.type ((ys.drop (f.offset - o)).take (P.cellsOf f.type)) := by
        intro l
        induction l with
        | nil =>
          intro o _ ho
          simp only [tilesB, Option.some.injEq] at ho
          rw [List.drop_eq_nil_of_le (by omega)]
          exact ⟨[], trivial, fun f hf => by simp at hf⟩
        | cons f l ih =>
          intro o hl' ho
          simp only [tilesB] at ho
          split at ho
          · rename_i e
            obtain ⟨hc, y, hy⟩ := hl' f List.mem_cons_self
            obtain ⟨zs, hz1, hz2⟩ := open_dat hT hI n f.type _ y (by simpa using hc) hy
            obtain ⟨ys, hy1, hy2⟩ := ih _ (fun g hg => hl' g (List.mem_cons_of_mem _ hg)) ho
            have hzl := (dat_one hT n _ _ (by simpa using hc) hz1).1
            rw [e] at hz2
            have hjoin : RepL E h w (zs ++ ys) (cs.drop o) := by
              have := RepL.append hz2 hy1
              rw [← List.take_append_drop (P.cellsOf f.type) (cs.drop o), List.drop_drop]
              exact this
            refine ⟨zs ++ ys, hjoin, fun g hg => ?_⟩
            rcases List.mem_cons.1 hg with rfl | hg
            · refine ⟨by omega, ?_⟩
              rw [e, Nat.sub_self, List.drop_zero, List.take_append_of_le_length (by omega), List.take_of_length_le (by omega)]
              exact hz1
            · obtain ⟨h1, h2⟩ := hy2 g hg
              refine ⟨by omega, ?_⟩
              rw [List.drop_append, hzl, List.drop_eq_nil_of_le (by omega), List.nil_append, show g.offset - o - P.cellsOf f.type = g.offset - (o + P.cellsOf f.type) by omega]
              exact h2
          · cases ho
      obtain ⟨ys, h1, h2⟩ := key fs.toList 0 (fun f hf' => by
        obtain ⟨i, hi⟩ := List.getElem?_of_mem hf'
        have hi' : fs[i]? = some f := by simpa using hi
        refine ⟨hd.2 f hf', ?_⟩
        have := hf i f hi'
        have hil : i < xs.length := by rw [hfl]; exact (Array.getElem?_eq_some_iff.1 hi').1
        rw [List.getElem?_eq_getElem hil] at this
        exact ⟨_, this⟩) hd.1
      rw [List.drop_zero] at h1
      refine ⟨ys, ?_, h1⟩
      simp only [Dat, hu]
      refine ⟨h1.length.trans hl, fun i f hf' => ?_⟩
      have := h2 f (by have := Array.mem_of_getElem? hf'; simpa using this)
      simpa using this.2
    | none | some .invalid | some (.float _) | some (.complex _) | some .unsafePointer | some (.named ..) | some (.pointer _) | some (.array ..) | some (.map ..) | some (.func ..) | some (.interface _) | some (.chan ..) | some (.tuple _) => all_goals (rw [hu] at hd; simp at hd)
end
end Go.Hl

/-
  From a contract 'the law returns true at all data' to the row.
-/
namespace Go.Hl
open Go.ChangeShapes Go.WideShapes
set_option linter.unusedVariables false
set_option linter.unusedSimpArgs false

/-- An argument that reads as data of a type. -/
def ArgD (P : Program) (n : Nat) (t : TypeId) (x : HVal) : Prop :=
  match P.underlying t with
  | some (.struct _) => ∃ ys, x = .agg ys ∧ Dat P n t ys
  | _ => Dat P n t [x]

def ArgsD (P : Program) : List TypeId → List HVal → Prop
  | [], [] => True
  | t :: ts, x :: xs => (∃ n, ArgD P n t x) ∧ ArgsD P ts xs
  | _, _ => False

section
variable {H : Type} {enc : TypeId × Value → H} {P : Program} {w : World} {base : Nat} {sp : Nat → Bool} {held : Bool}

theorem open_arg {T : List TypeId} (hT : datB P T = true) {E : Env} {h : Heap} (hI : ∀ b, b < w.heap.size → Imm E h w b) {t : TypeId} (ht : t ∈ T) {v : Value} {d : DataW H} {ps : List MemPlace}
    (hok : Value.okWide P w .any base t v) (hr : DataW.Trod enc P w 0 sp held t v d ps) : ∃ x n, ArgD P n t x ∧ Rep E h w x v := by
  obtain ⟨n, hr⟩ := hr
  obtain ⟨xs, h1, h2⟩ := open_dat hT hI n t _ _ ht hr
  have hd := List.all_eq_true.1 hT t ht
  match hu : P.underlying t with
  | some (.struct fs) =>
    obtain ⟨cs, rfl, _⟩ := okWide_struct hu hok
    exact ⟨.agg xs, n, by simp only [ArgD, hu]; exact ⟨xs, rfl, h1⟩, .agg xs cs.toList h2.length h2.get⟩
  | some .bool =>
    obtain ⟨b, rfl⟩ := okWide_bool hu hok
    have hone := dat_one hT n t xs ht h1
    match xs, h2 with
    | [x], h2 => exact ⟨x, n, by simp only [ArgD, hu]; exact h1, by simpa [Value.cells] using h2.1⟩
    | [], h2 => exact h2.elim
    | _ :: _ :: _, h2 => exact h2.2.elim
  | some (.int k) =>
    obtain ⟨b, rfl⟩ := okWide_int hu hok
    match xs, h2 with
    | [x], h2 => exact ⟨x, n, by simp only [ArgD, hu]; exact h1, by simpa [Value.cells] using h2.1⟩
    | [], h2 => exact h2.elim
    | _ :: _ :: _, h2 => exact h2.2.elim
  | some .string =>
    obtain ⟨b, rfl⟩ := okWide_string hu hok
    match xs, h2 with
    | [x], h2 => exact ⟨x, n, by simp only [ArgD, hu]; exact h1, by simpa [Value.cells] using h2.1⟩
    | [], h2 => exact h2.elim
    | _ :: _ :: _, h2 => exact h2.2.elim
  | some (.slice e) =>
    obtain ⟨a, len, cap, rfl⟩ := okWide_slice hu hok
    match xs, h2 with
    | [x], h2 => exact ⟨x, n, by simp only [ArgD, hu]; exact h1, by simpa [Value.cells] using h2.1⟩
    | [], h2 => exact h2.elim
    | _ :: _ :: _, h2 => exact h2.2.elim
  | none | some .invalid | some (.float _) | some (.complex _) | some .unsafePointer | some (.named ..) | some (.pointer _) | some (.array ..) | some (.map ..) | some (.func ..) | some (.interface _) | some (.chan ..) | some (.tuple _) => all_goals (rw [hu] at hd; simp at hd)

theorem open_args {T : List TypeId} (hT : datB P T = true) {E : Env} {h : Heap} (hI : ∀ b, b < w.heap.size → Imm E h w b) : ∀ {ts : List TypeId} {vs : List Value} {ds : List (DataW H)} {ps : List MemPlace},
    (∀ t ∈ ts, t ∈ T) → (∀ (j : Nat) t v, ts[j]? = some t → vs[j]? = some v → Value.okWide P w .any base t v) → DataW.TrodAll enc P w 0 sp held ts vs ds ps → ∃ xs, ArgsD P ts xs ∧ RepL E h w xs vs ∧ ds.length = ts.length
  | [], [], [], _, _, _, _ => ⟨[], trivial, trivial, rfl⟩
  | t :: ts, v :: vs, d :: ds, _, ht, hok, ⟨p, q, h1, h2, _⟩ => by
    obtain ⟨x, n, h3, h4⟩ := open_arg hT hI (ht t List.mem_cons_self) (hok 0 t v rfl rfl) h1
    obtain ⟨xs, h5, h6, h7⟩ := open_args hT hI (fun t' h' => ht t' (List.mem_cons_of_mem _ h')) (fun j t' v' a b => hok (j + 1) t' v' (by simpa using a) (by simpa using b)) h2
    exact ⟨x :: xs, ⟨⟨n, h3⟩, h5⟩, ⟨h4, h6⟩, by simp [h7]⟩
  | [], _ :: _, _, _, _, _, h => by cases ‹List (DataW H)› <;> exact h.elim
  | [], [], _ :: _, _, _, _, h => h.elim
  | _ :: _, [], _, _, _, _, h => by cases ‹List (DataW H)› <;> exact h.elim
  | _ :: _, _ :: _, [], _, _, _, h => h.elim
end

theorem trodAll_carry {H : Type} {enc : TypeId × Value → H} {P : Program} {w w' : World} {base : Nat} {sp : Nat → Bool} {held : Bool} : ∀ {ts : List TypeId} {vs : List Value} {ds : List (DataW H)} {ps : List MemPlace},
    DataW.TrodAll enc P w base sp held ts vs ds ps → (∀ p ∈ ps, w.sameAt w' p) → DataW.TrodAll enc P w' base sp held ts vs ds ps
  | [], [], [], _, h, _ => h
  | _ :: _, _ :: _, _ :: _, _, ⟨p, q, ⟨n, h1⟩, h2, e⟩, hs => ⟨p, q, ⟨n, DataW.trod_carry n _ _ _ h1 (fun x hx => hs x (by rw [e]; exact List.mem_append_left _ hx))⟩, trodAll_carry h2 (fun x hx => hs x (by rw [e]; exact List.mem_append_right _ hx)), e⟩
  | [], _ :: _, _, _, h, _ => by cases ‹List (DataW H)› <;> exact h.elim
  | [], [], _ :: _, _, h, _ => h.elim
  | _ :: _, [], _, _, h, _ => by cases ‹List (DataW H)› <;> exact h.elim
  | _ :: _, _ :: _, [], _, h, _ => h.elim

theorem sameAt_of_heap {w w' : World} {p : MemPlace} (h : w'.heap[p.block]? = w.heap[p.block]?) : w.sameAt w' p := by
  cases p with
  | cell b o => exact cell?_of_heap h o none
  | map b => exact h

theorem law_post {H : Type} {enc : TypeId × Value → H} {P : Program} (lo : laidOutB P = true) (mr : mapsRowed P = true)
    (hz : ((List.range P.types.size).all fun t => match P.underlying t with | some (.slice e) => decide (0 < P.cellsOf e) | _ => true) = true)
    {fn : Func} (hT : fn.params.all (fun t => decide (t < P.types.size)) = true) {s : ChangeSpec} (hsv : s.vars = []) (hs : ∀ ds : List (DataW H), ds.length = fn.params.size → s.fn H ds = { results := [.lit (.bool true)], args := ds })
    {tb : TypeId} (hr : fn.resultTypes = #[tb]) (htb : P.underlying tb = some .bool) {W W' : World} {args : Array Value} {ds gs : List (DataW H)} {before : List MemPlace}
    (hW : DataW.Whole enc P fn.params.toList s.vars false W args.toList ds gs before) (hl : ds.length = fn.params.size)
    (hheap : ∀ b, b < W.heap.size → W'.heap[b]? = W.heap[b]?) (hos : W'.os = W.os) (hout : W'.output = W.output) :
    s.post enc P fn false true false false W args (.bool true) W' := by
  have hlt := hW.lt
  have hW0 := hW
  obtain ⟨p, q, hA, hV, rfl, hfz, _⟩ := hW
  rw [hsv] at hV
  have hgs : gs = [] ∧ q = [] := by
    match gs, hV with
    | [], h => exact ⟨rfl, h⟩
  obtain ⟨rfl, rfl⟩ := hgs
  rw [List.append_nil] at hlt hfz hW0
  have e : s.fn H (ds ++ []) = { results := [.lit (.bool true)], args := ds } := by rw [List.append_nil]; exact hs ds hl
  refine ⟨ds, [], p, [], p, [], hW0, ?_, ?_, ?_, ?_, fun h => by simp at h⟩
  · rw [e]
    simp only [hr]
    refine ⟨[], [], ⟨1, ?_⟩, rfl, rfl⟩
    simp [DataW.trod, htb, Value.cells]
  · rw [e]
    have h1 : DataW.TrodAll enc P W' 0 (fun _ => true) true fn.params.toList args.toList ds p := trodAll_carry hA fun x hx => sameAt_of_heap (hheap _ (hlt x hx))
    refine DataW.TrodAll.respare (kids_rows lo mr) (fun t e ht hu => slices_full_of P hz t e ht hu) (fun t ht => ?_) h1 (fun x hx => by simpa using hlt x hx)
    have := Array.all_eq_true_iff_forall_mem.1 hT t (by simpa using ht)
    simpa using this
  · rw [e, hsv]; exact rfl
  · refine ⟨hos, hout, fun i hi => ?_⟩
    rw [hheap i hi]
    have hi' : W.heap[i]? = some W.heap[i] := Array.getElem?_eq_getElem hi
    rw [hi']
    cases W.heap[i] with
    | cells c t fr => exact ⟨rfl, rfl, rfl, fun _ _ => rfl⟩
    | map es clock => exact .inr ⟨rfl, rfl⟩
    | _ => rfl

/-- The empty heap: no row has a name. -/
def noRows : Heap := fun _ => none
def noEnv : Env where
  loc := fun _ => none
  fp := fun _ _ => False
  used := fun _ => False

theorem rel_none (w : World) (hl : LaidIn noEnv noRows w) : Rel noEnv noRows w where
  fin := ⟨0, fun n _ h => h⟩
  dom := fun n h => absurd rfl h
  lt := fun n o b h => by simp [noRows] at h
  apart := fun n o m o' b h => by simp [noRows] at h
  obj := fun n o h => by simp [noRows] at h
  laid := hl
theorem imm_none {w : World} {b : Nat} (hb : b < w.heap.size) : Imm noEnv noRows w b := ⟨hb, fun n o h => by simp [noRows] at h⟩

theorem law_returns {H : Type} {enc : TypeId × Value → H} {C : Checked} {os : Os} {f : FuncId} {fn : Func} {s : ChangeSpec}
    (own : ownKnob C.prog.godebug = none) (started : os.Started) (noInit : C.prog.inits.idxOf? f = none) (hfn : C.prog.funcs[f]? = some fn)
    (witness : ∃ (w : World) (tape : Tape) (i : Input), w.os = os ∧ (w.forCall tape i).Shaped C.prog ∧ i.vars = [] ∧ Input.okWide C.prog (w.forCall tape i) .any w.heap.size f i ∧
      s.pre6 enc C.prog fn [] false (w.forCall tape i).memory i.args ∧ ({} : Assume).holds C.prog (lone (Frame.enter C.prog f i.args .normal) [] (w.forCall tape i)))
    (lo : laidOutB C.prog = true) (mr : mapsRowed C.prog = true)
    (hz : ((List.range C.prog.types.size).all fun t => match C.prog.underlying t with | some (.slice e) => decide (0 < C.prog.cellsOf e) | _ => true) = true)
    (T : List TypeId) (hT : datB C.prog T = true) (hp : fn.params.all (fun t => decide (t < C.prog.types.size) && T.contains t) = true)
    (hsv : s.vars = []) (hs : ∀ ds : List (DataW H), ds.length = fn.params.size → s.fn H ds = { results := [.lit (.bool true)], args := ds })
    {tb : TypeId} (hr : fn.resultTypes = #[tb]) (htb : C.prog.underlying tb = some .bool)
    (hc : ∀ xs, ArgsD C.prog fn.params.toList xs → Fn0 C.prog f xs (.bool true)) (hl0 : laidBlocks = [] := by rfl) :
    ReturnsInHanded {} C os f .any (s.pre6 enc C.prog fn [] false) (s.post enc C.prog fn false true false false) := by
  refine returnsInHanded_of_change own started noInit hfn witness ?_
  intro W base args ds gs before hval hW _ _
  have hW0 := hW
  obtain ⟨p, q, hA, hV, _, _, _⟩ := hW
  have hp' := Array.all_eq_true_iff_forall_mem.1 hp
  simp only [Bool.and_eq_true, decide_eq_true_eq] at hp'
  have hbase : ∀ (j : Nat) t v, fn.params.toList[j]? = some t → args.toList[j]? = some v → Value.okWide C.prog W .any base t v := fun j t v h1 h2 => hval j t v (by simpa using h1) (by simpa using h2)
  obtain ⟨xs, h1, h2, h3⟩ := open_args hT (E := noEnv) (h := noRows) (fun b hb => imm_none hb) (fun t ht => by have := (hp' t (by simpa using ht)).2; simpa using this) hbase hA
  refine Calls.mono (by simpa using (hc xs h1 noRows).2 noEnv W args.toList (rel_none W fun p hp => by rw [hl0] at hp; cases hp) h2) fun e W' he => ?_
  cases e with
  | returned v =>
    obtain ⟨r, h', E', ⟨rfl, rfl⟩, ev, _, rep⟩ := he
    cases rep
    exact ⟨_, rfl, law_post lo mr hz (by rw [Array.all_eq_true_iff_forall_mem]; intro t ht; simpa using (hp' t ht).1) hsv hs hr htb hW0 (by simpa using h3) (fun b hb => (ev.keep b (imm_none hb)).1) ev.os ev.out⟩
  | _ => exact he.elim
end Go.Hl

/-
  Contracts that lean on named rows.
-/
namespace Go.Hl
set_option linter.unusedVariables false
set_option linter.unusedSimpArgs false
/-- A function that hands back one value and leaves the named rows as they are, where at least the rows of h0 are there. -/
def FnAt (P : Program) (f : FuncId) (args : List HVal) (r : HVal) (h0 : Heap) : Prop := ∀ h : Heap, h0.le h → HFn P f args h fun r' h' => r' = r ∧ h' = h
theorem Fn0.toAt {P : Program} {f : FuncId} {args : List HVal} {r : HVal} {h0 : Heap} (a : Fn0 P f args r) : FnAt P f args r h0 := fun h _ => a h
theorem FnAt.mono {P : Program} {f : FuncId} {args : List HVal} {r : HVal} {h0 h1 : Heap} (hl : h0.le h1) (a : FnAt P f args r h0) : FnAt P f args r h1 := fun h q => a h (Heap.le_trans hl q)
theorem HFnF.mkAt {P : Program} {g : FuncId} {args : List HVal} {h : Heap} {K : HVal → Heap → Prop} {t : Tag K} {r : HVal} (a : FnAt P g args r h) (k : K r h) : HFnF P g args h K t :=
  HFn.mono (a h (Heap.le_refl h)) fun _ _ ⟨e, e'⟩ => e ▸ e' ▸ k
theorem HFnF.mkH {P : Program} {g : FuncId} {args : List HVal} {h : Heap} {K K' : HVal → Heap → Prop} {t : Tag K} (a : HFn P g args h K') (k : ∀ r h', K' r h' → K r h') : HFnF P g args h K t := HFn.mono a k
theorem fnHF {P : Program} {f : FuncId} {fn : Func} {c : Code} (N : Nat) (keep ib : List Nat) (mk : Marks) {args : List HVal} {h : Heap} {K : HVal → Heap → Prop} (hmix : P.follows .mixedOrders = true) (hf : P.funcs[f]? = some fn) (hb : fn.body = some c)
    (hck : (callable P f && decide (fn.ntmps = N) && codeOK N mk c) = true) (hl : args.length ≤ N)
    (hw : hwpF P N keep ib mk c (fun τ h' => postF P fn.results (fun r h' => ∃ g : Heap, g.le h' ∧ K r g) () .normal τ h') (postF P fn.results (fun r h' => ∃ g : Heap, g.le h' ∧ K r g) ()) (argsT 0 args) h ()) : HFn P f args h K :=
  fn_hwp N keep ib mk hmix hf hb hck hl (K' := fun r h' => ∃ g : Heap, g.le h' ∧ K r g) hw fun _ _ hx => hx
theorem fnAtF {P : Program} {f : FuncId} {fn : Func} {c : Code} (N : Nat) (keep ib : List Nat) (mk : Marks) {args : List HVal} {r : HVal} {h0 : Heap} (hmix : P.follows .mixedOrders = true) (hf : P.funcs[f]? = some fn) (hb : fn.body = some c)
    (hck : (callable P f && decide (fn.ntmps = N) && codeOK N mk c) = true) (hl : args.length ≤ N)
    (hw : ∀ h : Heap, h0.le h → hwpF P N keep ib mk c (fun τ h' => postF P fn.results (fun r' h' => r' = r ∧ h.le h') () .normal τ h') (postF P fn.results (fun r' h' => r' = r ∧ h.le h') ()) (argsT 0 args) h ()) : FnAt P f args r h0 :=
  fun h hle => fn_hwp N keep ib mk hmix hf hb hck hl (K' := fun r' h' => r' = r ∧ h.le h') (hw h hle) fun _ _ hx => ⟨h, hx.2, hx.1, rfl⟩
theorem fnHA {P : Program} {f : FuncId} {fn : Func} {c : Code} (N : Nat) (keep ib : List Nat) (mk : Marks) {args : List HVal} {h : Heap} {K : HVal → Heap → Prop} (hf : P.funcs[f]? = some fn) (hw : hwpF P N keep ib mk c (fun τ h' => postF P fn.results (fun r h' => ∃ g : Heap, g.le h' ∧ K r g) () .normal τ h') (postF P fn.results (fun r h' => ∃ g : Heap, g.le h' ∧ K r g) ()) (argsT 0 args) h ()) (hmix : P.follows .mixedOrders = true := by exact mix) (hb : fn.body = some c := by rfl) (hck : (callable P f && decide (fn.ntmps = N) && codeOK N mk c) = true := by kernel_rfl) (hl : args.length ≤ N := by simp) : HFn P f args h K :=
  fnHF N keep ib mk hmix hf hb hck hl hw
theorem fnAtA {P : Program} {f : FuncId} {fn : Func} {c : Code} (N : Nat) (keep ib : List Nat) (mk : Marks) {args : List HVal} {r : HVal} {h0 : Heap} (hf : P.funcs[f]? = some fn) (hw : ∀ h : Heap, h0.le h → hwpF P N keep ib mk c (fun τ h' => postF P fn.results (fun r' h' => r' = r ∧ h.le h') () .normal τ h') (postF P fn.results (fun r' h' => r' = r ∧ h.le h') ()) (argsT 0 args) h ()) (hmix : P.follows .mixedOrders = true := by exact mix) (hb : fn.body = some c := by rfl) (hck : (callable P f && decide (fn.ntmps = N) && codeOK N mk c) = true := by kernel_rfl) (hl : args.length ≤ N := by simp) : FnAt P f args r h0 :=
  fnAtF N keep ib mk hmix hf hb hck hl hw
end Go.Hl

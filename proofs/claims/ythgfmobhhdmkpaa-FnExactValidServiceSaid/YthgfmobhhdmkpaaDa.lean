/-
  Contracts of functions and laws of the layer over the walk.
-/
import Derived.Test.YthgfmobhhdmkpaaHlC
import Derived.Test.YthgfmobhhdmkpaaProg
import Derived.KernelRfl
namespace Go.Hl
open Go.Proofs
set_option linter.unusedVariables false
set_option linter.unusedSimpArgs false
@[go_sem] theorem ty2 : tyR Try.prog 2 = some ⟨1, false, 8, [.int .i64 0], .int .i64⟩ := by kernel_rfl
@[go_sem] theorem ty3 : tyR Try.prog 3 = some ⟨1, false, 8, [.int .i64 0], .int .i64⟩ := by kernel_rfl
@[go_sem] theorem ty4 : tyR Try.prog 4 = some ⟨1, false, 1, [.bool false], .bool⟩ := by kernel_rfl
@[go_sem] theorem ty5 : tyR Try.prog 5 = some ⟨1, false, 1, [.int .u8 0], .int .u8⟩ := by kernel_rfl
@[go_sem] theorem ty9 : tyR Try.prog 9 = some ⟨1, false, 16, [.str []], .str⟩ := by kernel_rfl
@[go_sem] theorem ty22 : tyR Try.prog 22 = some ⟨1, false, 24, [.nilsl], .slice 114⟩ := by kernel_rfl
@[go_sem] theorem ty24 : tyR Try.prog 24 = some ⟨1, true, 24, [.nilsl], .st [(0, 22, 1)]⟩ := by kernel_rfl
@[go_sem] theorem ty25 : tyR Try.prog 25 = some ⟨1, false, 24, [.nilsl], .slice 2⟩ := by kernel_rfl
@[go_sem] theorem ty26 : tyR Try.prog 26 = some ⟨1, false, 24, [.nilsl], .slice 25⟩ := by kernel_rfl
@[go_sem] theorem ty28 : tyR Try.prog 28 = some ⟨5, true, 88, [.nilsl, .int .i64 0, .int .i64 0, .nilsl, .nilsl], .st [(0, 24, 1), (1, 2, 1), (2, 2, 1), (3, 25, 1), (4, 26, 1)]⟩ := by kernel_rfl
@[go_sem] theorem ty29 : tyR Try.prog 29 = some ⟨1, false, 24, [.nilsl], .slice 4⟩ := by kernel_rfl
@[go_sem] theorem ty30 : tyR Try.prog 30 = some ⟨1, false, 24, [.nilsl], .slice 87⟩ := by kernel_rfl
@[go_sem] theorem ty32 : tyR Try.prog 32 = some ⟨9, true, 184, [.nilsl, .int .i64 0, .int .i64 0, .nilsl, .nilsl, .nilsl, .nilsl, .nilsl, .nilsl], .st [(0, 28, 5), (5, 25, 1), (6, 29, 1), (7, 30, 1), (8, 25, 1)]⟩ := by kernel_rfl
@[go_sem] theorem ty35 : tyR Try.prog 35 = some ⟨1, false, 24, [.nilsl], .slice 94⟩ := by kernel_rfl
@[go_sem] theorem ty37 : tyR Try.prog 37 = some ⟨1, true, 24, [.nilsl], .st [(0, 35, 1)]⟩ := by kernel_rfl
@[go_sem] theorem ty39 : tyR Try.prog 39 = some ⟨5, true, 88, [.nilsl, .int .i64 0, .int .i64 0, .nilsl, .nilsl], .st [(0, 37, 1), (1, 2, 1), (2, 2, 1), (3, 25, 1), (4, 26, 1)]⟩ := by kernel_rfl
@[go_sem] theorem ty40 : tyR Try.prog 40 = some ⟨1, false, 24, [.nilsl], .slice 69⟩ := by kernel_rfl
@[go_sem] theorem ty42 : tyR Try.prog 42 = some ⟨9, true, 184, [.nilsl, .int .i64 0, .int .i64 0, .nilsl, .nilsl, .nilsl, .nilsl, .nilsl, .nilsl], .st [(0, 39, 5), (5, 25, 1), (6, 29, 1), (7, 40, 1), (8, 25, 1)]⟩ := by kernel_rfl
@[go_sem] theorem ty69 : tyR Try.prog 69 = some ⟨3, true, 40, [.int .i64 0, .int .i64 0, .nilsl], .st [(0, 2, 1), (1, 2, 1), (2, 25, 1)]⟩ := by kernel_rfl
@[go_sem] theorem ty87 : tyR Try.prog 87 = some ⟨3, true, 40, [.int .i64 0, .int .i64 0, .nilsl], .st [(0, 2, 1), (1, 2, 1), (2, 25, 1)]⟩ := by kernel_rfl
@[go_sem] theorem ty92 : tyR Try.prog 92 = some ⟨1, false, 24, [.nilsl], .slice 126⟩ := by kernel_rfl
@[go_sem] theorem ty94 : tyR Try.prog 94 = some ⟨3, true, 48, [.str [], .int .i64 0, .nilsl], .st [(0, 9, 1), (1, 2, 1), (2, 92, 1)]⟩ := by kernel_rfl
@[go_sem] theorem ty112 : tyR Try.prog 112 = some ⟨1, false, 24, [.nilsl], .slice 146⟩ := by kernel_rfl
@[go_sem] theorem ty114 : tyR Try.prog 114 = some ⟨3, true, 48, [.str [], .int .i64 0, .nilsl], .st [(0, 9, 1), (1, 2, 1), (2, 112, 1)]⟩ := by kernel_rfl
@[go_sem] theorem ty126 : tyR Try.prog 126 = some ⟨5, true, 56, [.int .i64 0, .int .i64 0, .int .i64 0, .int .i64 0, .nilsl], .st [(0, 2, 1), (1, 2, 1), (2, 2, 1), (3, 2, 1), (4, 92, 1)]⟩ := by kernel_rfl
@[go_sem] theorem ty139 : tyR Try.prog 139 = some ⟨1, false, 24, [.nilsl], .slice 5⟩ := by kernel_rfl
@[go_sem] theorem ty142 : tyR Try.prog 142 = some ⟨2, true, 32, [.nilsl, .int .i64 0], .st [(0, 37, 1), (1, 2, 1)]⟩ := by kernel_rfl
@[go_sem] theorem ty146 : tyR Try.prog 146 = some ⟨5, true, 56, [.int .i64 0, .int .i64 0, .int .i64 0, .int .i64 0, .nilsl], .st [(0, 2, 1), (1, 2, 1), (2, 2, 1), (3, 2, 1), (4, 112, 1)]⟩ := by kernel_rfl
theorem mix : Try.prog.follows .mixedOrders = true := by kernel_rfl
open Go.Proofs
set_option linter.unusedVariables false
set_option linter.unusedSimpArgs false
abbrev I (n : Int) : HVal := .int .i64 n
abbrev ints (l : List Int) : HVal := .sl 1 (l.map fun n => [I n]) false
abbrev bools (l : List Bool) : HVal := .sl 1 (l.map fun b => [.bool b]) false
abbrev sls {α : Type} (sz : Nat) (c : α → List HVal) (l : List α) : HVal := .sl sz (l.map c) false

def InI (n : Int) : Prop := -9223372036854775808 ≤ n ∧ n ≤ 9223372036854775807
def InB (n : Int) : Prop := 0 ≤ n ∧ n ≤ 255

/-- What is left of a budget; -1 where it does not last. -/
def lft (left : Int) (n : Nat) : Int := if left - n < 0 then -1 else left - n


theorem lft_cases (left : Int) (n : Nat) : (lft left n = -1 ∧ left - n < 0) ∨ (lft left n = left - n ∧ 0 ≤ left - n) := by
  unfold lft; split
  · exact .inl ⟨rfl, by assumption⟩
  · exact .inr ⟨rfl, by omega⟩
theorem lft_neg {left : Int} {n : Nat} (h : left - n < 0) : lft left n = -1 := if_pos h
theorem lft_pos {left : Int} {n : Nat} (h : 0 ≤ left - n) : lft left n = left - n := if_neg (by omega)

theorem lft_step {left L : Int} {n : Nat} (h : lft left n = L) : (L < 0 → left - n < 0) ∧ (¬ L < 0 → L = left - n) := by
  subst h; unfold lft; split <;> constructor <;> intros <;> omega

theorem sum_take_succ {α : Type} (s : α → Nat) (l : List α) (k : Nat) (h : k < l.length) : ((l.take (k + 1)).map s).sum = ((l.take k).map s).sum + s l[k] := by
  rw [List.take_succ_eq_append_getElem h, List.map_append, List.sum_append]; simp only [List.map_cons, List.map_nil, List.sum_cons, List.sum_nil, Nat.add_zero]
theorem sum_take_le {α : Type} (s : α → Nat) : ∀ (l : List α) (k : Nat), ((l.take k).map s).sum ≤ (l.map s).sum
  | [], k => by simp
  | a :: l, 0 => by simp
  | a :: l, k + 1 => by have := sum_take_le s l k; simp only [List.take_succ_cons, List.map_cons, List.sum_cons]; omega
def szs {α : Type} (s : α → Nat) (l : List α) : Nat := l.length + (l.map s).sum
theorem szs_eq {α : Type} (s : α → Nat) (l : List α) : szs s l = l.length + (l.map s).sum := rfl

theorem sum_mem {α : Type} (s : α → Nat) {l : List α} {x : α} (h : x ∈ l) : s x ≤ (l.map s).sum := by
  induction l with
  | nil => simp at h
  | cons a l ih =>
    simp only [List.map_cons, List.sum_cons]
    rcases List.mem_cons.1 h with rfl | h
    · omega
    · have := ih h; omega

/-- A row that is being filled from the left. -/
def fillUp {α : Type} (f : α → List HVal) (z : List HVal) (a : List α) (k : Nat) : List (List Cell) := ((a.take k).map f ++ List.replicate (a.length - k) z).map (List.map .v)
theorem fillUp_zero {α : Type} (f : α → List HVal) (z : List HVal) (a : List α) : fillUp f z a 0 = List.map (List.map .v) (List.replicate a.length z) := by simp [fillUp]
theorem fillUp_all {α : Type} (f : α → List HVal) (z : List HVal) (a : List α) : fillUp f z a a.length = (a.map f).map (List.map .v) := by simp [fillUp]
theorem fillUp_length {α : Type} (f : α → List HVal) (z : List HVal) (a : List α) (k : Nat) (h : k ≤ a.length) : (fillUp f z a k).length = a.length := by simp [fillUp]; omega
theorem fillUp_get {α : Type} (f : α → List HVal) (z : List HVal) (a : List α) (k : Nat) (h : k < a.length) : (fillUp f z a k)[k]? = some (z.map .v) := by
  have : ((a.take k).map f).length = k := by simp; omega
  simp only [fillUp, List.getElem?_map]
  rw [List.getElem?_append_right (by omega), this]
  have h0 : 0 < a.length - k := by omega
  simp [h0]
theorem fillUp_set {α : Type} (f : α → List HVal) (z : List HVal) (a : List α) (k : Nat) (h : k < a.length) (e : List Cell) (he : e = (f a[k]).map .v) : (fillUp f z a k).set k e = fillUp f z a (k + 1) := by
  subst he
  have h1 : ((a.take k).map f).length = k := by simp; omega
  simp only [fillUp]
  rw [← List.map_set, List.set_append_right _ _ (by omega), h1, Nat.sub_self, List.take_succ_eq_append_getElem h, show a.length - k = (a.length - (k + 1)) + 1 by omega, List.replicate_succ, List.set_cons_zero]
  simp only [List.map_append, List.map_cons, List.map_nil, List.append_assoc, List.cons_append, List.nil_append]
theorem le_fill {α : Type} {f : α → List HVal} {z : List HVal} {a : List α} {k : Nat} {h : Heap} {n sz : Nat} {e : List Cell} (hk : k < a.length) (he : e = (f a[k]).map .v) :
    (upd h n (.row sz (fillUp f z a (k + 1)))).le (upd (upd h n (.row sz (fillUp f z a k))) n (.row sz ((fillUp f z a k).set k e))) := by
  rw [fillUp_set f z a k hk e he, upd_upd]
  exact Heap.le_refl _
theorem upd_get (h : Heap) (n m : Nat) (o : HObj) : upd h n o m = if m = n then some o else h m := rfl
theorem getElem_of_eq {α : Type} {a b : List α} (e : a = b) {k : Nat} (ha : k < a.length) {hb : k < b.length} : a[k] = b[k] := by subst e; rfl
theorem take_step {α : Type} {a b : List α} {k : Nat} (ha : k < a.length) (hb : k < b.length) (hp : a.take k = b.take k) (he : a[k] = b[k]) : a.take (k + 1) = b.take (k + 1) := by
  rw [List.take_succ_eq_append_getElem ha, List.take_succ_eq_append_getElem hb, hp, he]
theorem eq_of_take {α : Type} {a b : List α} (hl : a.length = b.length) (h : a.take a.length = b.take a.length) : a = b := by
  rw [List.take_length, hl, List.take_length] at h; exact h
theorem valRows_map (l : List (List HVal)) : valRows (l.map (List.map .v)) = l := by
  induction l with
  | nil => rfl
  | cons e l ih =>
    have : valRow (e.map Cell.v) = e := by
      induction e with
      | nil => rfl
      | cons x e ih => simp only [List.map_cons, valRow, Cell.val, ih]
    simp only [valRows, List.map_cons] at ih ⊢
    rw [ih, this]
/-- A row of this function's own, handed back. -/
theorem shift_row {h h' : Heap} {n sz : Nat} (es : List (List HVal)) (h0 : h n = none) (hl : (upd h n (.row sz (es.map (List.map .v)))).le h') (len : Nat) (e : len = es.length) : Shift (.os n sz 0 len) h' (.sl sz es false) h := by
  subst e
  refine (Shift.of (Sub.refl _) hl).trans ((Shift.sealUp (upd_same _ _ _) (by simp [sealOK])).trans ?_)
  have : HVal.sealUp n (valRows (es.map (List.map .v))) (.os n sz 0 es.length) = .sl sz es false := by simp [HVal.sealUp, valRows_map]
  rw [this]
  exact shift_le ((le_upd h0).2 ((le_upd h0).2 (Heap.le_refl h)))

theorem map_get {α β : Type} {f : α → β} {l : List α} {k : Nat} (h : k < l.length) : (l.map f)[k]? = some (f l[k]) := by
  rw [List.getElem?_map, List.getElem?_eq_getElem h]; rfl
theorem all_step {α : Type} {P : α → Prop} {l : List α} {k : Nat} (h : k < l.length) (hp : ∀ x ∈ l.take k, P x) (he : P l[k]) : ∀ x ∈ l.take (k + 1), P x := by
  rw [List.take_succ_eq_append_getElem h]
  intro x hx
  rcases List.mem_append.1 hx with hx | hx
  · exact hp x hx
  · rw [List.mem_singleton.1 hx]; exact he
/-- The first place where p holds, or -1. -/
def idxOf {α : Type} (p : α → Bool) (l : List α) : Int := match l.findIdx? p with | some i => i | none => -1
theorem idxOf_none {α : Type} {p : α → Bool} {l : List α} (h : ∀ x ∈ l, p x = false) : idxOf p l = -1 := by
  have : l.findIdx? p = none := List.findIdx?_eq_none_iff.2 h
  simp only [idxOf, this]
theorem idxOf_some {α : Type} {p : α → Bool} {l : List α} {k : Nat} (hk : k < l.length) (h : ∀ x ∈ l.take k, p x = false) (he : p l[k] = true) : idxOf p l = k := by
  have : l.findIdx? p = some k := by
    rw [List.findIdx?_eq_some_iff_getElem]
    refine ⟨hk, he, fun j hj => ?_⟩
    have := h l[j] (List.mem_take_iff_getElem.2 ⟨j, by omega, rfl⟩)
    simp [this]
  simp only [idxOf, this]
theorem idxOf_nonneg {α : Type} {p : α → Bool} {l : List α} : decide (0 ≤ idxOf p l) = l.any p := by
  unfold idxOf
  cases h : l.findIdx? p with
  | none =>
    have := List.findIdx?_eq_none_iff.1 h
    simp only
    rw [Bool.eq_false_iff.2 (show l.any p ≠ true from ?_)]
    · simp
    · intro hx
      obtain ⟨x, hx, hp⟩ := List.any_eq_true.1 hx
      rw [this x hx] at hp; cases hp
  | some i =>
    obtain ⟨hi, hp, _⟩ := List.findIdx?_eq_some_iff_getElem.1 h
    have : l.any p = true := List.any_eq_true.2 ⟨_, List.getElem_mem hi, hp⟩
    rw [this]; simp
/-- A number of the field. -/
def Num (n : Int) : Prop := 0 ≤ n ∧ n ≤ 1000002
instance (n : Int) : Decidable (Num n) := inferInstanceAs (Decidable (0 ≤ n ∧ n ≤ 1000002))
def Nums (l : List Int) : Prop := ∀ x ∈ l, Num x
instance (l : List Int) : Decidable (Nums l) := inferInstanceAs (Decidable (∀ x ∈ l, Num x))
theorem any_not {α : Type} {P : α → Prop} [DecidablePred P] {l : List α} [Decidable (∀ x ∈ l, P x)] : (!l.any fun x => !decide (P x)) = decide (∀ x ∈ l, P x) := by
  rw [Bool.eq_iff_iff]
  simp [List.any_eq_false]
inductive DExpr where
  | mk (fKind : Int) (fNum : Int) (fPick : Int) (fCount : Int) (fKids : (List DExpr))
def DExpr.fKind : DExpr → Int
  | .mk fKind fNum fPick fCount fKids => fKind
def DExpr.fNum : DExpr → Int
  | .mk fKind fNum fPick fCount fKids => fNum
def DExpr.fPick : DExpr → Int
  | .mk fKind fNum fPick fCount fKids => fPick
def DExpr.fCount : DExpr → Int
  | .mk fKind fNum fPick fCount fKids => fCount
def DExpr.fKids : DExpr → (List DExpr)
  | .mk fKind fNum fPick fCount fKids => fKids
mutual
def DExpr.c : DExpr → List HVal
  | .mk fKind fNum fPick fCount fKids => [(.int .i64 fKind), (.int .i64 fNum), (.int .i64 fPick), (.int .i64 fCount), .sl 5 (DExpr.cL fKids) false]
def DExpr.cL : List DExpr → List (List HVal)
  | [] => []
  | x :: l => x.c :: DExpr.cL l
end
mutual
def DExpr.s : DExpr → Nat
  | .mk fKind fNum fPick fCount fKids => (fKids.length + DExpr.sL fKids)
def DExpr.sL : List DExpr → Nat
  | [] => 0
  | x :: l => x.s + DExpr.sL l
end
theorem DExpr.cL_map : ∀ l, DExpr.cL l = l.map DExpr.c
  | [] => rfl
  | x :: l => by simp only [DExpr.cL, List.map_cons, DExpr.cL_map l]
theorem DExpr.sL_map : ∀ l, DExpr.sL l = (l.map DExpr.s).sum
  | [] => rfl
  | x :: l => by simp only [DExpr.sL, List.map_cons, List.sum_cons, DExpr.sL_map l]
theorem DExpr.c_eq (x : DExpr) : x.c = [(.int .i64 x.fKind), (.int .i64 x.fNum), (.int .i64 x.fPick), (.int .i64 x.fCount), (sls 5 DExpr.c x.fKids)] := by cases x; simp only [DExpr.c, DExpr.cL_map, sls]; rfl
theorem DExpr.s_eq (x : DExpr) : x.s = (szs DExpr.s x.fKids) := by cases x; simp only [DExpr.s, DExpr.sL_map, szs]; rfl
theorem DExpr.kid_lt {x y : DExpr} (h : y ∈ x.fKids) : SizeOf.sizeOf y < SizeOf.sizeOf x := by
  cases x
  have := List.sizeOf_lt_of_mem h
  simp only [DExpr.fKids] at this
  simp only [DExpr.mk.sizeOf_spec]; omega
@[simp] theorem DExpr.c_len (x : DExpr) : x.c.length = 5 := by rw [DExpr.c_eq]; rfl
inductive DExpr.wf : DExpr → Prop
  | mk (x : DExpr) (h0 : InI x.fKind) (h1 : InI x.fNum) (h2 : InI x.fPick) (h3 : InI x.fCount) (hk : ∀ y ∈ x.fKids, y.wf) : x.wf
theorem DExpr.eq_iff {a b : DExpr} : a = b ↔ a.fKind = b.fKind ∧ a.fNum = b.fNum ∧ a.fPick = b.fPick ∧ a.fCount = b.fCount ∧ a.fKids = b.fKids := by cases a; cases b; simp [DExpr.fKind, DExpr.fNum, DExpr.fPick, DExpr.fCount, DExpr.fKids]
noncomputable instance : DecidableEq DExpr := fun a b => Classical.propDecidable (a = b)

structure DFunc where
  fName : (List UInt8)
  fParams : Int
  fOuts : (List DExpr)
def DFunc.c (x : DFunc) : List HVal := [(.str x.fName), (.int .i64 x.fParams), (sls 5 DExpr.c x.fOuts)]
def DFunc.s (x : DFunc) : Nat := x.fName.length + (szs DExpr.s x.fOuts)
theorem DFunc.c_eq (x : DFunc) : x.c = [(.str x.fName), (.int .i64 x.fParams), (sls 5 DExpr.c x.fOuts)] := rfl
theorem DFunc.s_eq (x : DFunc) : x.s = x.fName.length + (szs DExpr.s x.fOuts) := rfl
@[simp] theorem DFunc.c_len (x : DFunc) : x.c.length = 3 := by rw [DFunc.c_eq]; rfl
def DFunc.wf (x : DFunc) : Prop := InI x.fParams ∧ (∀ y ∈ x.fOuts, y.wf)
theorem DFunc.eq_iff {a b : DFunc} : a = b ↔ a.fName = b.fName ∧ a.fParams = b.fParams ∧ a.fOuts = b.fOuts := by cases a; cases b; simp
noncomputable instance : DecidableEq DFunc := fun a b => Classical.propDecidable (a = b)

structure DProgram where
  fFuncs : (List DFunc)
def DProgram.c (x : DProgram) : List HVal := [(sls 3 DFunc.c x.fFuncs)]
def DProgram.s (x : DProgram) : Nat := (szs DFunc.s x.fFuncs)
theorem DProgram.c_eq (x : DProgram) : x.c = [(sls 3 DFunc.c x.fFuncs)] := rfl
theorem DProgram.s_eq (x : DProgram) : x.s = (szs DFunc.s x.fFuncs) := rfl
@[simp] theorem DProgram.c_len (x : DProgram) : x.c.length = 1 := by rw [DProgram.c_eq]; rfl
def DProgram.wf (x : DProgram) : Prop := (∀ y ∈ x.fFuncs, y.wf)
theorem DProgram.eq_iff {a b : DProgram} : a = b ↔ a.fFuncs = b.fFuncs := by cases a; cases b; simp
noncomputable instance : DecidableEq DProgram := fun a b => Classical.propDecidable (a = b)

structure DJob where
  fProgram : DProgram
  fFunc : Int
  fShared : Int
  fPoint : (List Int)
  fTerms : (List (List Int))
def DJob.c (x : DJob) : List HVal := [(sls 3 DFunc.c x.fProgram.fFuncs), (.int .i64 x.fFunc), (.int .i64 x.fShared), (sls 1 (fun n => [I n]) x.fPoint), (sls 1 (fun x => [sls 1 (fun n => [I n]) x]) x.fTerms)]
def DJob.s (x : DJob) : Nat := (DProgram.s x.fProgram) + x.fPoint.length + (szs (fun x : List Int => x.length) x.fTerms)
theorem DJob.c_eq (x : DJob) : x.c = [(sls 3 DFunc.c x.fProgram.fFuncs), (.int .i64 x.fFunc), (.int .i64 x.fShared), (sls 1 (fun n => [I n]) x.fPoint), (sls 1 (fun x => [sls 1 (fun n => [I n]) x]) x.fTerms)] := rfl
theorem DJob.s_eq (x : DJob) : x.s = (DProgram.s x.fProgram) + x.fPoint.length + (szs (fun x : List Int => x.length) x.fTerms) := rfl
@[simp] theorem DJob.c_len (x : DJob) : x.c.length = 5 := by rw [DJob.c_eq]; rfl
def DJob.wf (x : DJob) : Prop := x.fProgram.wf ∧ InI x.fFunc ∧ InI x.fShared ∧ (∀ y ∈ x.fPoint, InI y) ∧ (∀ y ∈ x.fTerms, (∀ y' ∈ y, InI y'))
theorem DJob.eq_iff {a b : DJob} : a = b ↔ a.fProgram = b.fProgram ∧ a.fFunc = b.fFunc ∧ a.fShared = b.fShared ∧ a.fPoint = b.fPoint ∧ a.fTerms = b.fTerms := by cases a; cases b; simp
noncomputable instance : DecidableEq DJob := fun a b => Classical.propDecidable (a = b)

structure DPart where
  fCode : Int
  fValue : Int
  fGrad : (List Int)
def DPart.c (x : DPart) : List HVal := [(.int .i64 x.fCode), (.int .i64 x.fValue), (sls 1 (fun n => [I n]) x.fGrad)]
def DPart.s (x : DPart) : Nat := x.fGrad.length
theorem DPart.c_eq (x : DPart) : x.c = [(.int .i64 x.fCode), (.int .i64 x.fValue), (sls 1 (fun n => [I n]) x.fGrad)] := rfl
theorem DPart.s_eq (x : DPart) : x.s = x.fGrad.length := rfl
@[simp] theorem DPart.c_len (x : DPart) : x.c.length = 3 := by rw [DPart.c_eq]; rfl
def DPart.wf (x : DPart) : Prop := InI x.fCode ∧ InI x.fValue ∧ (∀ y ∈ x.fGrad, InI y)
theorem DPart.eq_iff {a b : DPart} : a = b ↔ a.fCode = b.fCode ∧ a.fValue = b.fValue ∧ a.fGrad = b.fGrad := by cases a; cases b; simp
noncomputable instance : DecidableEq DPart := fun a b => Classical.propDecidable (a = b)

structure DService where
  fJob : DJob
  fStamps : (List Int)
  fKnown : (List Bool)
  fParts : (List DPart)
  fOwners : (List Int)
def DService.c (x : DService) : List HVal := [(sls 3 DFunc.c x.fJob.fProgram.fFuncs), (.int .i64 x.fJob.fFunc), (.int .i64 x.fJob.fShared), (sls 1 (fun n => [I n]) x.fJob.fPoint), (sls 1 (fun x => [sls 1 (fun n => [I n]) x]) x.fJob.fTerms), (sls 1 (fun n => [I n]) x.fStamps), (sls 1 (fun b => [.bool b]) x.fKnown), (sls 3 DPart.c x.fParts), (sls 1 (fun n => [I n]) x.fOwners)]
def DService.s (x : DService) : Nat := (DJob.s x.fJob) + x.fStamps.length + x.fKnown.length + (szs DPart.s x.fParts) + x.fOwners.length
theorem DService.c_eq (x : DService) : x.c = [(sls 3 DFunc.c x.fJob.fProgram.fFuncs), (.int .i64 x.fJob.fFunc), (.int .i64 x.fJob.fShared), (sls 1 (fun n => [I n]) x.fJob.fPoint), (sls 1 (fun x => [sls 1 (fun n => [I n]) x]) x.fJob.fTerms), (sls 1 (fun n => [I n]) x.fStamps), (sls 1 (fun b => [.bool b]) x.fKnown), (sls 3 DPart.c x.fParts), (sls 1 (fun n => [I n]) x.fOwners)] := rfl
theorem DService.s_eq (x : DService) : x.s = (DJob.s x.fJob) + x.fStamps.length + x.fKnown.length + (szs DPart.s x.fParts) + x.fOwners.length := rfl
@[simp] theorem DService.c_len (x : DService) : x.c.length = 9 := by rw [DService.c_eq]; rfl
def DService.wf (x : DService) : Prop := x.fJob.wf ∧ (∀ y ∈ x.fStamps, InI y) ∧ (∀ y ∈ x.fParts, y.wf) ∧ (∀ y ∈ x.fOwners, InI y)
theorem DService.eq_iff {a b : DService} : a = b ↔ a.fJob = b.fJob ∧ a.fStamps = b.fStamps ∧ a.fKnown = b.fKnown ∧ a.fParts = b.fParts ∧ a.fOwners = b.fOwners := by cases a; cases b; simp
noncomputable instance : DecidableEq DService := fun a b => Classical.propDecidable (a = b)


open Go.Proofs
set_option linter.unusedVariables false
set_option linter.unusedSimpArgs false
theorem dat_i64 {P : Program} {n : Nat} {t : TypeId} {xs : List HVal} (hu : P.underlying t = some (.int .i64)) (h : Dat P n t xs) : ∃ i : Int, xs = [I i] ∧ InI i := by
  match n, h with
  | 0, h => exact h.elim
  | n + 1, h =>
    simp only [Dat, hu] at h
    obtain ⟨i, rfl, hw⟩ := h
    refine ⟨i, rfl, ?_⟩
    have h1 : IntKind.min .i64 = -9223372036854775808 := by decide
    have h2 : IntKind.max .i64 = 9223372036854775807 := by decide
    simp [Lit.wf, IntKind.has, h1, h2] at hw
    unfold InI
    omega
theorem dat_u8 {P : Program} {n : Nat} {t : TypeId} {xs : List HVal} (hu : P.underlying t = some (.int .u8)) (h : Dat P n t xs) : ∃ i : Int, xs = [.int .u8 i] ∧ InB i := by
  match n, h with
  | 0, h => exact h.elim
  | n + 1, h =>
    simp only [Dat, hu] at h
    obtain ⟨i, rfl, hw⟩ := h
    refine ⟨i, rfl, ?_⟩
    have h1 : IntKind.min .u8 = 0 := by decide
    have h2 : IntKind.max .u8 = 255 := by decide
    simp [Lit.wf, IntKind.has, h1, h2] at hw
    unfold InB
    omega
theorem dat_bool {P : Program} {n : Nat} {t : TypeId} {xs : List HVal} (hu : P.underlying t = some .bool) (h : Dat P n t xs) : ∃ b : Bool, xs = [.bool b] ∧ True := by
  match n, h with
  | 0, h => exact h.elim
  | n + 1, h =>
    simp only [Dat, hu] at h
    obtain ⟨b, rfl⟩ := h
    exact ⟨b, rfl, trivial⟩
theorem dat_str {P : Program} {n : Nat} {t : TypeId} {xs : List HVal} (hu : P.underlying t = some .string) (h : Dat P n t xs) : ∃ s : List UInt8, xs = [.str s] ∧ True := by
  match n, h with
  | 0, h => exact h.elim
  | n + 1, h =>
    simp only [Dat, hu] at h
    obtain ⟨b, rfl⟩ := h
    exact ⟨b, rfl, trivial⟩
theorem list_of {α : Type} {c : α → List HVal} {w : α → Prop} : ∀ {es : List (List HVal)}, (∀ y ∈ es, ∃ x, y = c x ∧ w x) → ∃ l : List α, es = l.map c ∧ ∀ x ∈ l, w x
  | [], _ => ⟨[], rfl, by simp⟩
  | e :: es, h => by
    obtain ⟨x, rfl, hx⟩ := h _ List.mem_cons_self
    obtain ⟨l, rfl, hl⟩ := list_of fun y hy => h y (List.mem_cons_of_mem _ hy)
    refine ⟨x :: l, rfl, fun y hy => ?_⟩
    rcases List.mem_cons.1 hy with rfl | hy
    · exact hx
    · exact hl y hy
theorem dat_slice {P : Program} {n sz : Nat} {t e : TypeId} {α : Type} {c : α → List HVal} {w : α → Prop} {xs : List HVal} (hu : P.underlying t = some (.slice e)) (hc : P.cellsOf e = sz) (h : Dat P n t xs)
    (hx : ∀ m y, m < n → Dat P m e y → ∃ x, y = c x ∧ w x) : ∃ l : List α, xs = [sls sz c l] ∧ ∀ x ∈ l, w x := by
  match n, h with
  | 0, h => exact h.elim
  | n + 1, h =>
    simp only [Dat, hu] at h
    obtain ⟨es, rfl, hes⟩ := h
    obtain ⟨l, rfl, hl⟩ := list_of fun y hy => hx n y (by omega) (hes y hy)
    exact ⟨l, by rw [hc], hl⟩
theorem drop_split {α : Type} {xs c r : List α} {o n o' : Nat} (h : (xs.drop o).take n = c) (hr : xs.drop o' = r) (ho : o + n = o') : xs.drop o = c ++ r := by
  rw [← hr, ← ho, ← List.drop_drop, ← h, List.take_append_drop]
theorem cells32 : Try.prog.cellsOf 32 = 9 := by kernel_rfl
theorem cells2 : Try.prog.cellsOf 2 = 1 := by kernel_rfl
theorem cells112 : Try.prog.cellsOf 112 = 1 := by kernel_rfl
theorem cells146 : Try.prog.cellsOf 146 = 5 := by kernel_rfl
theorem cells9 : Try.prog.cellsOf 9 = 1 := by kernel_rfl
theorem cells114 : Try.prog.cellsOf 114 = 3 := by kernel_rfl
theorem cells22 : Try.prog.cellsOf 22 = 1 := by kernel_rfl
theorem cells24 : Try.prog.cellsOf 24 = 1 := by kernel_rfl
theorem cells25 : Try.prog.cellsOf 25 = 1 := by kernel_rfl
theorem cells26 : Try.prog.cellsOf 26 = 1 := by kernel_rfl
theorem cells28 : Try.prog.cellsOf 28 = 5 := by kernel_rfl
theorem cells87 : Try.prog.cellsOf 87 = 3 := by kernel_rfl
theorem cells29 : Try.prog.cellsOf 29 = 1 := by kernel_rfl
theorem cells4 : Try.prog.cellsOf 4 = 1 := by kernel_rfl
theorem cells30 : Try.prog.cellsOf 30 = 1 := by kernel_rfl
set_option maxRecDepth 100000 in
theorem dat_146 : ∀ {n : Nat} {xs : List HVal}, Dat Try.prog n 146 xs → ∃ x : DExpr, xs = x.c ∧ x.wf
  | 0, _, h => h.elim
  | n + 1, xs, h => by
    simp only [Dat, Try.underlying146] at h
    obtain ⟨hl, hf⟩ := h
    rw [cells146] at hl
    have f0 : Dat Try.prog n 2 ((xs.drop 0).take (Try.prog.cellsOf 2)) := hf 0 _ rfl
    rw [cells2] at f0
    obtain ⟨x0, e0, w0⟩ := (dat_i64 Try.underlying2 f0)
    have f1 : Dat Try.prog n 2 ((xs.drop 1).take (Try.prog.cellsOf 2)) := hf 1 _ rfl
    rw [cells2] at f1
    obtain ⟨x1, e1, w1⟩ := (dat_i64 Try.underlying2 f1)
    have f2 : Dat Try.prog n 2 ((xs.drop 2).take (Try.prog.cellsOf 2)) := hf 2 _ rfl
    rw [cells2] at f2
    obtain ⟨x2, e2, w2⟩ := (dat_i64 Try.underlying2 f2)
    have f3 : Dat Try.prog n 2 ((xs.drop 3).take (Try.prog.cellsOf 2)) := hf 3 _ rfl
    rw [cells2] at f3
    obtain ⟨x3, e3, w3⟩ := (dat_i64 Try.underlying2 f3)
    have f4 : Dat Try.prog n 112 ((xs.drop 4).take (Try.prog.cellsOf 112)) := hf 4 _ rfl
    rw [cells112] at f4
    obtain ⟨x4, e4, w4⟩ := (dat_slice (c := DExpr.c) (w := (fun x => x.wf)) Try.underlying112 cells146 f4 (fun m y hm hy => (dat_146 hy)))
    have r5 : xs.drop 5 = [] := List.drop_eq_nil_of_le (by omega)
    have r4 := drop_split e4 r5 rfl
    have r3 := drop_split e3 r4 rfl
    have r2 := drop_split e2 r3 rfl
    have r1 := drop_split e1 r2 rfl
    have r0 := drop_split e0 r1 rfl
    exact ⟨.mk x0 x1 x2 x3 x4, by rw [DExpr.c_eq]; exact r0, .mk _ w0 w1 w2 w3 w4⟩
termination_by n => n
decreasing_by all_goals omega
set_option maxRecDepth 100000 in
theorem dat_114 : ∀ {n : Nat} {xs : List HVal}, Dat Try.prog n 114 xs → ∃ x : DFunc, xs = x.c ∧ x.wf
  | 0, _, h => h.elim
  | n + 1, xs, h => by
    simp only [Dat, Try.underlying114] at h
    obtain ⟨hl, hf⟩ := h
    rw [cells114] at hl
    have f0 : Dat Try.prog n 9 ((xs.drop 0).take (Try.prog.cellsOf 9)) := hf 0 _ rfl
    rw [cells9] at f0
    obtain ⟨x0, e0, w0⟩ := (dat_str Try.underlying9 f0)
    have f1 : Dat Try.prog n 2 ((xs.drop 1).take (Try.prog.cellsOf 2)) := hf 1 _ rfl
    rw [cells2] at f1
    obtain ⟨x1, e1, w1⟩ := (dat_i64 Try.underlying2 f1)
    have f2 : Dat Try.prog n 112 ((xs.drop 2).take (Try.prog.cellsOf 112)) := hf 2 _ rfl
    rw [cells112] at f2
    obtain ⟨x2, e2, w2⟩ := (dat_slice (c := DExpr.c) (w := (fun x => x.wf)) Try.underlying112 cells146 f2 (fun m y hm hy => (dat_146 hy)))
    have r3 : xs.drop 3 = [] := List.drop_eq_nil_of_le (by omega)
    have r2 := drop_split e2 r3 rfl
    have r1 := drop_split e1 r2 rfl
    have r0 := drop_split e0 r1 rfl
    exact ⟨⟨x0, x1, x2⟩, r0, ⟨w1, w2⟩⟩
set_option maxRecDepth 100000 in
theorem dat_24 : ∀ {n : Nat} {xs : List HVal}, Dat Try.prog n 24 xs → ∃ x : DProgram, xs = x.c ∧ x.wf
  | 0, _, h => h.elim
  | n + 1, xs, h => by
    simp only [Dat, Try.underlying24] at h
    obtain ⟨hl, hf⟩ := h
    rw [cells24] at hl
    have f0 : Dat Try.prog n 22 ((xs.drop 0).take (Try.prog.cellsOf 22)) := hf 0 _ rfl
    rw [cells22] at f0
    obtain ⟨x0, e0, w0⟩ := (dat_slice (c := DFunc.c) (w := (fun x => x.wf)) Try.underlying22 cells114 f0 (fun m y hm hy => (dat_114 hy)))
    have r1 : xs.drop 1 = [] := List.drop_eq_nil_of_le (by omega)
    have r0 := drop_split e0 r1 rfl
    exact ⟨⟨x0⟩, r0, w0⟩
set_option maxRecDepth 100000 in
theorem dat_28 : ∀ {n : Nat} {xs : List HVal}, Dat Try.prog n 28 xs → ∃ x : DJob, xs = x.c ∧ x.wf
  | 0, _, h => h.elim
  | n + 1, xs, h => by
    simp only [Dat, Try.underlying28] at h
    obtain ⟨hl, hf⟩ := h
    rw [cells28] at hl
    have f0 : Dat Try.prog n 24 ((xs.drop 0).take (Try.prog.cellsOf 24)) := hf 0 _ rfl
    rw [cells24] at f0
    obtain ⟨x0, e0, w0⟩ := (dat_24 f0)
    have f1 : Dat Try.prog n 2 ((xs.drop 1).take (Try.prog.cellsOf 2)) := hf 1 _ rfl
    rw [cells2] at f1
    obtain ⟨x1, e1, w1⟩ := (dat_i64 Try.underlying2 f1)
    have f2 : Dat Try.prog n 2 ((xs.drop 2).take (Try.prog.cellsOf 2)) := hf 2 _ rfl
    rw [cells2] at f2
    obtain ⟨x2, e2, w2⟩ := (dat_i64 Try.underlying2 f2)
    have f3 : Dat Try.prog n 25 ((xs.drop 3).take (Try.prog.cellsOf 25)) := hf 3 _ rfl
    rw [cells25] at f3
    obtain ⟨x3, e3, w3⟩ := (dat_slice (c := (fun n => [I n])) (w := (fun x => InI x)) Try.underlying25 cells2 f3 (fun m y hm hy => (dat_i64 Try.underlying2 hy)))
    have f4 : Dat Try.prog n 26 ((xs.drop 4).take (Try.prog.cellsOf 26)) := hf 4 _ rfl
    rw [cells26] at f4
    obtain ⟨x4, e4, w4⟩ := (dat_slice (c := (fun x => [sls 1 (fun n => [I n]) x])) (w := (fun x => (∀ y ∈ x, InI y))) Try.underlying26 cells25 f4 (fun m y hm hy => (dat_slice (c := (fun n => [I n])) (w := (fun x => InI x)) Try.underlying25 cells2 hy (fun m y hm hy => (dat_i64 Try.underlying2 hy)))))
    have r5 : xs.drop 5 = [] := List.drop_eq_nil_of_le (by omega)
    have r4 := drop_split e4 r5 rfl
    have r3 := drop_split e3 r4 rfl
    have r2 := drop_split e2 r3 rfl
    have r1 := drop_split e1 r2 rfl
    have r0 := drop_split e0 r1 rfl
    exact ⟨⟨x0, x1, x2, x3, x4⟩, r0, ⟨w0, w1, w2, w3, w4⟩⟩
set_option maxRecDepth 100000 in
theorem dat_87 : ∀ {n : Nat} {xs : List HVal}, Dat Try.prog n 87 xs → ∃ x : DPart, xs = x.c ∧ x.wf
  | 0, _, h => h.elim
  | n + 1, xs, h => by
    simp only [Dat, Try.underlying87] at h
    obtain ⟨hl, hf⟩ := h
    rw [cells87] at hl
    have f0 : Dat Try.prog n 2 ((xs.drop 0).take (Try.prog.cellsOf 2)) := hf 0 _ rfl
    rw [cells2] at f0
    obtain ⟨x0, e0, w0⟩ := (dat_i64 Try.underlying2 f0)
    have f1 : Dat Try.prog n 2 ((xs.drop 1).take (Try.prog.cellsOf 2)) := hf 1 _ rfl
    rw [cells2] at f1
    obtain ⟨x1, e1, w1⟩ := (dat_i64 Try.underlying2 f1)
    have f2 : Dat Try.prog n 25 ((xs.drop 2).take (Try.prog.cellsOf 25)) := hf 2 _ rfl
    rw [cells25] at f2
    obtain ⟨x2, e2, w2⟩ := (dat_slice (c := (fun n => [I n])) (w := (fun x => InI x)) Try.underlying25 cells2 f2 (fun m y hm hy => (dat_i64 Try.underlying2 hy)))
    have r3 : xs.drop 3 = [] := List.drop_eq_nil_of_le (by omega)
    have r2 := drop_split e2 r3 rfl
    have r1 := drop_split e1 r2 rfl
    have r0 := drop_split e0 r1 rfl
    exact ⟨⟨x0, x1, x2⟩, r0, ⟨w0, w1, w2⟩⟩
set_option maxRecDepth 100000 in
theorem dat_32 : ∀ {n : Nat} {xs : List HVal}, Dat Try.prog n 32 xs → ∃ x : DService, xs = x.c ∧ x.wf
  | 0, _, h => h.elim
  | n + 1, xs, h => by
    simp only [Dat, Try.underlying32] at h
    obtain ⟨hl, hf⟩ := h
    rw [cells32] at hl
    have f0 : Dat Try.prog n 28 ((xs.drop 0).take (Try.prog.cellsOf 28)) := hf 0 _ rfl
    rw [cells28] at f0
    obtain ⟨x0, e0, w0⟩ := (dat_28 f0)
    have f1 : Dat Try.prog n 25 ((xs.drop 5).take (Try.prog.cellsOf 25)) := hf 1 _ rfl
    rw [cells25] at f1
    obtain ⟨x1, e1, w1⟩ := (dat_slice (c := (fun n => [I n])) (w := (fun x => InI x)) Try.underlying25 cells2 f1 (fun m y hm hy => (dat_i64 Try.underlying2 hy)))
    have f2 : Dat Try.prog n 29 ((xs.drop 6).take (Try.prog.cellsOf 29)) := hf 2 _ rfl
    rw [cells29] at f2
    obtain ⟨x2, e2, w2⟩ := (dat_slice (c := (fun b => [.bool b])) (w := (fun _ => True)) Try.underlying29 cells4 f2 (fun m y hm hy => (dat_bool Try.underlying4 hy)))
    have f3 : Dat Try.prog n 30 ((xs.drop 7).take (Try.prog.cellsOf 30)) := hf 3 _ rfl
    rw [cells30] at f3
    obtain ⟨x3, e3, w3⟩ := (dat_slice (c := DPart.c) (w := (fun x => x.wf)) Try.underlying30 cells87 f3 (fun m y hm hy => (dat_87 hy)))
    have f4 : Dat Try.prog n 25 ((xs.drop 8).take (Try.prog.cellsOf 25)) := hf 4 _ rfl
    rw [cells25] at f4
    obtain ⟨x4, e4, w4⟩ := (dat_slice (c := (fun n => [I n])) (w := (fun x => InI x)) Try.underlying25 cells2 f4 (fun m y hm hy => (dat_i64 Try.underlying2 hy)))
    have r5 : xs.drop 9 = [] := List.drop_eq_nil_of_le (by omega)
    have r4 := drop_split e4 r5 rfl
    have r3 := drop_split e3 r4 rfl
    have r2 := drop_split e2 r3 rfl
    have r1 := drop_split e1 r2 rfl
    have r0 := drop_split e0 r1 rfl
    exact ⟨⟨x0, x1, x2, x3, x4⟩, r0, ⟨w0, w1, w3, w4⟩⟩
def datT : List TypeId := [2, 4, 9, 22, 24, 25, 26, 28, 29, 30, 32, 87, 112, 114, 146]
theorem datT_ok : datB Try.prog datT = true := by kernel_rfl


end Go.Hl

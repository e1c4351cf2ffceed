/-
  Contracts of functions and laws of the layer over the walk.
-/
import Derived.Test.YthgfmobhhdmkpaaGreatHlD
import Derived.Test.YthgfmobhhdmkpaaGreatProg
import Derived.KernelRfl
namespace Go.Hl
open Go.Proofs
set_option linter.unusedVariables false
set_option linter.unusedSimpArgs false
@[go_sem] theorem ty2 : tyR Tryz.prog 2 = some ⟨1, false, 8, [.int .i64 0], .int .i64⟩ := by kernel_rfl
@[go_sem] theorem ty3 : tyR Tryz.prog 3 = some ⟨1, false, 8, [.int .i64 0], .int .i64⟩ := by kernel_rfl
@[go_sem] theorem ty4 : tyR Tryz.prog 4 = some ⟨1, false, 1, [.bool false], .bool⟩ := by kernel_rfl
@[go_sem] theorem ty5 : tyR Tryz.prog 5 = some ⟨1, false, 1, [.int .u8 0], .int .u8⟩ := by kernel_rfl
@[go_sem] theorem ty9 : tyR Tryz.prog 9 = some ⟨1, false, 16, [.str []], .str⟩ := by kernel_rfl
@[go_sem] theorem ty22 : tyR Tryz.prog 22 = some ⟨1, false, 24, [.nilsl], .slice 161⟩ := by kernel_rfl
@[go_sem] theorem ty24 : tyR Tryz.prog 24 = some ⟨1, true, 24, [.nilsl], .st [(0, 22, 1)]⟩ := by kernel_rfl
@[go_sem] theorem ty25 : tyR Tryz.prog 25 = some ⟨1, false, 24, [.nilsl], .slice 2⟩ := by kernel_rfl
@[go_sem] theorem ty26 : tyR Tryz.prog 26 = some ⟨1, false, 24, [.nilsl], .slice 25⟩ := by kernel_rfl
@[go_sem] theorem ty28 : tyR Tryz.prog 28 = some ⟨5, true, 88, [.nilsl, .int .i64 0, .int .i64 0, .nilsl, .nilsl], .st [(0, 24, 1), (1, 2, 1), (2, 2, 1), (3, 25, 1), (4, 26, 1)]⟩ := by kernel_rfl
@[go_sem] theorem ty29 : tyR Tryz.prog 29 = some ⟨1, false, 24, [.nilsl], .slice 4⟩ := by kernel_rfl
@[go_sem] theorem ty30 : tyR Tryz.prog 30 = some ⟨1, false, 24, [.nilsl], .slice 72⟩ := by kernel_rfl
@[go_sem] theorem ty32 : tyR Tryz.prog 32 = some ⟨9, true, 184, [.nilsl, .int .i64 0, .int .i64 0, .nilsl, .nilsl, .nilsl, .nilsl, .nilsl, .nilsl], .st [(0, 28, 5), (5, 25, 1), (6, 29, 1), (7, 30, 1), (8, 25, 1)]⟩ := by kernel_rfl
@[go_sem] theorem ty36 : tyR Tryz.prog 36 = some ⟨1, false, 24, [.nilsl], .slice 144⟩ := by kernel_rfl
@[go_sem] theorem ty38 : tyR Tryz.prog 38 = some ⟨1, true, 24, [.nilsl], .st [(0, 36, 1)]⟩ := by kernel_rfl
@[go_sem] theorem ty40 : tyR Tryz.prog 40 = some ⟨5, true, 88, [.nilsl, .int .i64 0, .int .i64 0, .nilsl, .nilsl], .st [(0, 38, 1), (1, 2, 1), (2, 2, 1), (3, 25, 1), (4, 26, 1)]⟩ := by kernel_rfl
@[go_sem] theorem ty41 : tyR Tryz.prog 41 = some ⟨1, false, 24, [.nilsl], .slice 78⟩ := by kernel_rfl
@[go_sem] theorem ty43 : tyR Tryz.prog 43 = some ⟨9, true, 184, [.nilsl, .int .i64 0, .int .i64 0, .nilsl, .nilsl, .nilsl, .nilsl, .nilsl, .nilsl], .st [(0, 40, 5), (5, 25, 1), (6, 29, 1), (7, 41, 1), (8, 25, 1)]⟩ := by kernel_rfl
@[go_sem] theorem ty51 : tyR Tryz.prog 51 = some ⟨1, false, 24, [.nilsl], .slice 52⟩ := by kernel_rfl
@[go_sem] theorem ty52 : tyR Tryz.prog 52 = some ⟨1, false, 24, [.nilsl], .slice 80⟩ := by kernel_rfl
@[go_sem] theorem ty54 : tyR Tryz.prog 54 = some ⟨18, true, 344, [.nilsl, .int .i64 0, .int .i64 0, .nilsl, .nilsl, .nilsl, .int .i64 0, .int .i64 0, .nilsl, .nilsl, .nilsl, .nilsl, .nilsl, .nilsl, .str [], .int .i64 0, .nilsl, .nilsl], .st [(0, 40, 5), (5, 43, 9), (14, 9, 1), (15, 2, 1), (16, 51, 1), (17, 52, 1)]⟩ := by kernel_rfl
@[go_sem] theorem ty72 : tyR Tryz.prog 72 = some ⟨3, true, 40, [.int .i64 0, .int .i64 0, .nilsl], .st [(0, 2, 1), (1, 2, 1), (2, 25, 1)]⟩ := by kernel_rfl
@[go_sem] theorem ty74 : tyR Tryz.prog 74 = some ⟨5, true, 56, [.int .i64 0, .int .i64 0, .int .i64 0, .int .i64 0, .nilsl], .st [(0, 2, 1), (1, 2, 1), (2, 72, 3)]⟩ := by kernel_rfl
@[go_sem] theorem ty78 : tyR Tryz.prog 78 = some ⟨3, true, 40, [.int .i64 0, .int .i64 0, .nilsl], .st [(0, 2, 1), (1, 2, 1), (2, 25, 1)]⟩ := by kernel_rfl
@[go_sem] theorem ty80 : tyR Tryz.prog 80 = some ⟨5, true, 56, [.int .i64 0, .int .i64 0, .int .i64 0, .int .i64 0, .nilsl], .st [(0, 2, 1), (1, 2, 1), (2, 78, 3)]⟩ := by kernel_rfl
@[go_sem] theorem ty142 : tyR Tryz.prog 142 = some ⟨1, false, 24, [.nilsl], .slice 164⟩ := by kernel_rfl
@[go_sem] theorem ty144 : tyR Tryz.prog 144 = some ⟨3, true, 48, [.str [], .int .i64 0, .nilsl], .st [(0, 9, 1), (1, 2, 1), (2, 142, 1)]⟩ := by kernel_rfl
@[go_sem] theorem ty159 : tyR Tryz.prog 159 = some ⟨1, false, 24, [.nilsl], .slice 189⟩ := by kernel_rfl
@[go_sem] theorem ty161 : tyR Tryz.prog 161 = some ⟨3, true, 48, [.str [], .int .i64 0, .nilsl], .st [(0, 9, 1), (1, 2, 1), (2, 159, 1)]⟩ := by kernel_rfl
@[go_sem] theorem ty164 : tyR Tryz.prog 164 = some ⟨5, true, 56, [.int .i64 0, .int .i64 0, .int .i64 0, .int .i64 0, .nilsl], .st [(0, 2, 1), (1, 2, 1), (2, 2, 1), (3, 2, 1), (4, 142, 1)]⟩ := by kernel_rfl
@[go_sem] theorem ty186 : tyR Tryz.prog 186 = some ⟨1, false, 24, [.nilsl], .slice 5⟩ := by kernel_rfl
@[go_sem] theorem ty189 : tyR Tryz.prog 189 = some ⟨5, true, 56, [.int .i64 0, .int .i64 0, .int .i64 0, .int .i64 0, .nilsl], .st [(0, 2, 1), (1, 2, 1), (2, 2, 1), (3, 2, 1), (4, 159, 1)]⟩ := by kernel_rfl
@[go_sem] theorem ty194 : tyR Tryz.prog 194 = some ⟨2, true, 32, [.nilsl, .int .i64 0], .st [(0, 38, 1), (1, 2, 1)]⟩ := by kernel_rfl
theorem mix : Tryz.prog.follows .mixedOrders = true := by kernel_rfl
open Go.Proofs
set_option linter.unusedVariables false
set_option linter.unusedSimpArgs false
abbrev I (n : Int) : HVal := .int .i64 n
abbrev ints (l : List Int) : HVal := .sl 1 (l.map fun n => [I n]) false
abbrev bools (l : List Bool) : HVal := .sl 1 (l.map fun b => [.bool b]) false
abbrev sls {α : Type} (sz : Nat) (c : α → List HVal) (l : List α) : HVal := .sl sz (l.map c) false

def InI (n : Int) : Prop := -9223372036854775808 ≤ n ∧ n ≤ 9223372036854775807
/-- What is left of a budget; -1 where it does not last. -/
def lft (left : Int) (n : Nat) : Int := if left - n < 0 then -1 else left - n


theorem lft_cases (left : Int) (n : Nat) : (lft left n = -1 ∧ left - n < 0) ∨ (lft left n = left - n ∧ 0 ≤ left - n) := by
  unfold lft; split
  · exact .inl ⟨rfl, by assumption⟩
  · exact .inr ⟨rfl, by omega⟩
theorem lft_neg {left : Int} {n : Nat} (h : left - n < 0) : lft left n = -1 := if_pos h
theorem lft_pos {left : Int} {n : Nat} (h : 0 ≤ left - n) : lft left n = left - n := if_neg (by omega)

theorem lft_step {left L : Int} {n : Nat} (h : lft left n = L) : (L < 0 → left - n < 0) ∧ (¬ L < 0 → L = left - n) := by
  subst h; unfold lft; split <;> constructor <;> intros <;> omega

theorem sum_take_succ {α : Type} (s : α → Nat) (l : List α) (k : Nat) (h : k < l.length) : ((l.take (k + 1)).map s).sum = ((l.take k).map s).sum + s l[k] := by
  rw [List.take_succ_eq_append_getElem h, List.map_append, List.sum_append]; simp only [List.map_cons, List.map_nil, List.sum_cons, List.sum_nil, Nat.add_zero]
theorem sum_take_le {α : Type} (s : α → Nat) : ∀ (l : List α) (k : Nat), ((l.take k).map s).sum ≤ (l.map s).sum
  | [], k => by simp
  | a :: l, 0 => by simp
  | a :: l, k + 1 => by have := sum_take_le s l k; simp only [List.take_succ_cons, List.map_cons, List.sum_cons]; omega

theorem sum_mem {α : Type} (s : α → Nat) {l : List α} {x : α} (h : x ∈ l) : s x ≤ (l.map s).sum := by
  induction l with
  | nil => simp at h
  | cons a l ih =>
    simp only [List.map_cons, List.sum_cons]
    rcases List.mem_cons.1 h with rfl | h
    · omega
    · have := ih h; omega

/-- A row that is being filled from the left. -/
def fillUp {α : Type} (f : α → List HVal) (z : List HVal) (a : List α) (k : Nat) : List (List Cell) := ((a.take k).map f ++ List.replicate (a.length - k) z).map (List.map .v)
theorem fillUp_zero {α : Type} (f : α → List HVal) (z : List HVal) (a : List α) : fillUp f z a 0 = List.map (List.map .v) (List.replicate a.length z) := by simp [fillUp]
theorem fillUp_all {α : Type} (f : α → List HVal) (z : List HVal) (a : List α) : fillUp f z a a.length = (a.map f).map (List.map .v) := by simp [fillUp]
theorem fillUp_get {α : Type} (f : α → List HVal) (z : List HVal) (a : List α) (k : Nat) (h : k < a.length) : (fillUp f z a k)[k]? = some (z.map .v) := by
  have : ((a.take k).map f).length = k := by simp; omega
  simp only [fillUp, List.getElem?_map]
  rw [List.getElem?_append_right (by omega), this]
  have h0 : 0 < a.length - k := by omega
  simp [h0]
theorem fillUp_set {α : Type} (f : α → List HVal) (z : List HVal) (a : List α) (k : Nat) (h : k < a.length) (e : List Cell) (he : e = (f a[k]).map .v) : (fillUp f z a k).set k e = fillUp f z a (k + 1) := by
  subst he
  have h1 : ((a.take k).map f).length = k := by simp; omega
  simp only [fillUp]
  rw [← List.map_set, List.set_append_right _ _ (by omega), h1, Nat.sub_self, List.take_succ_eq_append_getElem h, show a.length - k = (a.length - (k + 1)) + 1 by omega, List.replicate_succ, List.set_cons_zero]
  simp only [List.map_append, List.map_cons, List.map_nil, List.append_assoc, List.cons_append, List.nil_append]
theorem le_fill {α : Type} {f : α → List HVal} {z : List HVal} {a : List α} {k : Nat} {h : Heap} {n sz : Nat} {e : List Cell} (hk : k < a.length) (he : e = (f a[k]).map .v) :
    (upd h n (.row sz (fillUp f z a (k + 1)))).le (upd (upd h n (.row sz (fillUp f z a k))) n (.row sz ((fillUp f z a k).set k e))) := by
  rw [fillUp_set f z a k hk e he, upd_upd]
  exact Heap.le_refl _
theorem upd_get (h : Heap) (n m : Nat) (o : HObj) : upd h n o m = if m = n then some o else h m := rfl
theorem getElem_of_eq {α : Type} {a b : List α} (e : a = b) {k : Nat} (ha : k < a.length) {hb : k < b.length} : a[k] = b[k] := by subst e; rfl
theorem take_step {α : Type} {a b : List α} {k : Nat} (ha : k < a.length) (hb : k < b.length) (hp : a.take k = b.take k) (he : a[k] = b[k]) : a.take (k + 1) = b.take (k + 1) := by
  rw [List.take_succ_eq_append_getElem ha, List.take_succ_eq_append_getElem hb, hp, he]
theorem eq_of_take {α : Type} {a b : List α} (hl : a.length = b.length) (h : a.take a.length = b.take a.length) : a = b := by
  rw [List.take_length, hl, List.take_length] at h; exact h
theorem valRows_map (l : List (List HVal)) : valRows (l.map (List.map .v)) = l := by
  induction l with
  | nil => rfl
  | cons e l ih =>
    have : valRow (e.map Cell.v) = e := by
      induction e with
      | nil => rfl
      | cons x e ih => simp only [List.map_cons, valRow, Cell.val, ih]
    simp only [valRows, List.map_cons] at ih ⊢
    rw [ih, this]
/-- A row of this function's own, handed back. -/
theorem shift_row {h h' : Heap} {n sz : Nat} (es : List (List HVal)) (h0 : h n = none) (hl : (upd h n (.row sz (es.map (List.map .v)))).le h') (len : Nat) (e : len = es.length) : Shift (.os n sz 0 len) h' (.sl sz es false) h := by
  subst e
  refine (Shift.of (Sub.refl _) hl).trans ((Shift.sealUp (upd_same _ _ _) (by simp [sealOK])).trans ?_)
  have : HVal.sealUp n (valRows (es.map (List.map .v))) (.os n sz 0 es.length) = .sl sz es false := by simp [HVal.sealUp, valRows_map]
  rw [this]
  exact shift_le ((le_upd h0).2 ((le_upd h0).2 (Heap.le_refl h)))

theorem map_get {α β : Type} {f : α → β} {l : List α} {k : Nat} (h : k < l.length) : (l.map f)[k]? = some (f l[k]) := by
  rw [List.getElem?_map, List.getElem?_eq_getElem h]; rfl
theorem all_step {α : Type} {P : α → Prop} {l : List α} {k : Nat} (h : k < l.length) (hp : ∀ x ∈ l.take k, P x) (he : P l[k]) : ∀ x ∈ l.take (k + 1), P x := by
  rw [List.take_succ_eq_append_getElem h]
  intro x hx
  rcases List.mem_append.1 hx with hx | hx
  · exact hp x hx
  · rw [List.mem_singleton.1 hx]; exact he
/-- The first place where p holds, or -1. -/
def idxOf {α : Type} (p : α → Bool) (l : List α) : Int := match l.findIdx? p with | some i => i | none => -1
theorem idxOf_none {α : Type} {p : α → Bool} {l : List α} (h : ∀ x ∈ l, p x = false) : idxOf p l = -1 := by
  have : l.findIdx? p = none := List.findIdx?_eq_none_iff.2 h
  simp only [idxOf, this]
theorem idxOf_some {α : Type} {p : α → Bool} {l : List α} {k : Nat} (hk : k < l.length) (h : ∀ x ∈ l.take k, p x = false) (he : p l[k] = true) : idxOf p l = k := by
  have : l.findIdx? p = some k := by
    rw [List.findIdx?_eq_some_iff_getElem]
    refine ⟨hk, he, fun j hj => ?_⟩
    have := h l[j] (List.mem_take_iff_getElem.2 ⟨j, by omega, rfl⟩)
    simp [this]
  simp only [idxOf, this]
theorem idxOf_nonneg {α : Type} {p : α → Bool} {l : List α} : decide (0 ≤ idxOf p l) = l.any p := by
  unfold idxOf
  cases h : l.findIdx? p with
  | none =>
    have := List.findIdx?_eq_none_iff.1 h
    simp only
    rw [Bool.eq_false_iff.2 (show l.any p ≠ true from ?_)]
    · simp
    · intro hx
      obtain ⟨x, hx, hp⟩ := List.any_eq_true.1 hx
      rw [this x hx] at hp; cases hp
  | some i =>
    obtain ⟨hi, hp, _⟩ := List.findIdx?_eq_some_iff_getElem.1 h
    have : l.any p = true := List.any_eq_true.2 ⟨_, List.getElem_mem hi, hp⟩
    rw [this]; simp
/-- A number of the field. -/
def Num (n : Int) : Prop := 0 ≤ n ∧ n ≤ 1000002
instance (n : Int) : Decidable (Num n) := inferInstanceAs (Decidable (0 ≤ n ∧ n ≤ 1000002))
def Nums (l : List Int) : Prop := ∀ x ∈ l, Num x
instance (l : List Int) : Decidable (Nums l) := inferInstanceAs (Decidable (∀ x ∈ l, Num x))
theorem any_not {α : Type} {P : α → Prop} [DecidablePred P] {l : List α} [Decidable (∀ x ∈ l, P x)] : (!l.any fun x => !decide (P x)) = decide (∀ x ∈ l, P x) := by
  rw [Bool.eq_iff_iff]
  simp [List.any_eq_false]
inductive DExpr where
  | mk (fKind : Int) (fNum : Int) (fPick : Int) (fCount : Int) (fKids : (List DExpr))
def DExpr.fKind : DExpr → Int
  | .mk fKind fNum fPick fCount fKids => fKind
def DExpr.fNum : DExpr → Int
  | .mk fKind fNum fPick fCount fKids => fNum
def DExpr.fPick : DExpr → Int
  | .mk fKind fNum fPick fCount fKids => fPick
def DExpr.fCount : DExpr → Int
  | .mk fKind fNum fPick fCount fKids => fCount
def DExpr.fKids : DExpr → (List DExpr)
  | .mk fKind fNum fPick fCount fKids => fKids
mutual
def DExpr.c : DExpr → List HVal
  | .mk fKind fNum fPick fCount fKids => [(.int .i64 fKind), (.int .i64 fNum), (.int .i64 fPick), (.int .i64 fCount), .sl 5 (DExpr.cL fKids) false]
def DExpr.cL : List DExpr → List (List HVal)
  | [] => []
  | x :: l => x.c :: DExpr.cL l
end
mutual
def DExpr.s : DExpr → Nat
  | .mk fKind fNum fPick fCount fKids => (fKids.length + DExpr.sL fKids)
def DExpr.sL : List DExpr → Nat
  | [] => 0
  | x :: l => x.s + DExpr.sL l
end
theorem DExpr.cL_map : ∀ l, DExpr.cL l = l.map DExpr.c
  | [] => rfl
  | x :: l => by simp only [DExpr.cL, List.map_cons, DExpr.cL_map l]
theorem DExpr.sL_map : ∀ l, DExpr.sL l = (l.map DExpr.s).sum
  | [] => rfl
  | x :: l => by simp only [DExpr.sL, List.map_cons, List.sum_cons, DExpr.sL_map l]
theorem DExpr.c_eq (x : DExpr) : x.c = [(.int .i64 x.fKind), (.int .i64 x.fNum), (.int .i64 x.fPick), (.int .i64 x.fCount), (sls 5 DExpr.c x.fKids)] := by cases x; simp only [DExpr.c, DExpr.cL_map, sls]; rfl
theorem DExpr.s_eq (x : DExpr) : x.s = (szs DExpr.s x.fKids) := by cases x; simp only [DExpr.s, DExpr.sL_map, szs]; rfl
theorem DExpr.kid_lt {x y : DExpr} (h : y ∈ x.fKids) : SizeOf.sizeOf y < SizeOf.sizeOf x := by
  cases x
  have := List.sizeOf_lt_of_mem h
  simp only [DExpr.fKids] at this
  simp only [DExpr.mk.sizeOf_spec]; omega
@[simp] theorem DExpr.c_len (x : DExpr) : x.c.length = 5 := by rw [DExpr.c_eq]; rfl
inductive DExpr.wf : DExpr → Prop
  | mk (x : DExpr) (h0 : InI x.fKind) (h1 : InI x.fNum) (h2 : InI x.fPick) (h3 : InI x.fCount) (hk : ∀ y ∈ x.fKids, y.wf) : x.wf
theorem DExpr.eq_iff {a b : DExpr} : a = b ↔ a.fKind = b.fKind ∧ a.fNum = b.fNum ∧ a.fPick = b.fPick ∧ a.fCount = b.fCount ∧ a.fKids = b.fKids := by cases a; cases b; simp [DExpr.fKind, DExpr.fNum, DExpr.fPick, DExpr.fCount, DExpr.fKids]
noncomputable instance : DecidableEq DExpr := fun a b => Classical.propDecidable (a = b)

structure DFunc where
  fName : (List UInt8)
  fParams : Int
  fOuts : (List DExpr)
def DFunc.c (x : DFunc) : List HVal := [(.str x.fName), (.int .i64 x.fParams), (sls 5 DExpr.c x.fOuts)]
def DFunc.s (x : DFunc) : Nat := x.fName.length + (szs DExpr.s x.fOuts)
theorem DFunc.c_eq (x : DFunc) : x.c = [(.str x.fName), (.int .i64 x.fParams), (sls 5 DExpr.c x.fOuts)] := rfl
theorem DFunc.s_eq (x : DFunc) : x.s = x.fName.length + (szs DExpr.s x.fOuts) := rfl
@[simp] theorem DFunc.c_len (x : DFunc) : x.c.length = 3 := by rw [DFunc.c_eq]; rfl
def DFunc.wf (x : DFunc) : Prop := InI x.fParams ∧ (∀ y ∈ x.fOuts, y.wf)
theorem DFunc.eq_iff {a b : DFunc} : a = b ↔ a.fName = b.fName ∧ a.fParams = b.fParams ∧ a.fOuts = b.fOuts := by cases a; cases b; simp
noncomputable instance : DecidableEq DFunc := fun a b => Classical.propDecidable (a = b)

structure DProgram where
  fFuncs : (List DFunc)
def DProgram.c (x : DProgram) : List HVal := [(sls 3 DFunc.c x.fFuncs)]
def DProgram.s (x : DProgram) : Nat := (szs DFunc.s x.fFuncs)
theorem DProgram.c_eq (x : DProgram) : x.c = [(sls 3 DFunc.c x.fFuncs)] := rfl
theorem DProgram.s_eq (x : DProgram) : x.s = (szs DFunc.s x.fFuncs) := rfl
@[simp] theorem DProgram.c_len (x : DProgram) : x.c.length = 1 := by rw [DProgram.c_eq]; rfl
def DProgram.wf (x : DProgram) : Prop := (∀ y ∈ x.fFuncs, y.wf)
theorem DProgram.eq_iff {a b : DProgram} : a = b ↔ a.fFuncs = b.fFuncs := by cases a; cases b; simp
noncomputable instance : DecidableEq DProgram := fun a b => Classical.propDecidable (a = b)

structure DJob where
  fProgram : DProgram
  fFunc : Int
  fShared : Int
  fPoint : (List Int)
  fTerms : (List (List Int))
def DJob.c (x : DJob) : List HVal := [(sls 3 DFunc.c x.fProgram.fFuncs), (.int .i64 x.fFunc), (.int .i64 x.fShared), (sls 1 (fun n => [I n]) x.fPoint), (sls 1 (fun x => [sls 1 (fun n => [I n]) x]) x.fTerms)]
def DJob.s (x : DJob) : Nat := (DProgram.s x.fProgram) + x.fPoint.length + (szs (fun x : List Int => x.length) x.fTerms)
theorem DJob.c_eq (x : DJob) : x.c = [(sls 3 DFunc.c x.fProgram.fFuncs), (.int .i64 x.fFunc), (.int .i64 x.fShared), (sls 1 (fun n => [I n]) x.fPoint), (sls 1 (fun x => [sls 1 (fun n => [I n]) x]) x.fTerms)] := rfl
theorem DJob.s_eq (x : DJob) : x.s = (DProgram.s x.fProgram) + x.fPoint.length + (szs (fun x : List Int => x.length) x.fTerms) := rfl
@[simp] theorem DJob.c_len (x : DJob) : x.c.length = 5 := by rw [DJob.c_eq]; rfl
def DJob.wf (x : DJob) : Prop := x.fProgram.wf ∧ InI x.fFunc ∧ InI x.fShared ∧ (∀ y ∈ x.fPoint, InI y) ∧ (∀ y ∈ x.fTerms, (∀ y' ∈ y, InI y'))
theorem DJob.eq_iff {a b : DJob} : a = b ↔ a.fProgram = b.fProgram ∧ a.fFunc = b.fFunc ∧ a.fShared = b.fShared ∧ a.fPoint = b.fPoint ∧ a.fTerms = b.fTerms := by cases a; cases b; simp
noncomputable instance : DecidableEq DJob := fun a b => Classical.propDecidable (a = b)

structure DPart where
  fCode : Int
  fValue : Int
  fGrad : (List Int)
def DPart.c (x : DPart) : List HVal := [(.int .i64 x.fCode), (.int .i64 x.fValue), (sls 1 (fun n => [I n]) x.fGrad)]
def DPart.s (x : DPart) : Nat := x.fGrad.length
theorem DPart.c_eq (x : DPart) : x.c = [(.int .i64 x.fCode), (.int .i64 x.fValue), (sls 1 (fun n => [I n]) x.fGrad)] := rfl
theorem DPart.s_eq (x : DPart) : x.s = x.fGrad.length := rfl
@[simp] theorem DPart.c_len (x : DPart) : x.c.length = 3 := by rw [DPart.c_eq]; rfl
def DPart.wf (x : DPart) : Prop := InI x.fCode ∧ InI x.fValue ∧ (∀ y ∈ x.fGrad, InI y)
theorem DPart.eq_iff {a b : DPart} : a = b ↔ a.fCode = b.fCode ∧ a.fValue = b.fValue ∧ a.fGrad = b.fGrad := by cases a; cases b; simp
noncomputable instance : DecidableEq DPart := fun a b => Classical.propDecidable (a = b)

structure DService where
  fJob : DJob
  fStamps : (List Int)
  fKnown : (List Bool)
  fParts : (List DPart)
  fOwners : (List Int)
def DService.c (x : DService) : List HVal := [(sls 3 DFunc.c x.fJob.fProgram.fFuncs), (.int .i64 x.fJob.fFunc), (.int .i64 x.fJob.fShared), (sls 1 (fun n => [I n]) x.fJob.fPoint), (sls 1 (fun x => [sls 1 (fun n => [I n]) x]) x.fJob.fTerms), (sls 1 (fun n => [I n]) x.fStamps), (sls 1 (fun b => [.bool b]) x.fKnown), (sls 3 DPart.c x.fParts), (sls 1 (fun n => [I n]) x.fOwners)]
def DService.s (x : DService) : Nat := (DJob.s x.fJob) + x.fStamps.length + x.fKnown.length + (szs DPart.s x.fParts) + x.fOwners.length
theorem DService.c_eq (x : DService) : x.c = [(sls 3 DFunc.c x.fJob.fProgram.fFuncs), (.int .i64 x.fJob.fFunc), (.int .i64 x.fJob.fShared), (sls 1 (fun n => [I n]) x.fJob.fPoint), (sls 1 (fun x => [sls 1 (fun n => [I n]) x]) x.fJob.fTerms), (sls 1 (fun n => [I n]) x.fStamps), (sls 1 (fun b => [.bool b]) x.fKnown), (sls 3 DPart.c x.fParts), (sls 1 (fun n => [I n]) x.fOwners)] := rfl
theorem DService.s_eq (x : DService) : x.s = (DJob.s x.fJob) + x.fStamps.length + x.fKnown.length + (szs DPart.s x.fParts) + x.fOwners.length := rfl
@[simp] theorem DService.c_len (x : DService) : x.c.length = 9 := by rw [DService.c_eq]; rfl
def DService.wf (x : DService) : Prop := x.fJob.wf ∧ (∀ y ∈ x.fStamps, InI y) ∧ (∀ y ∈ x.fParts, y.wf) ∧ (∀ y ∈ x.fOwners, InI y)
theorem DService.eq_iff {a b : DService} : a = b ↔ a.fJob = b.fJob ∧ a.fStamps = b.fStamps ∧ a.fKnown = b.fKnown ∧ a.fParts = b.fParts ∧ a.fOwners = b.fOwners := by cases a; cases b; simp
noncomputable instance : DecidableEq DService := fun a b => Classical.propDecidable (a = b)

structure DReport where
  fTerm : Int
  fStamp : Int
  fPart : DPart
def DReport.c (x : DReport) : List HVal := [(.int .i64 x.fTerm), (.int .i64 x.fStamp), (.int .i64 x.fPart.fCode), (.int .i64 x.fPart.fValue), (sls 1 (fun n => [I n]) x.fPart.fGrad)]
def DReport.s (x : DReport) : Nat := (DPart.s x.fPart)
theorem DReport.c_eq (x : DReport) : x.c = [(.int .i64 x.fTerm), (.int .i64 x.fStamp), (.int .i64 x.fPart.fCode), (.int .i64 x.fPart.fValue), (sls 1 (fun n => [I n]) x.fPart.fGrad)] := rfl
theorem DReport.s_eq (x : DReport) : x.s = (DPart.s x.fPart) := rfl
@[simp] theorem DReport.c_len (x : DReport) : x.c.length = 5 := by rw [DReport.c_eq]; rfl
def DReport.wf (x : DReport) : Prop := InI x.fTerm ∧ InI x.fStamp ∧ x.fPart.wf
theorem DReport.eq_iff {a b : DReport} : a = b ↔ a.fTerm = b.fTerm ∧ a.fStamp = b.fStamp ∧ a.fPart = b.fPart := by cases a; cases b; simp
noncomputable instance : DecidableEq DReport := fun a b => Classical.propDecidable (a = b)

structure DNet where
  fStart : DJob
  fService : DService
  fJournal : (List UInt8)
  fSafe : Int
  fQueues : (List (List DReport))
  fFlying : (List DReport)
def DNet.c (x : DNet) : List HVal := [(sls 3 DFunc.c x.fStart.fProgram.fFuncs), (.int .i64 x.fStart.fFunc), (.int .i64 x.fStart.fShared), (sls 1 (fun n => [I n]) x.fStart.fPoint), (sls 1 (fun x => [sls 1 (fun n => [I n]) x]) x.fStart.fTerms), (sls 3 DFunc.c x.fService.fJob.fProgram.fFuncs), (.int .i64 x.fService.fJob.fFunc), (.int .i64 x.fService.fJob.fShared), (sls 1 (fun n => [I n]) x.fService.fJob.fPoint), (sls 1 (fun x => [sls 1 (fun n => [I n]) x]) x.fService.fJob.fTerms), (sls 1 (fun n => [I n]) x.fService.fStamps), (sls 1 (fun b => [.bool b]) x.fService.fKnown), (sls 3 DPart.c x.fService.fParts), (sls 1 (fun n => [I n]) x.fService.fOwners), (.str x.fJournal), (.int .i64 x.fSafe), (sls 1 (fun x => [sls 5 DReport.c x]) x.fQueues), (sls 5 DReport.c x.fFlying)]
def DNet.s (x : DNet) : Nat := (DJob.s x.fStart) + (DService.s x.fService) + x.fJournal.length + (szs (fun x => szs DReport.s x) x.fQueues) + (szs DReport.s x.fFlying)
theorem DNet.c_eq (x : DNet) : x.c = [(sls 3 DFunc.c x.fStart.fProgram.fFuncs), (.int .i64 x.fStart.fFunc), (.int .i64 x.fStart.fShared), (sls 1 (fun n => [I n]) x.fStart.fPoint), (sls 1 (fun x => [sls 1 (fun n => [I n]) x]) x.fStart.fTerms), (sls 3 DFunc.c x.fService.fJob.fProgram.fFuncs), (.int .i64 x.fService.fJob.fFunc), (.int .i64 x.fService.fJob.fShared), (sls 1 (fun n => [I n]) x.fService.fJob.fPoint), (sls 1 (fun x => [sls 1 (fun n => [I n]) x]) x.fService.fJob.fTerms), (sls 1 (fun n => [I n]) x.fService.fStamps), (sls 1 (fun b => [.bool b]) x.fService.fKnown), (sls 3 DPart.c x.fService.fParts), (sls 1 (fun n => [I n]) x.fService.fOwners), (.str x.fJournal), (.int .i64 x.fSafe), (sls 1 (fun x => [sls 5 DReport.c x]) x.fQueues), (sls 5 DReport.c x.fFlying)] := rfl
theorem DNet.s_eq (x : DNet) : x.s = (DJob.s x.fStart) + (DService.s x.fService) + x.fJournal.length + (szs (fun x => szs DReport.s x) x.fQueues) + (szs DReport.s x.fFlying) := rfl
@[simp] theorem DNet.c_len (x : DNet) : x.c.length = 18 := by rw [DNet.c_eq]; rfl
def DNet.wf (x : DNet) : Prop := x.fStart.wf ∧ x.fService.wf ∧ InI x.fSafe ∧ (∀ y ∈ x.fQueues, (∀ y' ∈ y, y'.wf)) ∧ (∀ y ∈ x.fFlying, y.wf)
theorem DNet.eq_iff {a b : DNet} : a = b ↔ a.fStart = b.fStart ∧ a.fService = b.fService ∧ a.fJournal = b.fJournal ∧ a.fSafe = b.fSafe ∧ a.fQueues = b.fQueues ∧ a.fFlying = b.fFlying := by cases a; cases b; simp
noncomputable instance : DecidableEq DNet := fun a b => Classical.propDecidable (a = b)


open Go.Proofs
set_option linter.unusedVariables false
set_option linter.unusedSimpArgs false


def keep148 : List Nat := [0, 2, 3, 4, 11]
def ib148 : List Nat := []
def mk148 : Marks := fun _ => ([], .nil, [])
set_option maxRecDepth 100000 in
theorem to_ExprS (l : List DExpr) (h1 : l.length ≤ 1048576) (hc : ∀ x ∈ l, Fn0 Tryz.prog 160 [(.agg (DExpr.c x))] (.agg (DExpr.c x))) : Fn0 Tryz.prog 148 [(sls 5 DExpr.c l)] (sls 5 DExpr.c l) := by
  refine fn0S 23 keep148 ib148 mk148 mix Tryz.func148 rfl (by kernel_rfl) (by simp) fun h => ?_
  simp -dsimp -implicitDefEqProofs only [go_sem, Tryz.f148, ↓reduceIte, keep148, ib148, mk148]
  refine fun _ => ⟨by omega, by omega, by omega, by omega, fun n hn => ?_⟩
  refine loopF (keep := keep148) (ib := ib148) (mk := mk148) mix (by kernel_rfl) (fun k : Nat => [(0, (sls 5 DExpr.c l)), (3, .os n 5 0 l.length), (4, I k)]) (fun k => upd h n (.row 5 (fillUp DExpr.c [.int .i64 0, .int .i64 0, .int .i64 0, .int .i64 0, .nilsl] l k))) (fun k => k ≤ l.length) (fun k => l.length - k) 0 (by simp [SatL, tget, Heap.le_refl, fillUp_zero]) ?_
  intro k hk
  rcases Nat.lt_or_ge k l.length with hlt | hge
  · have ea : l[k]? = some l[k] := List.getElem?_eq_getElem hlt
    simp -dsimp -implicitDefEqProofs only [go_sem, ↓reduceIte, keep148, ib148, mk148, Tryz.f148, ea, fillUp_get _ _ _ _ hlt, DExpr.c_eq]
    refine fun _ => ⟨fun _ => ⟨hlt, ?_⟩, fun hn => absurd hlt hn⟩
    have hx := hc l[k] (List.getElem_mem hlt)
    simp only [DExpr.c_eq] at hx
    refine HFnF.mk hx ?_
    simp -dsimp -implicitDefEqProofs only [go_sem, ↓reduceIte, keep148, ib148, mk148, Tryz.f148, fillUp_get _ _ _ _ hlt]
    refine ⟨hlt, k + 1, by rw [IntWalk.i64_in _ (by omega)]; rfl, ?_, by omega, by omega⟩
    exact le_fill hlt (by first | rfl | (simp only [List.map_cons, List.map_nil, DExpr.c_eq]))
  · have hk' : k = l.length := by omega
    subst hk'
    simp -dsimp -implicitDefEqProofs only [go_sem, ↓reduceIte, keep148, ib148, mk148, Tryz.f148, Nat.lt_irrefl]
    rw [fillUp_all]
    exact fun _ => shift_row _ hn (Heap.le_refl _) _ (by simp)

def keep160 : List Nat := [0, 1, 2, 3]
def ib160 : List Nat := [1]
def mk160 : Marks := fun _ => ([], .nil, [])
set_option maxRecDepth 100000 in
theorem to_Expr_step (x : DExpr) (hs : x.s ≤ 1048576) (hk : Fn0 Tryz.prog 148 [(sls 5 DExpr.c x.fKids)] (sls 5 DExpr.c x.fKids)) : Fn0 Tryz.prog 160 [.agg x.c] (.agg x.c) := by
  rw [DExpr.s_eq] at hs
  simp only [DExpr.c_eq]
  refine fn0S 21 keep160 ib160 mk160 mix Tryz.func160 rfl (by kernel_rfl) (by simp) fun h => ?_
  simp -dsimp -implicitDefEqProofs only [go_sem, Tryz.f160, ↓reduceIte, keep160, ib160, mk160]
  intro n2 h2 n3 h3
  have e1 : (n2 = n3) = False := eq_false fun e => h3.1 e.symm
  have e2 : (n3 = n2) = False := eq_false h3.1
  have hzfKids : (x.fKids).length + ((x.fKids).map DExpr.s).sum = (szs DExpr.s x.fKids) := rfl
  refine HFnF.mk hk ?_
  simp -dsimp -implicitDefEqProofs only [go_sem, ↓reduceIte, keep160, ib160, mk160, Tryz.f160, upd_upd, upd_get, e1, e2]
  exact shift_le (by simp -dsimp -implicitDefEqProofs only [go_sem, h2, h3, e1, e2, upd_get])
theorem to_Expr (x : DExpr) (hs : x.s ≤ 1048576) : Fn0 Tryz.prog 160 [.agg x.c] (.agg x.c) :=
  to_Expr_step x hs (to_ExprS x.fKids (by rw [DExpr.s_eq] at hs; rw [szs_eq] at hs; omega) fun y hy => to_Expr y (by rw [DExpr.s_eq] at hs; have := sum_mem DExpr.s hy; rw [szs_eq] at hs; omega))
termination_by SizeOf.sizeOf x
decreasing_by exact DExpr.kid_lt hy

def keep134 : List Nat := [0, 1, 2, 3]
def ib134 : List Nat := [1]
def mk134 : Marks := fun _ => ([], .nil, [])
set_option maxRecDepth 100000 in
theorem to_Func (x : DFunc) (hs : x.s ≤ 1048576) : Fn0 Tryz.prog 134 [.agg x.c] (.agg x.c) := by
  rw [DFunc.s_eq] at hs
  simp only [DFunc.c_eq]
  refine fn0S 15 keep134 ib134 mk134 mix Tryz.func134 rfl (by kernel_rfl) (by simp) fun h => ?_
  simp -dsimp -implicitDefEqProofs only [go_sem, Tryz.f134, ↓reduceIte, keep134, ib134, mk134]
  intro n2 h2 n3 h3
  have e1 : (n2 = n3) = False := eq_false fun e => h3.1 e.symm
  have e2 : (n3 = n2) = False := eq_false h3.1
  have hzfOuts : (x.fOuts).length + ((x.fOuts).map DExpr.s).sum = (szs DExpr.s x.fOuts) := rfl
  refine HFnF.mk (to_ExprS x.fOuts (by omega) (fun y hy => to_Expr y (by have hq : (DExpr.s y) ≤ ((x.fOuts).map DExpr.s).sum := sum_mem DExpr.s hy; omega))) ?_
  simp -dsimp -implicitDefEqProofs only [go_sem, ↓reduceIte, keep134, ib134, mk134, Tryz.f134, upd_upd, upd_get, e1, e2]
  exact shift_le (by simp -dsimp -implicitDefEqProofs only [go_sem, h2, h3, e1, e2, upd_get])

def keep110 : List Nat := [0, 2, 3, 4, 11]
def ib110 : List Nat := []
def mk110 : Marks := fun _ => ([], .nil, [])
set_option maxRecDepth 100000 in
theorem to_FuncS (l : List DFunc) (h1 : l.length ≤ 1048576) (hc : ∀ x ∈ l, Fn0 Tryz.prog 134 [(.agg (DFunc.c x))] (.agg (DFunc.c x))) : Fn0 Tryz.prog 110 [(sls 3 DFunc.c l)] (sls 3 DFunc.c l) := by
  refine fn0S 23 keep110 ib110 mk110 mix Tryz.func110 rfl (by kernel_rfl) (by simp) fun h => ?_
  simp -dsimp -implicitDefEqProofs only [go_sem, Tryz.f110, ↓reduceIte, keep110, ib110, mk110]
  refine fun _ => ⟨by omega, by omega, by omega, by omega, fun n hn => ?_⟩
  refine loopF (keep := keep110) (ib := ib110) (mk := mk110) mix (by kernel_rfl) (fun k : Nat => [(0, (sls 3 DFunc.c l)), (3, .os n 3 0 l.length), (4, I k)]) (fun k => upd h n (.row 3 (fillUp DFunc.c [.str [], .int .i64 0, .nilsl] l k))) (fun k => k ≤ l.length) (fun k => l.length - k) 0 (by simp [SatL, tget, Heap.le_refl, fillUp_zero]) ?_
  intro k hk
  rcases Nat.lt_or_ge k l.length with hlt | hge
  · have ea : l[k]? = some l[k] := List.getElem?_eq_getElem hlt
    simp -dsimp -implicitDefEqProofs only [go_sem, ↓reduceIte, keep110, ib110, mk110, Tryz.f110, ea, fillUp_get _ _ _ _ hlt, DFunc.c_eq]
    refine fun _ => ⟨fun _ => ⟨hlt, ?_⟩, fun hn => absurd hlt hn⟩
    have hx := hc l[k] (List.getElem_mem hlt)
    simp only [DFunc.c_eq] at hx
    refine HFnF.mk hx ?_
    simp -dsimp -implicitDefEqProofs only [go_sem, ↓reduceIte, keep110, ib110, mk110, Tryz.f110, fillUp_get _ _ _ _ hlt]
    refine ⟨hlt, k + 1, by rw [IntWalk.i64_in _ (by omega)]; rfl, ?_, by omega, by omega⟩
    exact le_fill hlt (by first | rfl | (simp only [List.map_cons, List.map_nil, DFunc.c_eq]))
  · have hk' : k = l.length := by omega
    subst hk'
    simp -dsimp -implicitDefEqProofs only [go_sem, ↓reduceIte, keep110, ib110, mk110, Tryz.f110, Nat.lt_irrefl]
    rw [fillUp_all]
    exact fun _ => shift_row _ hn (Heap.le_refl _) _ (by simp)

def keep61 : List Nat := [0, 1, 2, 3]
def ib61 : List Nat := [1]
def mk61 : Marks := fun _ => ([], .nil, [])
set_option maxRecDepth 100000 in
theorem to_Program (x : DProgram) (hs : x.s ≤ 1048576) : Fn0 Tryz.prog 61 [.agg x.c] (.agg x.c) := by
  rw [DProgram.s_eq] at hs
  simp only [DProgram.c_eq]
  refine fn0S 9 keep61 ib61 mk61 mix Tryz.func61 rfl (by kernel_rfl) (by simp) fun h => ?_
  simp -dsimp -implicitDefEqProofs only [go_sem, Tryz.f61, ↓reduceIte, keep61, ib61, mk61]
  intro n2 h2 n3 h3
  have e1 : (n2 = n3) = False := eq_false fun e => h3.1 e.symm
  have e2 : (n3 = n2) = False := eq_false h3.1
  have hzfFuncs : (x.fFuncs).length + ((x.fFuncs).map DFunc.s).sum = (szs DFunc.s x.fFuncs) := rfl
  refine HFnF.mk (to_FuncS x.fFuncs (by omega) (fun y hy => to_Func y (by have hq : (DFunc.s y) ≤ ((x.fFuncs).map DFunc.s).sum := sum_mem DFunc.s hy; omega))) ?_
  simp -dsimp -implicitDefEqProofs only [go_sem, ↓reduceIte, keep61, ib61, mk61, Tryz.f61, upd_upd, upd_get, e1, e2]
  exact shift_le (by simp -dsimp -implicitDefEqProofs only [go_sem, h2, h3, e1, e2, upd_get])

def keep33 : List Nat := [0, 2, 3, 4, 11]
def ib33 : List Nat := []
def mk33 : Marks := fun _ => ([], .nil, [])
set_option maxRecDepth 100000 in
theorem to_Int64S (l : List Int) (h1 : l.length ≤ 1048576) : Fn0 Tryz.prog 33 [(sls 1 (fun n => [I n]) l)] (sls 1 (fun n => [I n]) l) := by
  refine fn0S 22 keep33 ib33 mk33 mix Tryz.func33 rfl (by kernel_rfl) (by simp) fun h => ?_
  simp -dsimp -implicitDefEqProofs only [go_sem, Tryz.f33, ↓reduceIte, keep33, ib33, mk33]
  refine fun _ => ⟨by omega, by omega, by omega, by omega, fun n hn => ?_⟩
  refine loopF (keep := keep33) (ib := ib33) (mk := mk33) mix (by kernel_rfl) (fun k : Nat => [(0, (sls 1 (fun n => [I n]) l)), (3, .os n 1 0 l.length), (4, I k)]) (fun k => upd h n (.row 1 (fillUp (fun n => [I n]) [.int .i64 0] l k))) (fun k => k ≤ l.length) (fun k => l.length - k) 0 (by simp [SatL, tget, Heap.le_refl, fillUp_zero]) ?_
  intro k hk
  rcases Nat.lt_or_ge k l.length with hlt | hge
  · have ea : l[k]? = some l[k] := List.getElem?_eq_getElem hlt
    simp -dsimp -implicitDefEqProofs only [go_sem, ↓reduceIte, keep33, ib33, mk33, Tryz.f33, ea, fillUp_get _ _ _ _ hlt]
    refine fun _ => ⟨fun _ => ⟨hlt, hlt, k + 1, by rw [IntWalk.i64_in _ (by omega)]; rfl, ?_, by omega, by omega⟩, fun hn => absurd hlt hn⟩
    exact le_fill hlt rfl
  · have hk' : k = l.length := by omega
    subst hk'
    simp -dsimp -implicitDefEqProofs only [go_sem, ↓reduceIte, keep33, ib33, mk33, Tryz.f33, Nat.lt_irrefl]
    rw [fillUp_all]
    exact fun _ => shift_row _ hn (Heap.le_refl _) _ (by simp)

def keep62 : List Nat := [0, 2, 3, 4, 11]
def ib62 : List Nat := []
def mk62 : Marks := fun _ => ([], .nil, [])
set_option maxRecDepth 100000 in
theorem to_Int64SS (l : List (List Int)) (h1 : l.length ≤ 1048576) (hc : ∀ x ∈ l, Fn0 Tryz.prog 33 [(sls 1 (fun n => [I n]) x)] (sls 1 (fun n => [I n]) x)) : Fn0 Tryz.prog 62 [(sls 1 (fun x => [sls 1 (fun n => [I n]) x]) l)] (sls 1 (fun x => [sls 1 (fun n => [I n]) x]) l) := by
  refine fn0S 23 keep62 ib62 mk62 mix Tryz.func62 rfl (by kernel_rfl) (by simp) fun h => ?_
  simp -dsimp -implicitDefEqProofs only [go_sem, Tryz.f62, ↓reduceIte, keep62, ib62, mk62]
  refine fun _ => ⟨by omega, by omega, by omega, by omega, fun n hn => ?_⟩
  refine loopF (keep := keep62) (ib := ib62) (mk := mk62) mix (by kernel_rfl) (fun k : Nat => [(0, (sls 1 (fun x => [sls 1 (fun n => [I n]) x]) l)), (3, .os n 1 0 l.length), (4, I k)]) (fun k => upd h n (.row 1 (fillUp (fun x => [sls 1 (fun n => [I n]) x]) [.nilsl] l k))) (fun k => k ≤ l.length) (fun k => l.length - k) 0 (by simp [SatL, tget, Heap.le_refl, fillUp_zero]) ?_
  intro k hk
  rcases Nat.lt_or_ge k l.length with hlt | hge
  · have ea : l[k]? = some l[k] := List.getElem?_eq_getElem hlt
    simp -dsimp -implicitDefEqProofs only [go_sem, ↓reduceIte, keep62, ib62, mk62, Tryz.f62, ea, fillUp_get _ _ _ _ hlt]
    refine fun _ => ⟨fun _ => ⟨hlt, ?_⟩, fun hn => absurd hlt hn⟩
    have hx := hc l[k] (List.getElem_mem hlt)
    refine HFnF.mk hx ?_
    simp -dsimp -implicitDefEqProofs only [go_sem, ↓reduceIte, keep62, ib62, mk62, Tryz.f62, fillUp_get _ _ _ _ hlt]
    refine ⟨hlt, k + 1, by rw [IntWalk.i64_in _ (by omega)]; rfl, ?_, by omega, by omega⟩
    exact le_fill hlt (by first | rfl | (simp only [List.map_cons, List.map_nil]))
  · have hk' : k = l.length := by omega
    subst hk'
    simp -dsimp -implicitDefEqProofs only [go_sem, ↓reduceIte, keep62, ib62, mk62, Tryz.f62, Nat.lt_irrefl]
    rw [fillUp_all]
    exact fun _ => shift_row _ hn (Heap.le_refl _) _ (by simp)

def keep20 : List Nat := [0, 1, 2, 3]
def ib20 : List Nat := [1]
def mk20 : Marks := fun _ => ([], .nil, [])
set_option maxRecDepth 100000 in
theorem to_Job (x : DJob) (hs : x.s ≤ 1048576) : Fn0 Tryz.prog 20 [.agg x.c] (.agg x.c) := by
  rw [DJob.s_eq] at hs
  simp only [DJob.c_eq]
  refine fn0S 23 keep20 ib20 mk20 mix Tryz.func20 rfl (by kernel_rfl) (by simp) fun h => ?_
  simp -dsimp -implicitDefEqProofs only [go_sem, Tryz.f20, ↓reduceIte, keep20, ib20, mk20]
  intro n2 h2 n3 h3
  have e1 : (n2 = n3) = False := eq_false fun e => h3.1 e.symm
  have e2 : (n3 = n2) = False := eq_false h3.1
  have hzfTerms : (x.fTerms).length + ((x.fTerms).map (fun x : List Int => x.length)).sum = (szs (fun x : List Int => x.length) x.fTerms) := rfl
  refine HFnF.mk (to_Program x.fProgram (by omega)) ?_
  simp -dsimp -implicitDefEqProofs only [go_sem, ↓reduceIte, keep20, ib20, mk20, Tryz.f20, upd_upd, upd_get, e1, e2, DProgram.c_eq]
  refine HFnF.mk (to_Int64S x.fPoint (by omega)) ?_
  simp -dsimp -implicitDefEqProofs only [go_sem, ↓reduceIte, keep20, ib20, mk20, Tryz.f20, upd_upd, upd_get, e1, e2]
  refine HFnF.mk (to_Int64SS x.fTerms (by omega) (fun y hy => to_Int64S y (by have hq : y.length ≤ ((x.fTerms).map (fun x : List Int => x.length)).sum := sum_mem (fun x : List Int => x.length) hy; omega))) ?_
  simp -dsimp -implicitDefEqProofs only [go_sem, ↓reduceIte, keep20, ib20, mk20, Tryz.f20, upd_upd, upd_get, e1, e2]
  exact shift_le (by simp -dsimp -implicitDefEqProofs only [go_sem, h2, h3, e1, e2, upd_get])


open Go.Proofs
set_option linter.unusedVariables false
set_option linter.unusedSimpArgs false
mutual
def DExpr.o : DExpr → List OV → Prop
  | .mk fKind fNum fPick fCount fKids, e => ∃ y, e = [.v (.int .i64 fKind), .v (.int .i64 fNum), .v (.int .i64 fPick), .v (.int .i64 fCount), y] ∧ ((y = .nil 5 ∧ fKids = []) ∨ ∃ n es, y = .sl n 5 es ∧ DExpr.oR fKids es)
def DExpr.oR : List DExpr → List (List OV) → Prop
  | [], [] => True
  | x :: l, e :: es => x.o e ∧ DExpr.oR l es
  | _, _ => False
end
theorem DExpr.oR_eq : ∀ (l : List DExpr) (es : List (List OV)), DExpr.oR l es = OR DExpr.o l es
  | [], [] => rfl
  | x :: l, e :: es => by rw [DExpr.oR, OR, DExpr.oR_eq l es]
  | [], _ :: _ => rfl
  | _ :: _, [] => rfl
theorem DExpr.o_iff (x : DExpr) (e : List OV) : x.o e ↔ ∃ y4, e = [.v (.int .i64 x.fKind), .v (.int .i64 x.fNum), .v (.int .i64 x.fPick), .v (.int .i64 x.fCount), y4] ∧ OS DExpr.o 5 x.fKids y4 := by
  cases x
  simp only [DExpr.o, DExpr.oR_eq, OS]
  rfl
mutual
theorem DExpr.o_dat : ∀ {x : DExpr} {e : List OV}, x.o e → e.map OV.dat = x.c
  | .mk fKind fNum fPick fCount fKids, e, h => by
    rw [DExpr.o_iff] at h
    obtain ⟨y, rfl, h⟩ := h
    have hk : y.dat = .sl 5 (fKids.map DExpr.c) false := by
      rcases h with ⟨rfl, h0⟩ | ⟨n, es, rfl, h⟩
      · have h1 : fKids = [] := h0
        subst h1; rfl
      · simp only [OV.dat]
        rw [DExpr.o_datR h]
        rfl
    rw [DExpr.c_eq]
    simp only [List.map_cons, List.map_nil, OV.dat, hk]
    rfl
theorem DExpr.o_datR : ∀ {l : List DExpr} {es : List (List OV)}, OR DExpr.o l es → OV.datRows es = l.map DExpr.c
  | [], [], _ => rfl
  | x :: l, e :: es, h => by rw [OV.datRows, DExpr.o_datR h.2, OV.datRow_map, DExpr.o_dat h.1]; rfl
  | [], _ :: _, h => h.elim
  | _ :: _, [], h => h.elim
end
def DFunc.o (x : DFunc) (e : List OV) : Prop := ∃ y2, e = [.v (.str x.fName), .v (.int .i64 x.fParams), y2] ∧ OS DExpr.o 5 x.fOuts y2
theorem DFunc.o_dat {x : DFunc} {e : List OV} (h : x.o e) : e.map OV.dat = x.c := by
  obtain ⟨y2, rfl, o2⟩ := h
  have d2 := OS.dat (c := DExpr.c) (fun _ _ q => DExpr.o_dat q) o2
  rw [DFunc.c_eq]
  simp only [List.map_cons, List.map_nil, OV.dat, d2]
def DProgram.o (x : DProgram) (e : List OV) : Prop := ∃ y0, e = [y0] ∧ OS DFunc.o 3 x.fFuncs y0
theorem DProgram.o_dat {x : DProgram} {e : List OV} (h : x.o e) : e.map OV.dat = x.c := by
  obtain ⟨y0, rfl, o0⟩ := h
  have d0 := OS.dat (c := DFunc.c) (fun _ _ q => DFunc.o_dat q) o0
  rw [DProgram.c_eq]
  simp only [List.map_cons, List.map_nil, OV.dat, d0]
def DJob.o (x : DJob) (e : List OV) : Prop := ∃ y0 y3 y4, e = [y0, .v (.int .i64 x.fFunc), .v (.int .i64 x.fShared), y3, y4] ∧ OS DFunc.o 3 x.fProgram.fFuncs y0 ∧ OS (oP I) 1 x.fPoint y3 ∧ OS (oS (oP I) 1) 1 x.fTerms y4
theorem DJob.o_dat {x : DJob} {e : List OV} (h : x.o e) : e.map OV.dat = x.c := by
  obtain ⟨y0, y3, y4, rfl, o0, o3, o4⟩ := h
  have d0 := OS.dat (c := DFunc.c) (fun _ _ q => DFunc.o_dat q) o0
  have d3 := OS.dat (c := (fun n => [I n])) (fun _ _ q => oP_dat q) o3
  have d4 := OS.dat (c := (fun x => [sls 1 (fun n => [I n]) x])) (fun _ _ q => oS_dat (c := (fun n => [I n])) (fun _ _ q => oP_dat q) q) o4
  rw [DJob.c_eq]
  simp only [List.map_cons, List.map_nil, OV.dat, d0, d3, d4]
def DPart.o (x : DPart) (e : List OV) : Prop := ∃ y2, e = [.v (.int .i64 x.fCode), .v (.int .i64 x.fValue), y2] ∧ OS (oP I) 1 x.fGrad y2
theorem DPart.o_dat {x : DPart} {e : List OV} (h : x.o e) : e.map OV.dat = x.c := by
  obtain ⟨y2, rfl, o2⟩ := h
  have d2 := OS.dat (c := (fun n => [I n])) (fun _ _ q => oP_dat q) o2
  rw [DPart.c_eq]
  simp only [List.map_cons, List.map_nil, OV.dat, d2]
def DService.o (x : DService) (e : List OV) : Prop := ∃ y0 y3 y4 y5 y6 y7 y8, e = [y0, .v (.int .i64 x.fJob.fFunc), .v (.int .i64 x.fJob.fShared), y3, y4, y5, y6, y7, y8] ∧ OS DFunc.o 3 x.fJob.fProgram.fFuncs y0 ∧ OS (oP I) 1 x.fJob.fPoint y3 ∧ OS (oS (oP I) 1) 1 x.fJob.fTerms y4 ∧ OS (oP I) 1 x.fStamps y5 ∧ OS (oP HVal.bool) 1 x.fKnown y6 ∧ OS DPart.o 3 x.fParts y7 ∧ OS (oP I) 1 x.fOwners y8
theorem DService.o_dat {x : DService} {e : List OV} (h : x.o e) : e.map OV.dat = x.c := by
  obtain ⟨y0, y3, y4, y5, y6, y7, y8, rfl, o0, o3, o4, o5, o6, o7, o8⟩ := h
  have d0 := OS.dat (c := DFunc.c) (fun _ _ q => DFunc.o_dat q) o0
  have d3 := OS.dat (c := (fun n => [I n])) (fun _ _ q => oP_dat q) o3
  have d4 := OS.dat (c := (fun x => [sls 1 (fun n => [I n]) x])) (fun _ _ q => oS_dat (c := (fun n => [I n])) (fun _ _ q => oP_dat q) q) o4
  have d5 := OS.dat (c := (fun n => [I n])) (fun _ _ q => oP_dat q) o5
  have d6 := OS.dat (c := (fun b => [.bool b])) (fun _ _ q => oP_dat q) o6
  have d7 := OS.dat (c := DPart.c) (fun _ _ q => DPart.o_dat q) o7
  have d8 := OS.dat (c := (fun n => [I n])) (fun _ _ q => oP_dat q) o8
  rw [DService.c_eq]
  simp only [List.map_cons, List.map_nil, OV.dat, d0, d3, d4, d5, d6, d7, d8]
def DReport.o (x : DReport) (e : List OV) : Prop := ∃ y4, e = [.v (.int .i64 x.fTerm), .v (.int .i64 x.fStamp), .v (.int .i64 x.fPart.fCode), .v (.int .i64 x.fPart.fValue), y4] ∧ OS (oP I) 1 x.fPart.fGrad y4
theorem DReport.o_dat {x : DReport} {e : List OV} (h : x.o e) : e.map OV.dat = x.c := by
  obtain ⟨y4, rfl, o4⟩ := h
  have d4 := OS.dat (c := (fun n => [I n])) (fun _ _ q => oP_dat q) o4
  rw [DReport.c_eq]
  simp only [List.map_cons, List.map_nil, OV.dat, d4]
def DNet.o (x : DNet) (e : List OV) : Prop := ∃ y0 y3 y4 y5 y8 y9 y10 y11 y12 y13 y16 y17, e = [y0, .v (.int .i64 x.fStart.fFunc), .v (.int .i64 x.fStart.fShared), y3, y4, y5, .v (.int .i64 x.fService.fJob.fFunc), .v (.int .i64 x.fService.fJob.fShared), y8, y9, y10, y11, y12, y13, .v (.str x.fJournal), .v (.int .i64 x.fSafe), y16, y17] ∧ OS DFunc.o 3 x.fStart.fProgram.fFuncs y0 ∧ OS (oP I) 1 x.fStart.fPoint y3 ∧ OS (oS (oP I) 1) 1 x.fStart.fTerms y4 ∧ OS DFunc.o 3 x.fService.fJob.fProgram.fFuncs y5 ∧ OS (oP I) 1 x.fService.fJob.fPoint y8 ∧ OS (oS (oP I) 1) 1 x.fService.fJob.fTerms y9 ∧ OS (oP I) 1 x.fService.fStamps y10 ∧ OS (oP HVal.bool) 1 x.fService.fKnown y11 ∧ OS DPart.o 3 x.fService.fParts y12 ∧ OS (oP I) 1 x.fService.fOwners y13 ∧ OS (oS DReport.o 5) 1 x.fQueues y16 ∧ OS DReport.o 5 x.fFlying y17
theorem DNet.o_dat {x : DNet} {e : List OV} (h : x.o e) : e.map OV.dat = x.c := by
  obtain ⟨y0, y3, y4, y5, y8, y9, y10, y11, y12, y13, y16, y17, rfl, o0, o3, o4, o5, o8, o9, o10, o11, o12, o13, o16, o17⟩ := h
  have d0 := OS.dat (c := DFunc.c) (fun _ _ q => DFunc.o_dat q) o0
  have d3 := OS.dat (c := (fun n => [I n])) (fun _ _ q => oP_dat q) o3
  have d4 := OS.dat (c := (fun x => [sls 1 (fun n => [I n]) x])) (fun _ _ q => oS_dat (c := (fun n => [I n])) (fun _ _ q => oP_dat q) q) o4
  have d5 := OS.dat (c := DFunc.c) (fun _ _ q => DFunc.o_dat q) o5
  have d8 := OS.dat (c := (fun n => [I n])) (fun _ _ q => oP_dat q) o8
  have d9 := OS.dat (c := (fun x => [sls 1 (fun n => [I n]) x])) (fun _ _ q => oS_dat (c := (fun n => [I n])) (fun _ _ q => oP_dat q) q) o9
  have d10 := OS.dat (c := (fun n => [I n])) (fun _ _ q => oP_dat q) o10
  have d11 := OS.dat (c := (fun b => [.bool b])) (fun _ _ q => oP_dat q) o11
  have d12 := OS.dat (c := DPart.c) (fun _ _ q => DPart.o_dat q) o12
  have d13 := OS.dat (c := (fun n => [I n])) (fun _ _ q => oP_dat q) o13
  have d16 := OS.dat (c := (fun x => [sls 5 DReport.c x])) (fun _ _ q => oS_dat (c := DReport.c) (fun _ _ q => DReport.o_dat q) q) o16
  have d17 := OS.dat (c := DReport.c) (fun _ _ q => DReport.o_dat q) o17
  rw [DNet.c_eq]
  simp only [List.map_cons, List.map_nil, OV.dat, d0, d3, d4, d5, d8, d9, d10, d11, d12, d13, d16, d17]

theorem DExpr.o_sol (x : DExpr) (e : List OV) (h : x.o e) : OV.solRow e = true := by
  rw [DExpr.o_iff] at h
  obtain ⟨y4, rfl, o4⟩ := h
  have d4 := OS.solm (fun z hz e q => DExpr.o_sol z e q) o4
  simp [OV.solRow, OV.sol, HVal.solid, d4]
termination_by SizeOf.sizeOf x
decreasing_by exact DExpr.kid_lt hz
theorem DExpr.o_ct (x : DExpr) (e : List OV) (h : x.o e) : OV.ctRow e ≤ 16 * (1 + x.s) := by
  rw [DExpr.o_iff] at h
  obtain ⟨y4, rfl, o4⟩ := h
  have d4 := OS.cts (s := DExpr.s) o4 (fun z hz e q => DExpr.o_ct z e q)
  have s0 := DExpr.s_eq x
  clear o4
  simp only [OV.ctRow, OV.ct_v]
  refine Nat.le_trans (Nat.add_le_add (Nat.le_refl 1) (Nat.add_le_add (Nat.le_refl 1) (Nat.add_le_add (Nat.le_refl 1) (Nat.add_le_add (Nat.le_refl 1) (Nat.add_le_add d4 (Nat.le_refl 0)))))) ?_
  clear d4
  try generalize (szs DExpr.s x.fKids) = z4 at *
  omega
termination_by SizeOf.sizeOf x
decreasing_by exact DExpr.kid_lt hz
theorem DExpr.o_top (x : DExpr) (e : List OV) (h : x.o e) : OV.ctTop e ≤ 16 * (1 + x.s) := by
  have h1 := DExpr.o_ct x e h
  have h2 : ∀ e : List OV, OV.ctTop e ≤ OV.ctRow e := fun e => by
    induction e with
    | nil => simp [OV.ctTop]
    | cons a e ih => rw [OV.ctTop, OV.ctRow]; cases a <;> simp [OV.ctT] <;> omega
  exact Nat.le_trans (h2 e) h1
theorem DFunc.o_sol (x : DFunc) (e : List OV) (h : x.o e) : OV.solRow e = true := by
  obtain ⟨y2, rfl, o2⟩ := h
  have d2 := OS.solm (fun z hz e q => DExpr.o_sol z e q) o2
  simp [OV.solRow, OV.sol, HVal.solid, d2]
theorem DFunc.o_ct (x : DFunc) (e : List OV) (h : x.o e) : OV.ctRow e ≤ 16 * (1 + x.s) := by
  obtain ⟨y2, rfl, o2⟩ := h
  have d2 := OS.cts (s := DExpr.s) o2 (fun z hz e q => DExpr.o_ct z e q)
  have s0 := DFunc.s_eq x
  clear o2
  simp only [OV.ctRow, OV.ct_v]
  refine Nat.le_trans (Nat.add_le_add (Nat.le_refl 1) (Nat.add_le_add (Nat.le_refl 1) (Nat.add_le_add d2 (Nat.le_refl 0)))) ?_
  clear d2
  try generalize (szs DExpr.s x.fOuts) = z2 at *
  omega
theorem DFunc.o_top (x : DFunc) (e : List OV) (h : x.o e) : OV.ctTop e ≤ 16 * (1 + x.s) := by
  have h1 := DFunc.o_ct x e h
  have h2 : ∀ e : List OV, OV.ctTop e ≤ OV.ctRow e := fun e => by
    induction e with
    | nil => simp [OV.ctTop]
    | cons a e ih => rw [OV.ctTop, OV.ctRow]; cases a <;> simp [OV.ctT] <;> omega
  exact Nat.le_trans (h2 e) h1
theorem DProgram.o_sol (x : DProgram) (e : List OV) (h : x.o e) : OV.solRow e = true := by
  obtain ⟨y0, rfl, o0⟩ := h
  have d0 := OS.solm (fun z hz e q => DFunc.o_sol z e q) o0
  simp [OV.solRow, OV.sol, HVal.solid, d0]
theorem DProgram.o_ct (x : DProgram) (e : List OV) (h : x.o e) : OV.ctRow e ≤ 16 * (1 + x.s) := by
  obtain ⟨y0, rfl, o0⟩ := h
  have d0 := OS.cts (s := DFunc.s) o0 (fun z hz e q => DFunc.o_ct z e q)
  have s0 := DProgram.s_eq x
  clear o0
  simp only [OV.ctRow, OV.ct_v]
  refine Nat.le_trans (Nat.add_le_add d0 (Nat.le_refl 0)) ?_
  clear d0
  try generalize (szs DFunc.s x.fFuncs) = z0 at *
  omega
theorem DProgram.o_top (x : DProgram) (e : List OV) (h : x.o e) : OV.ctTop e ≤ 16 * (1 + x.s) := by
  have h1 := DProgram.o_ct x e h
  have h2 : ∀ e : List OV, OV.ctTop e ≤ OV.ctRow e := fun e => by
    induction e with
    | nil => simp [OV.ctTop]
    | cons a e ih => rw [OV.ctTop, OV.ctRow]; cases a <;> simp [OV.ctT] <;> omega
  exact Nat.le_trans (h2 e) h1
theorem DJob.o_sol (x : DJob) (e : List OV) (h : x.o e) : OV.solRow e = true := by
  obtain ⟨y0, y3, y4, rfl, o0, o3, o4⟩ := h
  have d0 := OS.solm (fun z hz e q => DFunc.o_sol z e q) o0
  have d3 := OS.solm (fun _ _ _ q => oP_sol (fun _ => rfl) q) o3
  have d4 := OS.solm (fun z hz e q => oS_solm (fun _ _ _ q => oP_sol (fun _ => rfl) q) q) o4
  simp [OV.solRow, OV.sol, HVal.solid, d0, d3, d4]
theorem DJob.o_ct (x : DJob) (e : List OV) (h : x.o e) : OV.ctRow e ≤ 16 * (1 + x.s) := by
  obtain ⟨y0, y3, y4, rfl, o0, o3, o4⟩ := h
  have d0 := OS.cts (s := DFunc.s) o0 (fun z hz e q => DFunc.o_ct z e q)
  have d3 := o3.ctP
  have d4 := OS.cts (s := (fun x : List Int => x.length)) o4 (fun z hz e q => oS_ctP q)
  have s0 := DJob.s_eq x
  have s1 := DProgram.s_eq (x.fProgram)
  clear o0 o3 o4
  simp only [OV.ctRow, OV.ct_v]
  refine Nat.le_trans (Nat.add_le_add d0 (Nat.add_le_add (Nat.le_refl 1) (Nat.add_le_add (Nat.le_refl 1) (Nat.add_le_add d3 (Nat.add_le_add d4 (Nat.le_refl 0)))))) ?_
  clear d0
  clear d3
  clear d4
  try generalize (szs DFunc.s x.fProgram.fFuncs) = z0 at *
  try generalize x.fPoint.length = z3 at *
  try generalize (szs (fun x : List Int => x.length) x.fTerms) = z4 at *
  omega
theorem DJob.o_top (x : DJob) (e : List OV) (h : x.o e) : OV.ctTop e ≤ 16 * (1 + x.s) := by
  have h1 := DJob.o_ct x e h
  have h2 : ∀ e : List OV, OV.ctTop e ≤ OV.ctRow e := fun e => by
    induction e with
    | nil => simp [OV.ctTop]
    | cons a e ih => rw [OV.ctTop, OV.ctRow]; cases a <;> simp [OV.ctT] <;> omega
  exact Nat.le_trans (h2 e) h1
theorem DPart.o_sol (x : DPart) (e : List OV) (h : x.o e) : OV.solRow e = true := by
  obtain ⟨y2, rfl, o2⟩ := h
  have d2 := OS.solm (fun _ _ _ q => oP_sol (fun _ => rfl) q) o2
  simp [OV.solRow, OV.sol, HVal.solid, d2]
theorem DPart.o_ct (x : DPart) (e : List OV) (h : x.o e) : OV.ctRow e ≤ 16 * (1 + x.s) := by
  obtain ⟨y2, rfl, o2⟩ := h
  have d2 := o2.ctP
  have s0 := DPart.s_eq x
  clear o2
  simp only [OV.ctRow, OV.ct_v]
  refine Nat.le_trans (Nat.add_le_add (Nat.le_refl 1) (Nat.add_le_add (Nat.le_refl 1) (Nat.add_le_add d2 (Nat.le_refl 0)))) ?_
  clear d2
  try generalize x.fGrad.length = z2 at *
  omega
theorem DPart.o_top (x : DPart) (e : List OV) (h : x.o e) : OV.ctTop e ≤ 16 * (1 + x.s) := by
  have h1 := DPart.o_ct x e h
  have h2 : ∀ e : List OV, OV.ctTop e ≤ OV.ctRow e := fun e => by
    induction e with
    | nil => simp [OV.ctTop]
    | cons a e ih => rw [OV.ctTop, OV.ctRow]; cases a <;> simp [OV.ctT] <;> omega
  exact Nat.le_trans (h2 e) h1
theorem DService.o_sol (x : DService) (e : List OV) (h : x.o e) : OV.solRow e = true := by
  obtain ⟨y0, y3, y4, y5, y6, y7, y8, rfl, o0, o3, o4, o5, o6, o7, o8⟩ := h
  have d0 := OS.solm (fun z hz e q => DFunc.o_sol z e q) o0
  have d3 := OS.solm (fun _ _ _ q => oP_sol (fun _ => rfl) q) o3
  have d4 := OS.solm (fun z hz e q => oS_solm (fun _ _ _ q => oP_sol (fun _ => rfl) q) q) o4
  have d5 := OS.solm (fun _ _ _ q => oP_sol (fun _ => rfl) q) o5
  have d6 := OS.solm (fun _ _ _ q => oP_sol (fun _ => rfl) q) o6
  have d7 := OS.solm (fun z hz e q => DPart.o_sol z e q) o7
  have d8 := OS.solm (fun _ _ _ q => oP_sol (fun _ => rfl) q) o8
  simp [OV.solRow, OV.sol, HVal.solid, d0, d3, d4, d5, d6, d7, d8]
theorem DService.o_ct (x : DService) (e : List OV) (h : x.o e) : OV.ctRow e ≤ 16 * (1 + x.s) := by
  obtain ⟨y0, y3, y4, y5, y6, y7, y8, rfl, o0, o3, o4, o5, o6, o7, o8⟩ := h
  have d0 := OS.cts (s := DFunc.s) o0 (fun z hz e q => DFunc.o_ct z e q)
  have d3 := o3.ctP
  have d4 := OS.cts (s := (fun x : List Int => x.length)) o4 (fun z hz e q => oS_ctP q)
  have d5 := o5.ctP
  have d6 := o6.ctP
  have d7 := OS.cts (s := DPart.s) o7 (fun z hz e q => DPart.o_ct z e q)
  have d8 := o8.ctP
  have s0 := DService.s_eq x
  have s1 := DJob.s_eq (x.fJob)
  have s2 := DProgram.s_eq (x.fJob.fProgram)
  clear o0 o3 o4 o5 o6 o7 o8
  simp only [OV.ctRow, OV.ct_v]
  refine Nat.le_trans (Nat.add_le_add d0 (Nat.add_le_add (Nat.le_refl 1) (Nat.add_le_add (Nat.le_refl 1) (Nat.add_le_add d3 (Nat.add_le_add d4 (Nat.add_le_add d5 (Nat.add_le_add d6 (Nat.add_le_add d7 (Nat.add_le_add d8 (Nat.le_refl 0)))))))))) ?_
  clear d0
  clear d3
  clear d4
  clear d5
  clear d6
  clear d7
  clear d8
  try generalize (szs DFunc.s x.fJob.fProgram.fFuncs) = z0 at *
  try generalize x.fJob.fPoint.length = z3 at *
  try generalize (szs (fun x : List Int => x.length) x.fJob.fTerms) = z4 at *
  try generalize x.fStamps.length = z5 at *
  try generalize x.fKnown.length = z6 at *
  try generalize (szs DPart.s x.fParts) = z7 at *
  try generalize x.fOwners.length = z8 at *
  omega
theorem DService.o_top (x : DService) (e : List OV) (h : x.o e) : OV.ctTop e ≤ 16 * (1 + x.s) := by
  have h1 := DService.o_ct x e h
  have h2 : ∀ e : List OV, OV.ctTop e ≤ OV.ctRow e := fun e => by
    induction e with
    | nil => simp [OV.ctTop]
    | cons a e ih => rw [OV.ctTop, OV.ctRow]; cases a <;> simp [OV.ctT] <;> omega
  exact Nat.le_trans (h2 e) h1
theorem DReport.o_sol (x : DReport) (e : List OV) (h : x.o e) : OV.solRow e = true := by
  obtain ⟨y4, rfl, o4⟩ := h
  have d4 := OS.solm (fun _ _ _ q => oP_sol (fun _ => rfl) q) o4
  simp [OV.solRow, OV.sol, HVal.solid, d4]
theorem DReport.o_ct (x : DReport) (e : List OV) (h : x.o e) : OV.ctRow e ≤ 16 * (1 + x.s) := by
  obtain ⟨y4, rfl, o4⟩ := h
  have d4 := o4.ctP
  have s0 := DReport.s_eq x
  have s1 := DPart.s_eq (x.fPart)
  clear o4
  simp only [OV.ctRow, OV.ct_v]
  refine Nat.le_trans (Nat.add_le_add (Nat.le_refl 1) (Nat.add_le_add (Nat.le_refl 1) (Nat.add_le_add (Nat.le_refl 1) (Nat.add_le_add (Nat.le_refl 1) (Nat.add_le_add d4 (Nat.le_refl 0)))))) ?_
  clear d4
  try generalize x.fPart.fGrad.length = z4 at *
  omega
theorem DReport.o_top (x : DReport) (e : List OV) (h : x.o e) : OV.ctTop e ≤ 16 * (1 + x.s) := by
  have h1 := DReport.o_ct x e h
  have h2 : ∀ e : List OV, OV.ctTop e ≤ OV.ctRow e := fun e => by
    induction e with
    | nil => simp [OV.ctTop]
    | cons a e ih => rw [OV.ctTop, OV.ctRow]; cases a <;> simp [OV.ctT] <;> omega
  exact Nat.le_trans (h2 e) h1
theorem DNet.o_sol (x : DNet) (e : List OV) (h : x.o e) : OV.solRow e = true := by
  obtain ⟨y0, y3, y4, y5, y8, y9, y10, y11, y12, y13, y16, y17, rfl, o0, o3, o4, o5, o8, o9, o10, o11, o12, o13, o16, o17⟩ := h
  have d0 := OS.solm (fun z hz e q => DFunc.o_sol z e q) o0
  have d3 := OS.solm (fun _ _ _ q => oP_sol (fun _ => rfl) q) o3
  have d4 := OS.solm (fun z hz e q => oS_solm (fun _ _ _ q => oP_sol (fun _ => rfl) q) q) o4
  have d5 := OS.solm (fun z hz e q => DFunc.o_sol z e q) o5
  have d8 := OS.solm (fun _ _ _ q => oP_sol (fun _ => rfl) q) o8
  have d9 := OS.solm (fun z hz e q => oS_solm (fun _ _ _ q => oP_sol (fun _ => rfl) q) q) o9
  have d10 := OS.solm (fun _ _ _ q => oP_sol (fun _ => rfl) q) o10
  have d11 := OS.solm (fun _ _ _ q => oP_sol (fun _ => rfl) q) o11
  have d12 := OS.solm (fun z hz e q => DPart.o_sol z e q) o12
  have d13 := OS.solm (fun _ _ _ q => oP_sol (fun _ => rfl) q) o13
  have d16 := OS.solm (fun z hz e q => oS_solm (fun z hz e q => DReport.o_sol z e q) q) o16
  have d17 := OS.solm (fun z hz e q => DReport.o_sol z e q) o17
  simp [OV.solRow, OV.sol, HVal.solid, d0, d3, d4, d5, d8, d9, d10, d11, d12, d13, d16, d17]
theorem DNet.o_ct (x : DNet) (e : List OV) (h : x.o e) : OV.ctRow e ≤ 16 * (1 + x.s) := by
  obtain ⟨y0, y3, y4, y5, y8, y9, y10, y11, y12, y13, y16, y17, rfl, o0, o3, o4, o5, o8, o9, o10, o11, o12, o13, o16, o17⟩ := h
  have d0 := OS.cts (s := DFunc.s) o0 (fun z hz e q => DFunc.o_ct z e q)
  have d3 := o3.ctP
  have d4 := OS.cts (s := (fun x : List Int => x.length)) o4 (fun z hz e q => oS_ctP q)
  have d5 := OS.cts (s := DFunc.s) o5 (fun z hz e q => DFunc.o_ct z e q)
  have d8 := o8.ctP
  have d9 := OS.cts (s := (fun x : List Int => x.length)) o9 (fun z hz e q => oS_ctP q)
  have d10 := o10.ctP
  have d11 := o11.ctP
  have d12 := OS.cts (s := DPart.s) o12 (fun z hz e q => DPart.o_ct z e q)
  have d13 := o13.ctP
  have d16 := OS.cts (s := (fun x => szs DReport.s x)) o16 (fun z hz e q => oS_ct (s := DReport.s) q (fun z hz e q => DReport.o_ct z e q))
  have d17 := OS.cts (s := DReport.s) o17 (fun z hz e q => DReport.o_ct z e q)
  have s0 := DNet.s_eq x
  have s1 := DJob.s_eq (x.fStart)
  have s2 := DProgram.s_eq (x.fStart.fProgram)
  have s3 := DService.s_eq (x.fService)
  have s4 := DJob.s_eq (x.fService.fJob)
  have s5 := DProgram.s_eq (x.fService.fJob.fProgram)
  clear o0 o3 o4 o5 o8 o9 o10 o11 o12 o13 o16 o17
  simp only [OV.ctRow, OV.ct_v]
  refine Nat.le_trans (Nat.add_le_add d0 (Nat.add_le_add (Nat.le_refl 1) (Nat.add_le_add (Nat.le_refl 1) (Nat.add_le_add d3 (Nat.add_le_add d4 (Nat.add_le_add d5 (Nat.add_le_add (Nat.le_refl 1) (Nat.add_le_add (Nat.le_refl 1) (Nat.add_le_add d8 (Nat.add_le_add d9 (Nat.add_le_add d10 (Nat.add_le_add d11 (Nat.add_le_add d12 (Nat.add_le_add d13 (Nat.add_le_add (Nat.le_refl 1) (Nat.add_le_add (Nat.le_refl 1) (Nat.add_le_add d16 (Nat.add_le_add d17 (Nat.le_refl 0))))))))))))))))))) ?_
  clear d0
  clear d3
  clear d4
  clear d5
  clear d8
  clear d9
  clear d10
  clear d11
  clear d12
  clear d13
  clear d16
  clear d17
  try generalize (szs DFunc.s x.fStart.fProgram.fFuncs) = z0 at *
  try generalize x.fStart.fPoint.length = z3 at *
  try generalize (szs (fun x : List Int => x.length) x.fStart.fTerms) = z4 at *
  try generalize (szs DFunc.s x.fService.fJob.fProgram.fFuncs) = z5 at *
  try generalize x.fService.fJob.fPoint.length = z8 at *
  try generalize (szs (fun x : List Int => x.length) x.fService.fJob.fTerms) = z9 at *
  try generalize x.fService.fStamps.length = z10 at *
  try generalize x.fService.fKnown.length = z11 at *
  try generalize (szs DPart.s x.fService.fParts) = z12 at *
  try generalize x.fService.fOwners.length = z13 at *
  try generalize (szs (fun x => szs DReport.s x) x.fQueues) = z16 at *
  try generalize (szs DReport.s x.fFlying) = z17 at *
  omega
theorem DNet.o_top (x : DNet) (e : List OV) (h : x.o e) : OV.ctTop e ≤ 16 * (1 + x.s) := by
  have h1 := DNet.o_ct x e h
  have h2 : ∀ e : List OV, OV.ctTop e ≤ OV.ctRow e := fun e => by
    induction e with
    | nil => simp [OV.ctTop]
    | cons a e ih => rw [OV.ctTop, OV.ctRow]; cases a <;> simp [OV.ctT] <;> omega
  exact Nat.le_trans (h2 e) h1

open Go.Proofs
set_option linter.unusedVariables false
set_option linter.unusedSimpArgs false


set_option maxRecDepth 100000 in
theorem toO_ExprS (l : List DExpr) (h1 : l.length ≤ 1048576) (hc : ∀ x ∈ l, FnN Tryz.prog 160 [(.agg (DExpr.c x))] (QA x.o)) : FnN Tryz.prog 148 [(sls 5 DExpr.c l)] (QS (OS DExpr.o 5 l)) := by
  refine fnNF 23 keep148 ib148 mk148 mix Tryz.func148 rfl (by kernel_rfl) (by simp) fun h => ?_
  simp (maxSteps := 1000000) -dsimp -implicitDefEqProofs only [go_sem, ↓reduceIte, keep148, ib148, mk148, Tryz.f148]
  refine fun _ => ⟨by omega, by omega, by omega, by omega, fun n hn => ?_⟩
  refine loopF (keep := keep148) (ib := ib148) (mk := mk148) mix (by kernel_rfl) (fun x : Nat × List (List OV) × Heap => [(0, (sls 5 DExpr.c l)), (3, .os n 5 0 l.length), (4, I x.1)]) (fun x => upd x.2.2 n (.row 5 (OV.cells x.2.1 ++ (List.replicate (l.length - x.1) [.int .i64 0, .int .i64 0, .int .i64 0, .int .i64 0, .nilsl]).map (List.map .v)))) (fun x => x.1 ≤ l.length ∧ OR DExpr.o (l.take x.1) x.2.1 ∧ New h (OV.rowsRows x.2.1) x.2.2 ∧ x.2.2 n = none) (fun x => l.length - x.1) (0, [], h) (by
    exact ⟨by simp [SatL, tget], Heap.le_refl _, Nat.zero_le _, trivial, New.nil h, hn⟩) ?_
  rintro ⟨k, es, g⟩ ⟨hk, hor, hnew, hgn⟩
  have hlen : es.length = k := by have := hor.length; simp at this; omega
  rcases Nat.lt_or_ge k l.length with hlt | hge
  · have ea : l[k]? = some l[k] := List.getElem?_eq_getElem hlt
    have eg : ∀ m, m = l.length - k → (OV.cells es ++ (List.replicate m [.int .i64 0, .int .i64 0, .int .i64 0, .int .i64 0, .nilsl]).map (List.map Cell.v))[k]? = some ([.int .i64 0, .int .i64 0, .int .i64 0, .int .i64 0, .nilsl].map .v) := fun m hm => fill_get hlen (by omega)
    simp (maxSteps := 1000000) -dsimp -implicitDefEqProofs only [go_sem, ↓reduceIte, keep148, ib148, mk148, Tryz.f148, ea, DExpr.c_eq]
    refine fun _ => ⟨fun _ => ⟨hlt, ?_⟩, fun hn => absurd hlt hn⟩
    have hx := hc l[k] (List.getElem_mem hlt)
    simp only [DExpr.c_eq] at hx
    refine HFnF.nw1 hx hgn ?_
    rintro r l1 g1 ⟨e0, he0, rfl, rfl⟩ hn1 w1
    have he1 := he0
    rw [DExpr.o_iff] at he1
    obtain ⟨y_4, rfl, o_4⟩ := he1
    simp (maxSteps := 1000000) -dsimp -implicitDefEqProofs only [go_sem, ↓reduceIte, keep148, ib148, mk148, Tryz.f148, eg _ rfl, upd_upd, OV.map_val, OV.map_val_nil, OV.val_v, o_4.flat]
    refine ⟨hlt, (k + 1, es ++ [[.v (.int .i64 l[k].fKind), .v (.int .i64 l[k].fNum), .v (.int .i64 l[k].fPick), .v (.int .i64 l[k].fCount), y_4]], g1), ?_⟩
    simp only
    have hf := fill_set (z := [.int .i64 0, .int .i64 0, .int .i64 0, .int .i64 0, .nilsl]) [.v (.int .i64 l[k].fKind), .v (.int .i64 l[k].fNum), .v (.int .i64 l[k].fPick), .v (.int .i64 l[k].fCount), y_4] hlen (m := l.length - k) (by omega) [Cell.v (.int .i64 l[k].fKind), Cell.v (.int .i64 l[k].fNum), Cell.v (.int .i64 l[k].fPick), Cell.v (.int .i64 l[k].fCount), Cell.v y_4.val] rfl
    rw [hf, show l.length - k - 1 = l.length - (k + 1) by omega]
    refine ⟨by rw [IntWalk.i64_in _ (by omega)]; rfl, Heap.le_refl _, ⟨by omega, ?_, ?_, w1⟩, by omega⟩
    · rw [List.take_succ_eq_append_getElem hlt]
      exact OR.append hor ⟨he0, trivial⟩
    · rw [rowsRows_snoc]
      exact hnew.append hn1
  · have hk' : k = l.length := by omega
    subst hk'
    simp (maxSteps := 1000000) -dsimp -implicitDefEqProofs only [go_sem, ↓reduceIte, keep148, ib148, mk148, Tryz.f148, Nat.lt_irrefl]
    refine fun _ => ⟨_, _, _, shift_self _ _, ⟨.sl n 5 es, OS.mk (by simpa using hor), by simp [OV.val, hlen, tget], rfl⟩, ?_⟩
    rw [OV.sl_rows]
    simpa using hnew.row hgn

set_option maxRecDepth 100000 in
theorem toO_Expr_step (x : DExpr) (hs : x.s ≤ 1048576) (hk : FnN Tryz.prog 148 [(sls 5 DExpr.c x.fKids)] (QS (OS DExpr.o 5 x.fKids))) : FnN Tryz.prog 160 [.agg x.c] (QA x.o) := by
  rw [DExpr.s_eq] at hs
  simp only [DExpr.c_eq]
  refine fnNF 21 keep160 ib160 mk160 mix Tryz.func160 rfl (by kernel_rfl) (by simp) fun h => ?_
  simp (maxSteps := 1000000) -dsimp -implicitDefEqProofs only [go_sem, ↓reduceIte, keep160, ib160, mk160, Tryz.f160, upd_upd]
  intro n2 a0 n3 b0
  have e1 : (n2 = n3) = False := eq_false fun e => b0.1 e.symm
  have e2 : (n3 = n2) = False := eq_false b0.1
  have w0 := New.nil h
  have hb0 := b0.2
  have hzfKids : (x.fKids).length + ((x.fKids).map DExpr.s).sum = (szs DExpr.s x.fKids) := rfl
  refine HFnF.nw2 hk a0 ⟨b0.1, hb0⟩ ?_
  rintro r l1 g1 ⟨y1, o1, rfl, rfl⟩ w1 a1 hb1
  simp (maxSteps := 1000000) -dsimp -implicitDefEqProofs only [go_sem, ↓reduceIte, keep160, ib160, mk160, Tryz.f160, upd_upd, upd_get, e1, e2, OV.map_val, OV.map_val_nil, OV.val_v, o1.flat, o1.one]
  have w1t := w0.append w1
  refine ⟨_, g1, _, Shift.of (Sub.refl _) ?_, ⟨[.v (.int .i64 x.fKind), .v (.int .i64 x.fNum), .v (.int .i64 x.fPick), .v (.int .i64 x.fCount), y1], ?_, rfl, rfl⟩, ?_⟩
  · exact le_base1 a1 (le_base1 hb1 (le_base1 a1 (Heap.le_refl _)))
  · rw [DExpr.o_iff]; exact ⟨y1, rfl, o1⟩
  · simpa only [OV.row_cons, OV.row_nil, OV.v_rows, List.nil_append, List.append_nil, List.append_assoc] using w1t
theorem toO_Expr (x : DExpr) (hs : x.s ≤ 1048576) : FnN Tryz.prog 160 [.agg x.c] (QA x.o) :=
  toO_Expr_step x hs (toO_ExprS x.fKids (by rw [DExpr.s_eq] at hs; rw [szs_eq] at hs; omega) fun y hy => toO_Expr y (by rw [DExpr.s_eq] at hs; have := sum_mem DExpr.s hy; rw [szs_eq] at hs; omega))
termination_by SizeOf.sizeOf x
decreasing_by exact DExpr.kid_lt hy

set_option maxRecDepth 100000 in
theorem toO_Func (x : DFunc) (hs : x.s ≤ 1048576) : FnN Tryz.prog 134 [.agg x.c] (QA x.o) := by
  rw [DFunc.s_eq] at hs
  simp only [DFunc.c_eq]
  refine fnNF 15 keep134 ib134 mk134 mix Tryz.func134 rfl (by kernel_rfl) (by simp) fun h => ?_
  simp (maxSteps := 1000000) -dsimp -implicitDefEqProofs only [go_sem, ↓reduceIte, keep134, ib134, mk134, Tryz.f134, upd_upd]
  intro n2 a0 n3 b0
  have e1 : (n2 = n3) = False := eq_false fun e => b0.1 e.symm
  have e2 : (n3 = n2) = False := eq_false b0.1
  have w0 := New.nil h
  have hb0 := b0.2
  have hzfOuts : (x.fOuts).length + ((x.fOuts).map DExpr.s).sum = (szs DExpr.s x.fOuts) := rfl
  refine HFnF.nw2 (toO_ExprS x.fOuts (by omega) (fun y hy => toO_Expr y (by have hq : (DExpr.s y) ≤ ((x.fOuts).map DExpr.s).sum := sum_mem DExpr.s hy; omega))) a0 ⟨b0.1, hb0⟩ ?_
  rintro r l1 g1 ⟨y1, o1, rfl, rfl⟩ w1 a1 hb1
  simp (maxSteps := 1000000) -dsimp -implicitDefEqProofs only [go_sem, ↓reduceIte, keep134, ib134, mk134, Tryz.f134, upd_upd, upd_get, e1, e2, OV.map_val, OV.map_val_nil, OV.val_v, o1.flat, o1.one]
  have w1t := w0.append w1
  refine ⟨_, g1, _, Shift.of (Sub.refl _) ?_, ⟨[.v (.str x.fName), .v (.int .i64 x.fParams), y1], ?_, rfl, rfl⟩, ?_⟩
  · exact le_base1 a1 (le_base1 hb1 (le_base1 a1 (Heap.le_refl _)))
  · exact ⟨y1, rfl, o1⟩
  · simpa only [OV.row_cons, OV.row_nil, OV.v_rows, List.nil_append, List.append_nil, List.append_assoc] using w1t

set_option maxRecDepth 100000 in
theorem toO_FuncS (l : List DFunc) (h1 : l.length ≤ 1048576) (hc : ∀ x ∈ l, FnN Tryz.prog 134 [(.agg (DFunc.c x))] (QA x.o)) : FnN Tryz.prog 110 [(sls 3 DFunc.c l)] (QS (OS DFunc.o 3 l)) := by
  refine fnNF 23 keep110 ib110 mk110 mix Tryz.func110 rfl (by kernel_rfl) (by simp) fun h => ?_
  simp (maxSteps := 1000000) -dsimp -implicitDefEqProofs only [go_sem, ↓reduceIte, keep110, ib110, mk110, Tryz.f110]
  refine fun _ => ⟨by omega, by omega, by omega, by omega, fun n hn => ?_⟩
  refine loopF (keep := keep110) (ib := ib110) (mk := mk110) mix (by kernel_rfl) (fun x : Nat × List (List OV) × Heap => [(0, (sls 3 DFunc.c l)), (3, .os n 3 0 l.length), (4, I x.1)]) (fun x => upd x.2.2 n (.row 3 (OV.cells x.2.1 ++ (List.replicate (l.length - x.1) [.str [], .int .i64 0, .nilsl]).map (List.map .v)))) (fun x => x.1 ≤ l.length ∧ OR DFunc.o (l.take x.1) x.2.1 ∧ New h (OV.rowsRows x.2.1) x.2.2 ∧ x.2.2 n = none) (fun x => l.length - x.1) (0, [], h) (by
    exact ⟨by simp [SatL, tget], Heap.le_refl _, Nat.zero_le _, trivial, New.nil h, hn⟩) ?_
  rintro ⟨k, es, g⟩ ⟨hk, hor, hnew, hgn⟩
  have hlen : es.length = k := by have := hor.length; simp at this; omega
  rcases Nat.lt_or_ge k l.length with hlt | hge
  · have ea : l[k]? = some l[k] := List.getElem?_eq_getElem hlt
    have eg : ∀ m, m = l.length - k → (OV.cells es ++ (List.replicate m [.str [], .int .i64 0, .nilsl]).map (List.map Cell.v))[k]? = some ([.str [], .int .i64 0, .nilsl].map .v) := fun m hm => fill_get hlen (by omega)
    simp (maxSteps := 1000000) -dsimp -implicitDefEqProofs only [go_sem, ↓reduceIte, keep110, ib110, mk110, Tryz.f110, ea, DFunc.c_eq]
    refine fun _ => ⟨fun _ => ⟨hlt, ?_⟩, fun hn => absurd hlt hn⟩
    have hx := hc l[k] (List.getElem_mem hlt)
    simp only [DFunc.c_eq] at hx
    refine HFnF.nw1 hx hgn ?_
    rintro r l1 g1 ⟨e0, he0, rfl, rfl⟩ hn1 w1
    have he1 := he0
    obtain ⟨y_2, rfl, o_2⟩ := he1
    simp (maxSteps := 1000000) -dsimp -implicitDefEqProofs only [go_sem, ↓reduceIte, keep110, ib110, mk110, Tryz.f110, eg _ rfl, upd_upd, OV.map_val, OV.map_val_nil, OV.val_v, o_2.flat]
    refine ⟨hlt, (k + 1, es ++ [[.v (.str l[k].fName), .v (.int .i64 l[k].fParams), y_2]], g1), ?_⟩
    simp only
    have hf := fill_set (z := [.str [], .int .i64 0, .nilsl]) [.v (.str l[k].fName), .v (.int .i64 l[k].fParams), y_2] hlen (m := l.length - k) (by omega) [Cell.v (.str l[k].fName), Cell.v (.int .i64 l[k].fParams), Cell.v y_2.val] rfl
    rw [hf, show l.length - k - 1 = l.length - (k + 1) by omega]
    refine ⟨by rw [IntWalk.i64_in _ (by omega)]; rfl, Heap.le_refl _, ⟨by omega, ?_, ?_, w1⟩, by omega⟩
    · rw [List.take_succ_eq_append_getElem hlt]
      exact OR.append hor ⟨he0, trivial⟩
    · rw [rowsRows_snoc]
      exact hnew.append hn1
  · have hk' : k = l.length := by omega
    subst hk'
    simp (maxSteps := 1000000) -dsimp -implicitDefEqProofs only [go_sem, ↓reduceIte, keep110, ib110, mk110, Tryz.f110, Nat.lt_irrefl]
    refine fun _ => ⟨_, _, _, shift_self _ _, ⟨.sl n 3 es, OS.mk (by simpa using hor), by simp [OV.val, hlen, tget], rfl⟩, ?_⟩
    rw [OV.sl_rows]
    simpa using hnew.row hgn

set_option maxRecDepth 100000 in
theorem toO_Program (x : DProgram) (hs : x.s ≤ 1048576) : FnN Tryz.prog 61 [.agg x.c] (QA x.o) := by
  rw [DProgram.s_eq] at hs
  simp only [DProgram.c_eq]
  refine fnNF 9 keep61 ib61 mk61 mix Tryz.func61 rfl (by kernel_rfl) (by simp) fun h => ?_
  simp (maxSteps := 1000000) -dsimp -implicitDefEqProofs only [go_sem, ↓reduceIte, keep61, ib61, mk61, Tryz.f61, upd_upd]
  intro n2 a0 n3 b0
  have e1 : (n2 = n3) = False := eq_false fun e => b0.1 e.symm
  have e2 : (n3 = n2) = False := eq_false b0.1
  have w0 := New.nil h
  have hb0 := b0.2
  have hzfFuncs : (x.fFuncs).length + ((x.fFuncs).map DFunc.s).sum = (szs DFunc.s x.fFuncs) := rfl
  refine HFnF.nw2 (toO_FuncS x.fFuncs (by omega) (fun y hy => toO_Func y (by have hq : (DFunc.s y) ≤ ((x.fFuncs).map DFunc.s).sum := sum_mem DFunc.s hy; omega))) a0 ⟨b0.1, hb0⟩ ?_
  rintro r l1 g1 ⟨y1, o1, rfl, rfl⟩ w1 a1 hb1
  simp (maxSteps := 1000000) -dsimp -implicitDefEqProofs only [go_sem, ↓reduceIte, keep61, ib61, mk61, Tryz.f61, upd_upd, upd_get, e1, e2, OV.map_val, OV.map_val_nil, OV.val_v, o1.flat, o1.one]
  have w1t := w0.append w1
  refine ⟨_, g1, _, Shift.of (Sub.refl _) ?_, ⟨[y1], ?_, rfl, rfl⟩, ?_⟩
  · exact le_base1 a1 (le_base1 hb1 (le_base1 a1 (Heap.le_refl _)))
  · exact ⟨y1, rfl, o1⟩
  · simpa only [OV.row_cons, OV.row_nil, OV.v_rows, List.nil_append, List.append_nil, List.append_assoc] using w1t

set_option maxRecDepth 100000 in
theorem toO_Int64S (l : List Int) (h1 : l.length ≤ 1048576) : FnN Tryz.prog 33 [(sls 1 (fun n => [I n]) l)] (QS (OS (oP I) 1 l)) := by
  refine fnNF 22 keep33 ib33 mk33 mix Tryz.func33 rfl (by kernel_rfl) (by simp) fun h => ?_
  simp (maxSteps := 1000000) -dsimp -implicitDefEqProofs only [go_sem, ↓reduceIte, keep33, ib33, mk33, Tryz.f33]
  refine fun _ => ⟨by omega, by omega, by omega, by omega, fun n hn => ?_⟩
  refine loopF (keep := keep33) (ib := ib33) (mk := mk33) mix (by kernel_rfl) (fun k : Nat => [(0, (sls 1 (fun n => [I n]) l)), (3, .os n 1 0 l.length), (4, I k)]) (fun k => upd h n (.row 1 (fillUp (fun n => [I n]) [.int .i64 0] l k))) (fun k => k ≤ l.length) (fun k => l.length - k) 0 (by simp [SatL, tget, Heap.le_refl, fillUp_zero]) ?_
  intro k hk
  rcases Nat.lt_or_ge k l.length with hlt | hge
  · have ea : l[k]? = some l[k] := List.getElem?_eq_getElem hlt
    simp (maxSteps := 1000000) -dsimp -implicitDefEqProofs only [go_sem, ↓reduceIte, keep33, ib33, mk33, Tryz.f33, ea, fillUp_get _ _ _ _ hlt]
    refine fun _ => ⟨fun _ => ⟨hlt, hlt, k + 1, by rw [IntWalk.i64_in _ (by omega)]; rfl, ?_, by omega, by omega⟩, fun hn => absurd hlt hn⟩
    exact le_fill hlt rfl
  · have hk' : k = l.length := by omega
    subst hk'
    simp (maxSteps := 1000000) -dsimp -implicitDefEqProofs only [go_sem, ↓reduceIte, keep33, ib33, mk33, Tryz.f33, Nat.lt_irrefl]
    rw [fillUp_all]
    refine fun _ => ⟨_, _, _, shift_self _ _, ⟨.sl n 1 (l.map fun x => [.v (I x)]), OS.mk (OR_map l), by simp [OV.val, tget], rfl⟩, ?_⟩
    rw [OV.sl_rows, rows_map, cells_map]
    exact New.one hn

set_option maxRecDepth 100000 in
theorem toO_Int64SS (l : List (List Int)) (h1 : l.length ≤ 1048576) (hc : ∀ x ∈ l, FnN Tryz.prog 33 [(sls 1 (fun n => [I n]) x)] (QS (OS (oP I) 1 x))) : FnN Tryz.prog 62 [(sls 1 (fun x => [sls 1 (fun n => [I n]) x]) l)] (QS (OS (oS (oP I) 1) 1 l)) := by
  refine fnNF 23 keep62 ib62 mk62 mix Tryz.func62 rfl (by kernel_rfl) (by simp) fun h => ?_
  simp (maxSteps := 1000000) -dsimp -implicitDefEqProofs only [go_sem, ↓reduceIte, keep62, ib62, mk62, Tryz.f62]
  refine fun _ => ⟨by omega, by omega, by omega, by omega, fun n hn => ?_⟩
  refine loopF (keep := keep62) (ib := ib62) (mk := mk62) mix (by kernel_rfl) (fun x : Nat × List (List OV) × Heap => [(0, (sls 1 (fun x => [sls 1 (fun n => [I n]) x]) l)), (3, .os n 1 0 l.length), (4, I x.1)]) (fun x => upd x.2.2 n (.row 1 (OV.cells x.2.1 ++ (List.replicate (l.length - x.1) [.nilsl]).map (List.map .v)))) (fun x => x.1 ≤ l.length ∧ OR (oS (oP I) 1) (l.take x.1) x.2.1 ∧ New h (OV.rowsRows x.2.1) x.2.2 ∧ x.2.2 n = none) (fun x => l.length - x.1) (0, [], h) (by
    exact ⟨by simp [SatL, tget], Heap.le_refl _, Nat.zero_le _, trivial, New.nil h, hn⟩) ?_
  rintro ⟨k, es, g⟩ ⟨hk, hor, hnew, hgn⟩
  have hlen : es.length = k := by have := hor.length; simp at this; omega
  rcases Nat.lt_or_ge k l.length with hlt | hge
  · have ea : l[k]? = some l[k] := List.getElem?_eq_getElem hlt
    have eg : ∀ m, m = l.length - k → (OV.cells es ++ (List.replicate m [.nilsl]).map (List.map Cell.v))[k]? = some ([.nilsl].map .v) := fun m hm => fill_get hlen (by omega)
    simp (maxSteps := 1000000) -dsimp -implicitDefEqProofs only [go_sem, ↓reduceIte, keep62, ib62, mk62, Tryz.f62, ea]
    refine fun _ => ⟨fun _ => ⟨hlt, ?_⟩, fun hn => absurd hlt hn⟩
    have hx := hc l[k] (List.getElem_mem hlt)
    refine HFnF.nw1 hx hgn ?_
    rintro r l1 g1 ⟨y0, o0, rfl, rfl⟩ hn1 w1
    have he0 : (oS (oP I) 1) l[k] [y0] := ⟨y0, rfl, o0⟩
    simp (maxSteps := 1000000) -dsimp -implicitDefEqProofs only [go_sem, ↓reduceIte, keep62, ib62, mk62, Tryz.f62, eg _ rfl, upd_upd, o0.flat, o0.one]
    refine ⟨hlt, (k + 1, es ++ [[y0]], g1), ?_⟩
    simp only
    have hf := fill_set (z := [.nilsl]) [y0] hlen (m := l.length - k) (by omega) [Cell.v y0.val] rfl
    rw [hf, show l.length - k - 1 = l.length - (k + 1) by omega]
    refine ⟨by rw [IntWalk.i64_in _ (by omega)]; rfl, Heap.le_refl _, ⟨by omega, ?_, ?_, w1⟩, by omega⟩
    · rw [List.take_succ_eq_append_getElem hlt]
      exact OR.append hor ⟨he0, trivial⟩
    · rw [rowsRows_snoc]
      have := hnew.append hn1
      simpa only [OV.row_cons, OV.row_nil, List.append_nil] using this
  · have hk' : k = l.length := by omega
    subst hk'
    simp (maxSteps := 1000000) -dsimp -implicitDefEqProofs only [go_sem, ↓reduceIte, keep62, ib62, mk62, Tryz.f62, Nat.lt_irrefl]
    refine fun _ => ⟨_, _, _, shift_self _ _, ⟨.sl n 1 es, OS.mk (by simpa using hor), by simp [OV.val, hlen, tget], rfl⟩, ?_⟩
    rw [OV.sl_rows]
    simpa using hnew.row hgn

set_option maxRecDepth 100000 in
theorem toO_Job (x : DJob) (hs : x.s ≤ 1048576) : FnN Tryz.prog 20 [.agg x.c] (QA x.o) := by
  rw [DJob.s_eq] at hs
  simp only [DJob.c_eq]
  refine fnNF 23 keep20 ib20 mk20 mix Tryz.func20 rfl (by kernel_rfl) (by simp) fun h => ?_
  simp (maxSteps := 1000000) -dsimp -implicitDefEqProofs only [go_sem, ↓reduceIte, keep20, ib20, mk20, Tryz.f20, upd_upd]
  intro n2 a0 n3 b0
  have e1 : (n2 = n3) = False := eq_false fun e => b0.1 e.symm
  have e2 : (n3 = n2) = False := eq_false b0.1
  have w0 := New.nil h
  have hb0 := b0.2
  have hzfTerms : (x.fTerms).length + ((x.fTerms).map (fun x : List Int => x.length)).sum = (szs (fun x : List Int => x.length) x.fTerms) := rfl
  refine HFnF.nw2 (toO_Program x.fProgram (by omega)) a0 ⟨b0.1, hb0⟩ ?_
  rintro r l1 g1 ⟨e1_, o1, rfl, rfl⟩ w1 a1 hb1
  have oo1 := o1
  obtain ⟨y1_0, rfl, o1_0⟩ := oo1
  simp (maxSteps := 1000000) -dsimp -implicitDefEqProofs only [go_sem, ↓reduceIte, keep20, ib20, mk20, Tryz.f20, upd_upd, upd_get, e1, e2, OV.map_val, OV.map_val_nil, OV.val_v, o1_0.flat, o1_0.one]
  have w1t := w0.append w1
  refine HFnF.nw2 (toO_Int64S x.fPoint (by omega)) a1 ⟨b0.1, hb1⟩ ?_
  rintro r l2 g2 ⟨y2, o2, rfl, rfl⟩ w2 a2 hb2
  simp (maxSteps := 1000000) -dsimp -implicitDefEqProofs only [go_sem, ↓reduceIte, keep20, ib20, mk20, Tryz.f20, upd_upd, upd_get, e1, e2, OV.map_val, OV.map_val_nil, OV.val_v, o1_0.flat, o1_0.one, o2.flat, o2.one]
  have w2t := w1t.append w2
  refine HFnF.nw2 (toO_Int64SS x.fTerms (by omega) (fun y hy => toO_Int64S y (by have hq : y.length ≤ ((x.fTerms).map (fun x : List Int => x.length)).sum := sum_mem (fun x : List Int => x.length) hy; omega))) a2 ⟨b0.1, hb2⟩ ?_
  rintro r l3 g3 ⟨y3, o3, rfl, rfl⟩ w3 a3 hb3
  simp (maxSteps := 1000000) -dsimp -implicitDefEqProofs only [go_sem, ↓reduceIte, keep20, ib20, mk20, Tryz.f20, upd_upd, upd_get, e1, e2, OV.map_val, OV.map_val_nil, OV.val_v, o1_0.flat, o1_0.one, o2.flat, o2.one, o3.flat, o3.one]
  have w3t := w2t.append w3
  refine ⟨_, g3, _, Shift.of (Sub.refl _) ?_, ⟨[y1_0, .v (.int .i64 x.fFunc), .v (.int .i64 x.fShared), y2, y3], ?_, rfl, rfl⟩, ?_⟩
  · exact le_base1 a3 (le_base1 hb3 (le_base1 a3 (Heap.le_refl _)))
  · exact ⟨y1_0, y2, y3, rfl, o1_0, o2, o3⟩
  · simpa only [OV.row_cons, OV.row_nil, OV.v_rows, List.nil_append, List.append_nil, List.append_assoc] using w3t


open Go.Proofs
set_option linter.unusedVariables false
set_option linter.unusedSimpArgs false
def keep139 : List Nat := [0, 2, 3, 5, 7]
def ib139 : List Nat := [12]
def mk139 : Marks := fun _ => ([], .nil, [])
set_option maxRecDepth 100000 in
theorem markText (k : Int) (h1 : k ≤ 4611686018427387904) : Fn0 Tryz.prog 139 [I k] (.str (mtext k)) := by
  refine fn0F 20 keep139 ib139 mk139 mix Tryz.func139 rfl (by kernel_rfl) (by simp) fun h => ?_
  simp (maxSteps := 1000000) -dsimp -implicitDefEqProofs only [go_sem, ↓reduceIte, keep139, ib139, mk139, Tryz.f139]
  repeat' (with_reducible first | intro _ | refine And.intro ?_ ?_)
  · simp [mtext, *]
  have hd := decDig_len k.toNat
  refine loopF (keep := keep139) (ib := ib139) (mk := mk139) mix (by kernel_rfl) (fun x : Int × List UInt8 => [(0, I x.1), (3, .str x.2)]) (fun _ => h) (fun x => 0 ≤ x.1 ∧ x.1 ≤ k ∧ decDig k.toNat = decDig x.1.toNat ++ x.2) (fun x => x.1.toNat) (k, []) (by refine ⟨by simp [SatL, tget], Heap.le_refl _, by simp; omega⟩) ?_
  rintro ⟨j, out⟩ ⟨hj, hjk, he⟩
  simp only at hj hjk he
  have hol : out.length ≤ k.toNat := by rw [he, List.length_append] at hd; omega
  simp (maxSteps := 1000000) -dsimp -implicitDefEqProofs only [go_sem, ↓reduceIte, keep139, ib139, mk139, Tryz.f139]
  repeat' (with_reducible first | intro _ | refine And.intro ?_ ?_)
  all_goals try omega
  all_goals try (simp; done)
  · rw [Int.tdiv_eq_ediv_of_nonneg (by omega), Int.tmod_eq_emod_of_nonneg (by omega), IntWalk.i64_in (j / 10) (by omega), IntWalk.i64_in (48 + j % 10) (by omega), IntWalk.u8_in (48 + j % 10) (by omega)]
    refine ⟨(j / 10, _), ⟨rfl, rfl⟩, ⟨by omega, by omega, ?_⟩, by omega⟩
    rw [he, decDig_pos (by omega), List.append_assoc]
    have e1 : j.toNat / 10 = (j / 10).toNat := by omega
    have e2 : 48 + j.toNat % 10 = (48 + j % 10).toNat := by omega
    rw [e1, e2]; rfl
  all_goals
    have hj0 : j = 0 := by omega
    subst hj0
    rw [show (0 : Int).toNat = 0 from rfl, decDig_zero, List.nil_append] at he
    simp [mtext, *]
end Go.Hl

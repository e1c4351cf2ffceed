/-
  Contracts of functions and laws of the layer over the walk.
-/
import Derived.Test.YthcfmnldhokmiaaGreatHlD
import Derived.Test.YthcfmnldhokmiaaGreatProg
import Derived.KernelRfl
namespace Go.Hl
open Go.Proofs
set_option linter.unusedVariables false
set_option linter.unusedSimpArgs false
@[go_sem] theorem ty2 : tyR Tryz.prog 2 = some ⟨1, false, 8, [.int .i64 0], .int .i64⟩ := by kernel_rfl
@[go_sem] theorem ty3 : tyR Tryz.prog 3 = some ⟨1, false, 8, [.int .i64 0], .int .i64⟩ := by kernel_rfl
@[go_sem] theorem ty4 : tyR Tryz.prog 4 = some ⟨1, false, 1, [.bool false], .bool⟩ := by kernel_rfl
@[go_sem] theorem ty5 : tyR Tryz.prog 5 = some ⟨1, false, 1, [.int .u8 0], .int .u8⟩ := by kernel_rfl
@[go_sem] theorem ty9 : tyR Tryz.prog 9 = some ⟨1, false, 16, [.str []], .str⟩ := by kernel_rfl
@[go_sem] theorem ty22 : tyR Tryz.prog 22 = some ⟨1, false, 24, [.nilsl], .slice 206⟩ := by kernel_rfl
@[go_sem] theorem ty24 : tyR Tryz.prog 24 = some ⟨1, true, 24, [.nilsl], .st [(0, 22, 1)]⟩ := by kernel_rfl
@[go_sem] theorem ty25 : tyR Tryz.prog 25 = some ⟨1, false, 24, [.nilsl], .slice 2⟩ := by kernel_rfl
@[go_sem] theorem ty26 : tyR Tryz.prog 26 = some ⟨1, false, 24, [.nilsl], .slice 25⟩ := by kernel_rfl
@[go_sem] theorem ty28 : tyR Tryz.prog 28 = some ⟨5, true, 88, [.nilsl, .int .i64 0, .int .i64 0, .nilsl, .nilsl], .st [(0, 24, 1), (1, 2, 1), (2, 2, 1), (3, 25, 1), (4, 26, 1)]⟩ := by kernel_rfl
@[go_sem] theorem ty31 : tyR Tryz.prog 31 = some ⟨3, true, 40, [.int .i64 0, .int .i64 0, .nilsl], .st [(0, 2, 1), (1, 2, 1), (2, 25, 1)]⟩ := by kernel_rfl
@[go_sem] theorem ty34 : tyR Tryz.prog 34 = some ⟨1, false, 24, [.nilsl], .slice 118⟩ := by kernel_rfl
@[go_sem] theorem ty36 : tyR Tryz.prog 36 = some ⟨1, true, 24, [.nilsl], .st [(0, 34, 1)]⟩ := by kernel_rfl
@[go_sem] theorem ty38 : tyR Tryz.prog 38 = some ⟨5, true, 88, [.nilsl, .int .i64 0, .int .i64 0, .nilsl, .nilsl], .st [(0, 36, 1), (1, 2, 1), (2, 2, 1), (3, 25, 1), (4, 26, 1)]⟩ := by kernel_rfl
@[go_sem] theorem ty50 : tyR Tryz.prog 50 = some ⟨1, false, 24, [.nilsl], .slice 4⟩ := by kernel_rfl
@[go_sem] theorem ty51 : tyR Tryz.prog 51 = some ⟨1, false, 24, [.nilsl], .slice 190⟩ := by kernel_rfl
@[go_sem] theorem ty53 : tyR Tryz.prog 53 = some ⟨9, true, 184, [.nilsl, .int .i64 0, .int .i64 0, .nilsl, .nilsl, .nilsl, .nilsl, .nilsl, .nilsl], .st [(0, 28, 5), (5, 25, 1), (6, 50, 1), (7, 51, 1), (8, 25, 1)]⟩ := by kernel_rfl
@[go_sem] theorem ty56 : tyR Tryz.prog 56 = some ⟨1, false, 24, [.nilsl], .slice 31⟩ := by kernel_rfl
@[go_sem] theorem ty58 : tyR Tryz.prog 58 = some ⟨9, true, 184, [.nilsl, .int .i64 0, .int .i64 0, .nilsl, .nilsl, .nilsl, .nilsl, .nilsl, .nilsl], .st [(0, 38, 5), (5, 25, 1), (6, 50, 1), (7, 56, 1), (8, 25, 1)]⟩ := by kernel_rfl
@[go_sem] theorem ty75 : tyR Tryz.prog 75 = some ⟨1, false, 24, [.nilsl], .slice 225⟩ := by kernel_rfl
@[go_sem] theorem ty77 : tyR Tryz.prog 77 = some ⟨2, true, 32, [.int .i64 0, .nilsl], .st [(0, 2, 1), (1, 75, 1)]⟩ := by kernel_rfl
@[go_sem] theorem ty79 : tyR Tryz.prog 79 = some ⟨1, false, 24, [.nilsl], .slice 229⟩ := by kernel_rfl
@[go_sem] theorem ty81 : tyR Tryz.prog 81 = some ⟨2, true, 32, [.int .i64 0, .nilsl], .st [(0, 2, 1), (1, 79, 1)]⟩ := by kernel_rfl
@[go_sem] theorem ty115 : tyR Tryz.prog 115 = some ⟨1, false, 8, [.nilptr], .ptr 36⟩ := by kernel_rfl
@[go_sem] theorem ty116 : tyR Tryz.prog 116 = some ⟨1, false, 24, [.nilsl], .slice 235⟩ := by kernel_rfl
@[go_sem] theorem ty118 : tyR Tryz.prog 118 = some ⟨3, true, 48, [.str [], .int .i64 0, .nilsl], .st [(0, 9, 1), (1, 2, 1), (2, 116, 1)]⟩ := by kernel_rfl
@[go_sem] theorem ty120 : tyR Tryz.prog 120 = some ⟨1, false, 24, [.nilsl], .slice 198⟩ := by kernel_rfl
@[go_sem] theorem ty121 : tyR Tryz.prog 121 = some ⟨1, false, 24, [.nilsl], .slice 196⟩ := by kernel_rfl
@[go_sem] theorem ty123 : tyR Tryz.prog 123 = some ⟨4, true, 80, [.int .i64 0, .nilsl, .nilsl, .nilsl], .st [(0, 2, 1), (1, 120, 1), (2, 121, 1), (3, 25, 1)]⟩ := by kernel_rfl
@[go_sem] theorem ty134 : tyR Tryz.prog 134 = some ⟨1, false, 24, [.nilsl], .slice 26⟩ := by kernel_rfl
@[go_sem] theorem ty148 : tyR Tryz.prog 148 = some ⟨4, true, 32, [.nilptr, .int .i64 0, .int .i64 0, .int .i64 0], .st [(0, 115, 1), (1, 2, 1), (2, 2, 1), (3, 2, 1)]⟩ := by kernel_rfl
@[go_sem] theorem ty149 : tyR Tryz.prog 149 = some ⟨1, false, 24, [.nilsl], .slice 81⟩ := by kernel_rfl
@[go_sem] theorem ty190 : tyR Tryz.prog 190 = some ⟨3, true, 40, [.int .i64 0, .int .i64 0, .nilsl], .st [(0, 2, 1), (1, 2, 1), (2, 25, 1)]⟩ := by kernel_rfl
@[go_sem] theorem ty196 : tyR Tryz.prog 196 = some ⟨2, true, 16, [.int .i64 0, .bool false], .st [(0, 2, 1), (1, 4, 1)]⟩ := by kernel_rfl
@[go_sem] theorem ty198 : tyR Tryz.prog 198 = some ⟨4, true, 32, [.int .i64 0, .int .i64 0, .int .i64 0, .int .i64 0], .st [(0, 2, 1), (1, 2, 1), (2, 2, 1), (3, 2, 1)]⟩ := by kernel_rfl
@[go_sem] theorem ty204 : tyR Tryz.prog 204 = some ⟨1, false, 24, [.nilsl], .slice 313⟩ := by kernel_rfl
@[go_sem] theorem ty206 : tyR Tryz.prog 206 = some ⟨3, true, 48, [.str [], .int .i64 0, .nilsl], .st [(0, 9, 1), (1, 2, 1), (2, 204, 1)]⟩ := by kernel_rfl
@[go_sem] theorem ty209 : tyR Tryz.prog 209 = some ⟨6, true, 112, [.nilptr, .int .i64 0, .nilsl, .nilsl, .nilsl, .nilsl], .st [(0, 115, 1), (1, 123, 4), (5, 25, 1)]⟩ := by kernel_rfl
@[go_sem] theorem ty225 : tyR Tryz.prog 225 = some ⟨2, true, 32, [.nilsl, .int .i64 0], .st [(0, 25, 1), (1, 2, 1)]⟩ := by kernel_rfl
@[go_sem] theorem ty229 : tyR Tryz.prog 229 = some ⟨2, true, 32, [.nilsl, .int .i64 0], .st [(0, 25, 1), (1, 2, 1)]⟩ := by kernel_rfl
@[go_sem] theorem ty235 : tyR Tryz.prog 235 = some ⟨5, true, 56, [.int .i64 0, .int .i64 0, .int .i64 0, .int .i64 0, .nilsl], .st [(0, 2, 1), (1, 2, 1), (2, 2, 1), (3, 2, 1), (4, 116, 1)]⟩ := by kernel_rfl
@[go_sem] theorem ty250 : tyR Tryz.prog 250 = some ⟨4, true, 48, [.nilsl, .int .i64 0, .int .i64 0, .int .i64 0], .st [(0, 36, 1), (1, 2, 1), (2, 2, 1), (3, 2, 1)]⟩ := by kernel_rfl
@[go_sem] theorem ty262 : tyR Tryz.prog 262 = some ⟨4, true, 32, [.nilptr, .int .i64 0, .int .i64 0, .int .i64 0], .st [(0, 115, 1), (1, 3, 1), (2, 2, 1), (3, 2, 1)]⟩ := by kernel_rfl
@[go_sem] theorem ty275 : tyR Tryz.prog 275 = some ⟨4, true, 48, [.nilsl, .int .i64 0, .int .i64 0, .int .i64 0], .st [(0, 36, 1), (1, 3, 1), (2, 2, 1), (3, 2, 1)]⟩ := by kernel_rfl
@[go_sem] theorem ty283 : tyR Tryz.prog 283 = some ⟨8, true, 144, [.nilsl, .int .i64 0, .nilsl, .nilsl, .nilsl, .nilsl, .int .i64 0, .int .i64 0], .st [(0, 36, 1), (1, 123, 4), (5, 25, 1), (6, 2, 1), (7, 2, 1)]⟩ := by kernel_rfl
@[go_sem] theorem ty291 : tyR Tryz.prog 291 = some ⟨1, false, 24, [.nilsl], .slice 5⟩ := by kernel_rfl
@[go_sem] theorem ty296 : tyR Tryz.prog 296 = some ⟨2, true, 32, [.nilsl, .int .i64 0], .st [(0, 36, 1), (1, 2, 1)]⟩ := by kernel_rfl
@[go_sem] theorem ty313 : tyR Tryz.prog 313 = some ⟨5, true, 56, [.int .i64 0, .int .i64 0, .int .i64 0, .int .i64 0, .nilsl], .st [(0, 2, 1), (1, 2, 1), (2, 2, 1), (3, 2, 1), (4, 204, 1)]⟩ := by kernel_rfl
@[go_sem] theorem ty322 : tyR Tryz.prog 322 = some ⟨1, false, 24, [.nilsl], .slice 79⟩ := by kernel_rfl
@[go_sem] theorem ty333 : tyR Tryz.prog 333 = some ⟨1, false, 8, [.int .u64 0], .int .u64⟩ := by kernel_rfl
theorem mix : Tryz.prog.follows .mixedOrders = true := by kernel_rfl
open Go.Proofs
set_option linter.unusedVariables false
set_option linter.unusedSimpArgs false
abbrev I (n : Int) : HVal := .int .i64 n
abbrev ints (l : List Int) : HVal := .sl 1 (l.map fun n => [I n]) false
abbrev bools (l : List Bool) : HVal := .sl 1 (l.map fun b => [.bool b]) false
abbrev sls {α : Type} (sz : Nat) (c : α → List HVal) (l : List α) : HVal := .sl sz (l.map c) false

def InI (n : Int) : Prop := -9223372036854775808 ≤ n ∧ n ≤ 9223372036854775807
/-- What is left of a budget; -1 where it does not last. -/
def lft (left : Int) (n : Nat) : Int := if left - n < 0 then -1 else left - n


theorem lft_cases (left : Int) (n : Nat) : (lft left n = -1 ∧ left - n < 0) ∨ (lft left n = left - n ∧ 0 ≤ left - n) := by
  unfold lft; split
  · exact .inl ⟨rfl, by assumption⟩
  · exact .inr ⟨rfl, by omega⟩
theorem lft_neg {left : Int} {n : Nat} (h : left - n < 0) : lft left n = -1 := if_pos h
theorem lft_pos {left : Int} {n : Nat} (h : 0 ≤ left - n) : lft left n = left - n := if_neg (by omega)

theorem lft_step {left L : Int} {n : Nat} (h : lft left n = L) : (L < 0 → left - n < 0) ∧ (¬ L < 0 → L = left - n) := by
  subst h; unfold lft; split <;> constructor <;> intros <;> omega

theorem sum_take_succ {α : Type} (s : α → Nat) (l : List α) (k : Nat) (h : k < l.length) : ((l.take (k + 1)).map s).sum = ((l.take k).map s).sum + s l[k] := by
  rw [List.take_succ_eq_append_getElem h, List.map_append, List.sum_append]; simp only [List.map_cons, List.map_nil, List.sum_cons, List.sum_nil, Nat.add_zero]
theorem sum_take_le {α : Type} (s : α → Nat) : ∀ (l : List α) (k : Nat), ((l.take k).map s).sum ≤ (l.map s).sum
  | [], k => by simp
  | a :: l, 0 => by simp
  | a :: l, k + 1 => by have := sum_take_le s l k; simp only [List.take_succ_cons, List.map_cons, List.sum_cons]; omega

theorem sum_mem {α : Type} (s : α → Nat) {l : List α} {x : α} (h : x ∈ l) : s x ≤ (l.map s).sum := by
  induction l with
  | nil => simp at h
  | cons a l ih =>
    simp only [List.map_cons, List.sum_cons]
    rcases List.mem_cons.1 h with rfl | h
    · omega
    · have := ih h; omega

/-- A row that is being filled from the left. -/
def fillUp {α : Type} (f : α → List HVal) (z : List HVal) (a : List α) (k : Nat) : List (List Cell) := ((a.take k).map f ++ List.replicate (a.length - k) z).map (List.map .v)
theorem fillUp_zero {α : Type} (f : α → List HVal) (z : List HVal) (a : List α) : fillUp f z a 0 = List.map (List.map .v) (List.replicate a.length z) := by simp [fillUp]
theorem fillUp_all {α : Type} (f : α → List HVal) (z : List HVal) (a : List α) : fillUp f z a a.length = (a.map f).map (List.map .v) := by simp [fillUp]
theorem fillUp_get {α : Type} (f : α → List HVal) (z : List HVal) (a : List α) (k : Nat) (h : k < a.length) : (fillUp f z a k)[k]? = some (z.map .v) := by
  have : ((a.take k).map f).length = k := by simp; omega
  simp only [fillUp, List.getElem?_map]
  rw [List.getElem?_append_right (by omega), this]
  have h0 : 0 < a.length - k := by omega
  simp [h0]
theorem fillUp_set {α : Type} (f : α → List HVal) (z : List HVal) (a : List α) (k : Nat) (h : k < a.length) (e : List Cell) (he : e = (f a[k]).map .v) : (fillUp f z a k).set k e = fillUp f z a (k + 1) := by
  subst he
  have h1 : ((a.take k).map f).length = k := by simp; omega
  simp only [fillUp]
  rw [← List.map_set, List.set_append_right _ _ (by omega), h1, Nat.sub_self, List.take_succ_eq_append_getElem h, show a.length - k = (a.length - (k + 1)) + 1 by omega, List.replicate_succ, List.set_cons_zero]
  simp only [List.map_append, List.map_cons, List.map_nil, List.append_assoc, List.cons_append, List.nil_append]
theorem le_fill {α : Type} {f : α → List HVal} {z : List HVal} {a : List α} {k : Nat} {h : Heap} {n sz : Nat} {e : List Cell} (hk : k < a.length) (he : e = (f a[k]).map .v) :
    (upd h n (.row sz (fillUp f z a (k + 1)))).le (upd (upd h n (.row sz (fillUp f z a k))) n (.row sz ((fillUp f z a k).set k e))) := by
  rw [fillUp_set f z a k hk e he, upd_upd]
  exact Heap.le_refl _
theorem upd_get (h : Heap) (n m : Nat) (o : HObj) : upd h n o m = if m = n then some o else h m := rfl
theorem getElem_of_eq {α : Type} {a b : List α} (e : a = b) {k : Nat} (ha : k < a.length) {hb : k < b.length} : a[k] = b[k] := by subst e; rfl
theorem take_step {α : Type} {a b : List α} {k : Nat} (ha : k < a.length) (hb : k < b.length) (hp : a.take k = b.take k) (he : a[k] = b[k]) : a.take (k + 1) = b.take (k + 1) := by
  rw [List.take_succ_eq_append_getElem ha, List.take_succ_eq_append_getElem hb, hp, he]
theorem eq_of_take {α : Type} {a b : List α} (hl : a.length = b.length) (h : a.take a.length = b.take a.length) : a = b := by
  rw [List.take_length, hl, List.take_length] at h; exact h
theorem valRows_map (l : List (List HVal)) : valRows (l.map (List.map .v)) = l := by
  induction l with
  | nil => rfl
  | cons e l ih =>
    have : valRow (e.map Cell.v) = e := by
      induction e with
      | nil => rfl
      | cons x e ih => simp only [List.map_cons, valRow, Cell.val, ih]
    simp only [valRows, List.map_cons] at ih ⊢
    rw [ih, this]
/-- A row of this function's own, handed back. -/
theorem shift_row {h h' : Heap} {n sz : Nat} (es : List (List HVal)) (h0 : h n = none) (hl : (upd h n (.row sz (es.map (List.map .v)))).le h') (len : Nat) (e : len = es.length) : Shift (.os n sz 0 len) h' (.sl sz es false) h := by
  subst e
  refine (Shift.of (Sub.refl _) hl).trans ((Shift.sealUp (upd_same _ _ _) (by simp [sealOK])).trans ?_)
  have : HVal.sealUp n (valRows (es.map (List.map .v))) (.os n sz 0 es.length) = .sl sz es false := by simp [HVal.sealUp, valRows_map]
  rw [this]
  exact shift_le ((le_upd h0).2 ((le_upd h0).2 (Heap.le_refl h)))

theorem map_get {α β : Type} {f : α → β} {l : List α} {k : Nat} (h : k < l.length) : (l.map f)[k]? = some (f l[k]) := by
  rw [List.getElem?_map, List.getElem?_eq_getElem h]; rfl
theorem all_step {α : Type} {P : α → Prop} {l : List α} {k : Nat} (h : k < l.length) (hp : ∀ x ∈ l.take k, P x) (he : P l[k]) : ∀ x ∈ l.take (k + 1), P x := by
  rw [List.take_succ_eq_append_getElem h]
  intro x hx
  rcases List.mem_append.1 hx with hx | hx
  · exact hp x hx
  · rw [List.mem_singleton.1 hx]; exact he
/-- The first place where p holds, or -1. -/
def idxOf {α : Type} (p : α → Bool) (l : List α) : Int := match l.findIdx? p with | some i => i | none => -1
theorem idxOf_none {α : Type} {p : α → Bool} {l : List α} (h : ∀ x ∈ l, p x = false) : idxOf p l = -1 := by
  have : l.findIdx? p = none := List.findIdx?_eq_none_iff.2 h
  simp only [idxOf, this]
theorem idxOf_some {α : Type} {p : α → Bool} {l : List α} {k : Nat} (hk : k < l.length) (h : ∀ x ∈ l.take k, p x = false) (he : p l[k] = true) : idxOf p l = k := by
  have : l.findIdx? p = some k := by
    rw [List.findIdx?_eq_some_iff_getElem]
    refine ⟨hk, he, fun j hj => ?_⟩
    have := h l[j] (List.mem_take_iff_getElem.2 ⟨j, by omega, rfl⟩)
    simp [this]
  simp only [idxOf, this]
theorem idxOf_nonneg {α : Type} {p : α → Bool} {l : List α} : decide (0 ≤ idxOf p l) = l.any p := by
  unfold idxOf
  cases h : l.findIdx? p with
  | none =>
    have := List.findIdx?_eq_none_iff.1 h
    simp only
    rw [Bool.eq_false_iff.2 (show l.any p ≠ true from ?_)]
    · simp
    · intro hx
      obtain ⟨x, hx, hp⟩ := List.any_eq_true.1 hx
      rw [this x hx] at hp; cases hp
  | some i =>
    obtain ⟨hi, hp, _⟩ := List.findIdx?_eq_some_iff_getElem.1 h
    have : l.any p = true := List.any_eq_true.2 ⟨_, List.getElem_mem hi, hp⟩
    rw [this]; simp
/-- A number of the field. -/
def Num (n : Int) : Prop := 0 ≤ n ∧ n ≤ 1000002
instance (n : Int) : Decidable (Num n) := inferInstanceAs (Decidable (0 ≤ n ∧ n ≤ 1000002))
def Nums (l : List Int) : Prop := ∀ x ∈ l, Num x
instance (l : List Int) : Decidable (Nums l) := inferInstanceAs (Decidable (∀ x ∈ l, Num x))
theorem any_not {α : Type} {P : α → Prop} [DecidablePred P] {l : List α} [Decidable (∀ x ∈ l, P x)] : (!l.any fun x => !decide (P x)) = decide (∀ x ∈ l, P x) := by
  rw [Bool.eq_iff_iff]
  simp [List.any_eq_false]
inductive DExpr where
  | mk (fKind : Int) (fNum : Int) (fPick : Int) (fCount : Int) (fKids : (List DExpr))
def DExpr.fKind : DExpr → Int
  | .mk fKind fNum fPick fCount fKids => fKind
def DExpr.fNum : DExpr → Int
  | .mk fKind fNum fPick fCount fKids => fNum
def DExpr.fPick : DExpr → Int
  | .mk fKind fNum fPick fCount fKids => fPick
def DExpr.fCount : DExpr → Int
  | .mk fKind fNum fPick fCount fKids => fCount
def DExpr.fKids : DExpr → (List DExpr)
  | .mk fKind fNum fPick fCount fKids => fKids
mutual
def DExpr.c : DExpr → List HVal
  | .mk fKind fNum fPick fCount fKids => [(.int .i64 fKind), (.int .i64 fNum), (.int .i64 fPick), (.int .i64 fCount), .sl 5 (DExpr.cL fKids) false]
def DExpr.cL : List DExpr → List (List HVal)
  | [] => []
  | x :: l => x.c :: DExpr.cL l
end
mutual
def DExpr.s : DExpr → Nat
  | .mk fKind fNum fPick fCount fKids => (fKids.length + DExpr.sL fKids)
def DExpr.sL : List DExpr → Nat
  | [] => 0
  | x :: l => x.s + DExpr.sL l
end
theorem DExpr.cL_map : ∀ l, DExpr.cL l = l.map DExpr.c
  | [] => rfl
  | x :: l => by simp only [DExpr.cL, List.map_cons, DExpr.cL_map l]
theorem DExpr.sL_map : ∀ l, DExpr.sL l = (l.map DExpr.s).sum
  | [] => rfl
  | x :: l => by simp only [DExpr.sL, List.map_cons, List.sum_cons, DExpr.sL_map l]
theorem DExpr.c_eq (x : DExpr) : x.c = [(.int .i64 x.fKind), (.int .i64 x.fNum), (.int .i64 x.fPick), (.int .i64 x.fCount), (sls 5 DExpr.c x.fKids)] := by cases x; simp only [DExpr.c, DExpr.cL_map, sls]; rfl
theorem DExpr.s_eq (x : DExpr) : x.s = (szs DExpr.s x.fKids) := by cases x; simp only [DExpr.s, DExpr.sL_map, szs]; rfl
theorem DExpr.kid_lt {x y : DExpr} (h : y ∈ x.fKids) : SizeOf.sizeOf y < SizeOf.sizeOf x := by
  cases x
  have := List.sizeOf_lt_of_mem h
  simp only [DExpr.fKids] at this
  simp only [DExpr.mk.sizeOf_spec]; omega
@[simp] theorem DExpr.c_len (x : DExpr) : x.c.length = 5 := by rw [DExpr.c_eq]; rfl
inductive DExpr.wf : DExpr → Prop
  | mk (x : DExpr) (h0 : InI x.fKind) (h1 : InI x.fNum) (h2 : InI x.fPick) (h3 : InI x.fCount) (hk : ∀ y ∈ x.fKids, y.wf) : x.wf
theorem DExpr.eq_iff {a b : DExpr} : a = b ↔ a.fKind = b.fKind ∧ a.fNum = b.fNum ∧ a.fPick = b.fPick ∧ a.fCount = b.fCount ∧ a.fKids = b.fKids := by cases a; cases b; simp [DExpr.fKind, DExpr.fNum, DExpr.fPick, DExpr.fCount, DExpr.fKids]
noncomputable instance : DecidableEq DExpr := fun a b => Classical.propDecidable (a = b)

structure DFunc where
  fName : (List UInt8)
  fParams : Int
  fOuts : (List DExpr)
def DFunc.c (x : DFunc) : List HVal := [(.str x.fName), (.int .i64 x.fParams), (sls 5 DExpr.c x.fOuts)]
def DFunc.s (x : DFunc) : Nat := x.fName.length + (szs DExpr.s x.fOuts)
theorem DFunc.c_eq (x : DFunc) : x.c = [(.str x.fName), (.int .i64 x.fParams), (sls 5 DExpr.c x.fOuts)] := rfl
theorem DFunc.s_eq (x : DFunc) : x.s = x.fName.length + (szs DExpr.s x.fOuts) := rfl
@[simp] theorem DFunc.c_len (x : DFunc) : x.c.length = 3 := by rw [DFunc.c_eq]; rfl
def DFunc.wf (x : DFunc) : Prop := InI x.fParams ∧ (∀ y ∈ x.fOuts, y.wf)
theorem DFunc.eq_iff {a b : DFunc} : a = b ↔ a.fName = b.fName ∧ a.fParams = b.fParams ∧ a.fOuts = b.fOuts := by cases a; cases b; simp
noncomputable instance : DecidableEq DFunc := fun a b => Classical.propDecidable (a = b)

structure DProgram where
  fFuncs : (List DFunc)
def DProgram.c (x : DProgram) : List HVal := [(sls 3 DFunc.c x.fFuncs)]
def DProgram.s (x : DProgram) : Nat := (szs DFunc.s x.fFuncs)
theorem DProgram.c_eq (x : DProgram) : x.c = [(sls 3 DFunc.c x.fFuncs)] := rfl
theorem DProgram.s_eq (x : DProgram) : x.s = (szs DFunc.s x.fFuncs) := rfl
@[simp] theorem DProgram.c_len (x : DProgram) : x.c.length = 1 := by rw [DProgram.c_eq]; rfl
def DProgram.wf (x : DProgram) : Prop := (∀ y ∈ x.fFuncs, y.wf)
theorem DProgram.eq_iff {a b : DProgram} : a = b ↔ a.fFuncs = b.fFuncs := by cases a; cases b; simp
noncomputable instance : DecidableEq DProgram := fun a b => Classical.propDecidable (a = b)

structure DJob where
  fProgram : DProgram
  fFunc : Int
  fShared : Int
  fPoint : (List Int)
  fTerms : (List (List Int))
def DJob.c (x : DJob) : List HVal := [(sls 3 DFunc.c x.fProgram.fFuncs), (.int .i64 x.fFunc), (.int .i64 x.fShared), (sls 1 (fun n => [I n]) x.fPoint), (sls 1 (fun x => [sls 1 (fun n => [I n]) x]) x.fTerms)]
def DJob.s (x : DJob) : Nat := (DProgram.s x.fProgram) + x.fPoint.length + (szs (fun x : List Int => x.length) x.fTerms)
theorem DJob.c_eq (x : DJob) : x.c = [(sls 3 DFunc.c x.fProgram.fFuncs), (.int .i64 x.fFunc), (.int .i64 x.fShared), (sls 1 (fun n => [I n]) x.fPoint), (sls 1 (fun x => [sls 1 (fun n => [I n]) x]) x.fTerms)] := rfl
theorem DJob.s_eq (x : DJob) : x.s = (DProgram.s x.fProgram) + x.fPoint.length + (szs (fun x : List Int => x.length) x.fTerms) := rfl
@[simp] theorem DJob.c_len (x : DJob) : x.c.length = 5 := by rw [DJob.c_eq]; rfl
def DJob.wf (x : DJob) : Prop := x.fProgram.wf ∧ InI x.fFunc ∧ InI x.fShared ∧ (∀ y ∈ x.fPoint, InI y) ∧ (∀ y ∈ x.fTerms, (∀ y' ∈ y, InI y'))
theorem DJob.eq_iff {a b : DJob} : a = b ↔ a.fProgram = b.fProgram ∧ a.fFunc = b.fFunc ∧ a.fShared = b.fShared ∧ a.fPoint = b.fPoint ∧ a.fTerms = b.fTerms := by cases a; cases b; simp
noncomputable instance : DecidableEq DJob := fun a b => Classical.propDecidable (a = b)

structure DPart where
  fCode : Int
  fValue : Int
  fGrad : (List Int)
def DPart.c (x : DPart) : List HVal := [(.int .i64 x.fCode), (.int .i64 x.fValue), (sls 1 (fun n => [I n]) x.fGrad)]
def DPart.s (x : DPart) : Nat := x.fGrad.length
theorem DPart.c_eq (x : DPart) : x.c = [(.int .i64 x.fCode), (.int .i64 x.fValue), (sls 1 (fun n => [I n]) x.fGrad)] := rfl
theorem DPart.s_eq (x : DPart) : x.s = x.fGrad.length := rfl
@[simp] theorem DPart.c_len (x : DPart) : x.c.length = 3 := by rw [DPart.c_eq]; rfl
def DPart.wf (x : DPart) : Prop := InI x.fCode ∧ InI x.fValue ∧ (∀ y ∈ x.fGrad, InI y)
theorem DPart.eq_iff {a b : DPart} : a = b ↔ a.fCode = b.fCode ∧ a.fValue = b.fValue ∧ a.fGrad = b.fGrad := by cases a; cases b; simp
noncomputable instance : DecidableEq DPart := fun a b => Classical.propDecidable (a = b)

structure DService where
  fJob : DJob
  fStamps : (List Int)
  fKnown : (List Bool)
  fParts : (List DPart)
  fOwners : (List Int)
def DService.c (x : DService) : List HVal := [(sls 3 DFunc.c x.fJob.fProgram.fFuncs), (.int .i64 x.fJob.fFunc), (.int .i64 x.fJob.fShared), (sls 1 (fun n => [I n]) x.fJob.fPoint), (sls 1 (fun x => [sls 1 (fun n => [I n]) x]) x.fJob.fTerms), (sls 1 (fun n => [I n]) x.fStamps), (sls 1 (fun b => [.bool b]) x.fKnown), (sls 3 DPart.c x.fParts), (sls 1 (fun n => [I n]) x.fOwners)]
def DService.s (x : DService) : Nat := (DJob.s x.fJob) + x.fStamps.length + x.fKnown.length + (szs DPart.s x.fParts) + x.fOwners.length
theorem DService.c_eq (x : DService) : x.c = [(sls 3 DFunc.c x.fJob.fProgram.fFuncs), (.int .i64 x.fJob.fFunc), (.int .i64 x.fJob.fShared), (sls 1 (fun n => [I n]) x.fJob.fPoint), (sls 1 (fun x => [sls 1 (fun n => [I n]) x]) x.fJob.fTerms), (sls 1 (fun n => [I n]) x.fStamps), (sls 1 (fun b => [.bool b]) x.fKnown), (sls 3 DPart.c x.fParts), (sls 1 (fun n => [I n]) x.fOwners)] := rfl
theorem DService.s_eq (x : DService) : x.s = (DJob.s x.fJob) + x.fStamps.length + x.fKnown.length + (szs DPart.s x.fParts) + x.fOwners.length := rfl
@[simp] theorem DService.c_len (x : DService) : x.c.length = 9 := by rw [DService.c_eq]; rfl
def DService.wf (x : DService) : Prop := x.fJob.wf ∧ (∀ y ∈ x.fStamps, InI y) ∧ (∀ y ∈ x.fParts, y.wf) ∧ (∀ y ∈ x.fOwners, InI y)
theorem DService.eq_iff {a b : DService} : a = b ↔ a.fJob = b.fJob ∧ a.fStamps = b.fStamps ∧ a.fKnown = b.fKnown ∧ a.fParts = b.fParts ∧ a.fOwners = b.fOwners := by cases a; cases b; simp
noncomputable instance : DecidableEq DService := fun a b => Classical.propDecidable (a = b)

structure DTerm where
  fExps : (List Int)
  fCoef : Int
def DTerm.c (x : DTerm) : List HVal := [(sls 1 (fun n => [I n]) x.fExps), (.int .i64 x.fCoef)]
def DTerm.s (x : DTerm) : Nat := x.fExps.length
theorem DTerm.c_eq (x : DTerm) : x.c = [(sls 1 (fun n => [I n]) x.fExps), (.int .i64 x.fCoef)] := rfl
theorem DTerm.s_eq (x : DTerm) : x.s = x.fExps.length := rfl
@[simp] theorem DTerm.c_len (x : DTerm) : x.c.length = 2 := by rw [DTerm.c_eq]; rfl
def DTerm.wf (x : DTerm) : Prop := (∀ y ∈ x.fExps, InI y) ∧ InI x.fCoef
theorem DTerm.eq_iff {a b : DTerm} : a = b ↔ a.fExps = b.fExps ∧ a.fCoef = b.fCoef := by cases a; cases b; simp
noncomputable instance : DecidableEq DTerm := fun a b => Classical.propDecidable (a = b)

structure DPoly where
  fVars : Int
  fTerms : (List DTerm)
def DPoly.c (x : DPoly) : List HVal := [(.int .i64 x.fVars), (sls 2 DTerm.c x.fTerms)]
def DPoly.s (x : DPoly) : Nat := (szs DTerm.s x.fTerms)
theorem DPoly.c_eq (x : DPoly) : x.c = [(.int .i64 x.fVars), (sls 2 DTerm.c x.fTerms)] := rfl
theorem DPoly.s_eq (x : DPoly) : x.s = (szs DTerm.s x.fTerms) := rfl
@[simp] theorem DPoly.c_len (x : DPoly) : x.c.length = 2 := by rw [DPoly.c_eq]; rfl
def DPoly.wf (x : DPoly) : Prop := InI x.fVars ∧ (∀ y ∈ x.fTerms, y.wf)
theorem DPoly.eq_iff {a b : DPoly} : a = b ↔ a.fVars = b.fVars ∧ a.fTerms = b.fTerms := by cases a; cases b; simp
noncomputable instance : DecidableEq DPoly := fun a b => Classical.propDecidable (a = b)


open Go.Proofs
set_option linter.unusedVariables false
set_option linter.unusedSimpArgs false
open Go.Proofs
set_option linter.unusedVariables false
set_option linter.unusedSimpArgs false
open Go.Proofs
set_option linter.unusedVariables false
set_option linter.unusedSimpArgs false
open Go.Proofs
set_option linter.unusedVariables false
set_option linter.unusedSimpArgs false
def keep128 : List Nat := [0, 1, 2, 6]
def ib128 : List Nat := []
def mk128 : Marks := fun _ => ([], .nil, [])
theorem l00In (n a b : Int) : Fn0 Tryz.prog 128 [I n, I a, I b] (.bool (decide (a ≤ n ∧ n ≤ b))) := by
  refine fn0F 15 keep128 ib128 mk128 mix Tryz.func128 rfl (by kernel_rfl) (by simp) fun h => ?_
  simp (maxSteps := 1000000) -dsimp -implicitDefEqProofs only [go_sem, ↓reduceIte, keep128, ib128, mk128, Tryz.f128]
  repeat' (with_reducible first | intro _ | refine And.intro ?_ ?_)
  all_goals try (first | (simp [*]; done) | omega | grind)
def keep135 : List Nat := [0, 1, 2, 6]
def ib135 : List Nat := []
def mk135 : Marks := fun _ => ([], .nil, [])
theorem within (n a b : Int) : Fn0 Tryz.prog 135 [I n, I a, I b] (.bool (decide (a ≤ n ∧ n ≤ b))) := by
  refine fn0F 15 keep135 ib135 mk135 mix Tryz.func135 rfl (by kernel_rfl) (by simp) fun h => ?_
  simp (maxSteps := 1000000) -dsimp -implicitDefEqProofs only [go_sem, ↓reduceIte, keep135, ib135, mk135, Tryz.f135]
  repeat' (with_reducible first | intro _ | refine And.intro ?_ ?_)
  all_goals try (first | (simp [*]; done) | omega | grind)
def keep226 : List Nat := [0, 2]
def ib226 : List Nat := []
def mk226 : Marks := fun _ => ([], .nil, [])
theorem l01Number (n : Int) : Fn0 Tryz.prog 226 [I n] (.bool (decide (Num n))) := by
  refine fn0F 5 keep226 ib226 mk226 mix Tryz.func226 rfl (by kernel_rfl) (by simp) fun h => ?_
  simp (maxSteps := 1000000) -dsimp -implicitDefEqProofs only [go_sem, ↓reduceIte, keep226, ib226, mk226, Tryz.f226]
  first | refine HFnF.mk (l00In n 0 1000002) ?_ | refine CallSF.mk (l00In n 0 1000002) ?_ | refine HFnF.mkAt (l00In n 0 1000002) ?_ | refine CallSF.mk (FnAt.fn0 (l00In n 0 1000002)) ?_
  simp (maxSteps := 1000000) -dsimp -implicitDefEqProofs only [go_sem, ↓reduceIte, keep226, ib226, mk226, Tryz.f226]
  all_goals rfl
def keep154 : List Nat := [0, 2]
def ib154 : List Nat := []
def mk154 : Marks := fun _ => ([], .nil, [])
theorem isNumber (n : Int) : Fn0 Tryz.prog 154 [I n] (.bool (decide (Num n))) := by
  refine fn0F 5 keep154 ib154 mk154 mix Tryz.func154 rfl (by kernel_rfl) (by simp) fun h => ?_
  simp (maxSteps := 1000000) -dsimp -implicitDefEqProofs only [go_sem, ↓reduceIte, keep154, ib154, mk154, Tryz.f154]
  first | refine HFnF.mk (within n 0 1000002) ?_ | refine CallSF.mk (within n 0 1000002) ?_ | refine HFnF.mkAt (within n 0 1000002) ?_ | refine CallSF.mk (FnAt.fn0 (within n 0 1000002)) ?_
  simp (maxSteps := 1000000) -dsimp -implicitDefEqProofs only [go_sem, ↓reduceIte, keep154, ib154, mk154, Tryz.f154]
  all_goals rfl
def keep129 : List Nat := [0, 2, 3, 7, 15]
def ib129 : List Nat := []
def mk129 : Marks := fun _ => ([], .nil, [])
set_option maxRecDepth 100000 in
theorem l01Numbers (l : List Int) : Fn0 Tryz.prog 129 [sls 1 (fun n => [I n]) l] (.bool (decide (Nums l))) := by
  refine fn0F 16 keep129 ib129 mk129 mix Tryz.func129 rfl (by kernel_rfl) (by simp) fun h => ?_
  simp (maxSteps := 1000000) -dsimp -implicitDefEqProofs only [go_sem, ↓reduceIte, keep129, ib129, mk129, Tryz.f129]
  refine loopF (keep := keep129) (ib := ib129) (mk := mk129) mix (by kernel_rfl) (fun k : Nat => [(0, sls 1 (fun n => [I n]) l), (3, I k)]) (fun _ => h) (fun k => k ≤ (l).length ∧ ∀ x ∈ (l).take k, Num x) (fun k => (l).length - k) 0 (by simp [SatL, tget, Heap.le_refl]) ?_
  intro k ⟨hk, hp⟩
  rcases Nat.lt_or_ge k (l).length with hlt | hge
  · have ea : (l)[k]? = some (l)[k] := List.getElem?_eq_getElem hlt
    simp (maxSteps := 1000000) -dsimp -implicitDefEqProofs only [go_sem, ↓reduceIte, keep129, ib129, mk129, Tryz.f129, ea]
    repeat' (with_reducible first | intro _ | refine And.intro ?_ ?_)
    all_goals try omega
    first | refine HFnF.mk (l01Number l[k]) ?_ | refine CallSF.mk (l01Number l[k]) ?_ | refine HFnF.mkAt (l01Number l[k]) ?_ | refine CallSF.mk (FnAt.fn0 (l01Number l[k])) ?_
    simp (maxSteps := 1000000) -dsimp -implicitDefEqProofs only [go_sem, ↓reduceIte, keep129, ib129, mk129, Tryz.f129]
    repeat' (with_reducible first | intro _ | refine And.intro ?_ ?_)
    · rename_i he
      exact (decide_eq_false fun e => he (e _ (List.getElem_mem hlt))).symm
    · rename_i he
      refine ⟨k + 1, ?_⟩
      repeat' (with_reducible refine And.intro ?_ ?_)
      all_goals try (rw [IntWalk.i64_in _ (by omega)]; first | rfl | omega)
      all_goals try omega
      all_goals try (repeat' (with_reducible first | exact Heap.le_refl _ | refine (le_upd (by first | assumption | exact And.right (by assumption) | exact upd_none.2 (by assumption))).2 ?_))
      exact all_step hlt hp he
  · have hk' : k = (l).length := by omega
    subst hk'
    rw [List.take_length] at hp
    simp (maxSteps := 1000000) -dsimp -implicitDefEqProofs only [go_sem, ↓reduceIte, keep129, ib129, mk129, Tryz.f129, Nat.lt_irrefl]
    intro _
    exact (decide_eq_true hp).symm
def keep234 : List Nat := [0, 1, 4, 5, 7, 8, 9, 16]
def ib234 : List Nat := []
def mk234 : Marks := fun _ => ([], .nil, [])
set_option maxRecDepth 100000 in
theorem idxF_Int64S (a : List Int) (p : Int → Bool) (g : FuncId) (cap : List HVal) {h0 : Heap} (hc : ∀ x ∈ a, FnAt Tryz.prog g ([(.int .i64 x)] ++ cap) (.bool (p x)) h0) : FnAt Tryz.prog 234 [(sls 1 (fun n => [I n]) a), .fn (.func g) [] cap] (I (idxOf p a)) h0 := by
  refine fnAtF 19 keep234 ib234 mk234 mix Tryz.func234 rfl (by kernel_rfl) (by simp) fun h hle => ?_
  simp -dsimp -implicitDefEqProofs only [go_sem, ↓reduceIte, keep234, ib234, mk234, Tryz.f234, Tryz.f234]
  intro _
  refine loopF (keep := keep234) (ib := ib234) (mk := mk234) mix (by kernel_rfl) (fun k : Nat => [(0, (sls 1 (fun n => [I n]) a)), (1, .fn (.func g) [] cap), (7, I a.length), (8, I k)]) (fun _ => h) (fun k => k ≤ a.length ∧ ∀ x ∈ a.take k, p x = false) (fun k => a.length - k) 0 (by simp [SatL, tget, Heap.le_refl]) ?_
  intro k ⟨hk, hp⟩
  rcases Nat.lt_or_ge k a.length with hlt | hge
  · have ea : a[k]? = some a[k] := List.getElem?_eq_getElem hlt
    simp -dsimp -implicitDefEqProofs only [go_sem, ↓reduceIte, keep234, ib234, mk234, Tryz.f234, Tryz.f234, ea]
    repeat' (with_reducible first | intro _ | refine And.intro ?_ ?_)
    all_goals try omega
    have hx := hc a[k] (List.getElem_mem hlt)
    refine HFnF.mkAt (hx.mono hle) ?_
    cases hpk : p a[k] with
    | true =>
      simp -dsimp -implicitDefEqProofs only [go_sem, ↓reduceIte, keep234, ib234, mk234, Tryz.f234, Tryz.f234]
      repeat' (with_reducible first | intro _ | refine And.intro ?_ ?_)
      all_goals first | exact (idxOf_some hlt hp hpk).symm | rfl | (rw [idxOf_some hlt hp hpk])
    | false =>
      simp -dsimp -implicitDefEqProofs only [go_sem, ↓reduceIte, keep234, ib234, mk234, Tryz.f234, Tryz.f234]
      refine ⟨k + 1, ?_⟩
      repeat' (with_reducible refine And.intro ?_ ?_)
      all_goals try (rw [IntWalk.i64_in _ (by omega)]; first | rfl | omega)
      all_goals try omega
      exact all_step (P := fun x => p x = false) hlt hp hpk
  · have hk' : k = a.length := by omega
    subst hk'
    rw [List.take_length] at hp
    simp -dsimp -implicitDefEqProofs only [go_sem, ↓reduceIte, keep234, ib234, mk234, Tryz.f234, Tryz.f234, Nat.lt_irrefl]
    all_goals first | exact (idxOf_none hp).symm | rw [idxOf_none hp]
def keep152 : List Nat := [0, 1, 4]
def ib152 : List Nat := []
def mk152 : Marks := fun _ => ([], .nil, [])
set_option maxRecDepth 100000 in
theorem hasF_Int64S (a : List Int) (p : Int → Bool) (g : FuncId) (cap : List HVal) {h0 : Heap} (hc : ∀ x ∈ a, FnAt Tryz.prog g ([(.int .i64 x)] ++ cap) (.bool (p x)) h0) : FnAt Tryz.prog 152 [(sls 1 (fun n => [I n]) a), .fn (.func g) [] cap] (.bool (a.any p)) h0 := by
  refine fnAtF 9 keep152 ib152 mk152 mix Tryz.func152 rfl (by kernel_rfl) (by simp) fun h hle => ?_
  simp -dsimp -implicitDefEqProofs only [go_sem, ↓reduceIte, keep152, ib152, mk152, Tryz.f152, Tryz.f152]
  refine HFnF.mkAt ((idxF_Int64S a p g cap hc).mono hle) ?_
  simp -dsimp -implicitDefEqProofs only [go_sem, ↓reduceIte, keep152, ib152, mk152, Tryz.f152, Tryz.f152]
  all_goals first | done | exact idxOf_nonneg | rw [idxOf_nonneg]

def keep153 : List Nat := [0, 2]
def ib153 : List Nat := []
def mk153 : Marks := fun _ => ([], .nil, [])
theorem areNumbers1 (n : Int) : Fn0 Tryz.prog 153 [I n] (.bool (!decide (Num n))) := by
  refine fn0F 6 keep153 ib153 mk153 mix Tryz.func153 rfl (by kernel_rfl) (by simp) fun h => ?_
  simp (maxSteps := 1000000) -dsimp -implicitDefEqProofs only [go_sem, ↓reduceIte, keep153, ib153, mk153, Tryz.f153]
  first | refine HFnF.mk (isNumber n) ?_ | refine CallSF.mk (isNumber n) ?_ | refine HFnF.mkAt (isNumber n) ?_ | refine CallSF.mk (FnAt.fn0 (isNumber n)) ?_
  simp (maxSteps := 1000000) -dsimp -implicitDefEqProofs only [go_sem, ↓reduceIte, keep153, ib153, mk153, Tryz.f153]
def keep73 : List Nat := [0, 1, 4]
def ib73 : List Nat := []
def mk73 : Marks := fun _ => ([], .nil, [])
theorem areNumbers (l : List Int) (c : Int) : Fn0 Tryz.prog 73 [sls 1 (fun n => [I n]) l, I c] (.bool (decide ((l.length : Int) = c ∧ Nums l))) := by
  refine fn0F 14 keep73 ib73 mk73 mix Tryz.func73 rfl (by kernel_rfl) (by simp) fun h => ?_
  simp (maxSteps := 1000000) -dsimp -implicitDefEqProofs only [go_sem, ↓reduceIte, keep73, ib73, mk73, Tryz.f73]
  repeat' (with_reducible first | intro _ | refine And.intro ?_ ?_)
  all_goals try (first | (simp [*]; done) | omega | grind)
  first | refine HFnF.mk (hasF_Int64S l (fun n => !decide (Num n)) 153 [] fun x _ => (areNumbers1 x).toAt) ?_ | refine CallSF.mk (hasF_Int64S l (fun n => !decide (Num n)) 153 [] fun x _ => (areNumbers1 x).toAt) ?_ | refine HFnF.mkAt (hasF_Int64S l (fun n => !decide (Num n)) 153 [] fun x _ => (areNumbers1 x).toAt) ?_ | refine CallSF.mk (FnAt.fn0 (hasF_Int64S l (fun n => !decide (Num n)) 153 [] fun x _ => (areNumbers1 x).toAt)) ?_
  simp (maxSteps := 1000000) -dsimp -implicitDefEqProofs only [go_sem, ↓reduceIte, keep73, ib73, mk73, Tryz.f73]
  rename_i e
  rw [any_not, decide_eq_decide]
  exact ⟨fun q => ⟨e, q⟩, fun q => q.2⟩
open Go.Proofs
set_option linter.unusedVariables false
set_option linter.unusedSimpArgs false
def Low (c : UInt8) : Prop := 97 ≤ c.toNat ∧ c.toNat ≤ 122
def Dig (c : UInt8) : Prop := 48 ≤ c.toNat ∧ c.toNat ≤ 57
instance (c : UInt8) : Decidable (Low c) := inferInstanceAs (Decidable (_ ∧ _))
instance (c : UInt8) : Decidable (Dig c) := inferInstanceAs (Decidable (_ ∧ _))
def IsNm (s : List UInt8) : Prop := 1 ≤ s.length ∧ s.length ≤ 12 ∧ (∀ c, s[0]? = some c → Low c) ∧ ∀ c ∈ s, Low c ∨ Dig c
noncomputable instance (s : List UInt8) : Decidable (IsNm s) := Classical.propDecidable _
theorem isNm_step {s : List UInt8} {k : Nat} {c : UInt8} (h : k < s.length) (ec : s[k] = c) (hp : ∀ x ∈ s.take k, Low x ∨ Dig x) (he : Low c ∨ Dig c) : ∀ x ∈ s.take (k + 1), Low x ∨ Dig x :=
  all_step (P := fun x => Low x ∨ Dig x) h hp (by rw [ec]; exact he)
theorem not_isNm {s : List UInt8} {k : Nat} {c : UInt8} (h : k < s.length) (ec : s[k] = c) (he : ¬ (Low c ∨ Dig c)) : false = decide (IsNm s) :=
  (decide_eq_false fun e => he (ec ▸ e.2.2.2 _ (List.getElem_mem h))).symm
theorem not_isNm0 {s : List UInt8} {k : Nat} {c : UInt8} (h : k < s.length) (h0 : (k : Int) = 0) (ec : s[k] = c) (he : ¬ Low c) : false = decide (IsNm s) :=
  (decide_eq_false fun e => he (e.2.2.1 c (by have : k = 0 := by omega
                                              subst this; rw [List.getElem?_eq_getElem h, ec]))).symm
def keep247 : List Nat := [0, 2, 3, 17, 21, 45]
def ib247 : List Nat := []
def mk247 : Marks := fun _ => ([], .nil, [])
set_option maxRecDepth 100000 in
theorem specIsName (s : List UInt8) : Fn0 Tryz.prog 247 [.str s] (.bool (decide (IsNm s))) := by
  cases s with
  | nil =>
    refine fn0F 46 keep247 ib247 mk247 mix Tryz.func247 rfl (by kernel_rfl) (by simp) fun h => ?_
    simp (maxSteps := 1000000) -dsimp -implicitDefEqProofs only [go_sem, ↓reduceIte, keep247, ib247, mk247, Tryz.f247]
    first | refine HFnF.mk (l00In 0 1 12) ?_ | refine CallSF.mk (l00In 0 1 12) ?_ | refine HFnF.mkAt (l00In 0 1 12) ?_ | refine CallSF.mk (FnAt.fn0 (l00In 0 1 12)) ?_
    simp (maxSteps := 1000000) -dsimp -implicitDefEqProofs only [go_sem, ↓reduceIte, keep247, ib247, mk247, Tryz.f247]
    repeat' (with_reducible first | intro _ | refine And.intro ?_ ?_)
    all_goals try (first | (simp [IsNm, *]; done) | omega | (grind [IsNm]) | (simp [IsNm]; omega))
  | cons c t =>
    refine fn0F 46 keep247 ib247 mk247 mix Tryz.func247 rfl (by kernel_rfl) (by simp) fun h => ?_
    simp (maxSteps := 1000000) -dsimp -implicitDefEqProofs only [go_sem, ↓reduceIte, keep247, ib247, mk247, Tryz.f247, List.getElem?_cons_zero, Int.toNat_zero]
    intro _
    first | refine HFnF.mk (l00In (c :: t).length 1 12) ?_ | refine CallSF.mk (l00In (c :: t).length 1 12) ?_ | refine HFnF.mkAt (l00In (c :: t).length 1 12) ?_ | refine CallSF.mk (FnAt.fn0 (l00In (c :: t).length 1 12)) ?_
    simp (maxSteps := 1000000) -dsimp -implicitDefEqProofs only [go_sem, ↓reduceIte, keep247, ib247, mk247, Tryz.f247, List.getElem?_cons_zero, Int.toNat_zero]
    repeat' (with_reducible first | intro _ | refine And.intro ?_ ?_)
    all_goals try (first | (simp [IsNm, Low, Dig, *]; done) | omega | (grind [IsNm, Low, Dig]) | (simp [IsNm, Low, Dig]; omega))
    rename_i h0 h1 h2 h3
    generalize hs : c :: t = s at *
    refine loopF (keep := keep247) (ib := ib247) (mk := mk247) mix (by kernel_rfl) (fun k : Nat => [(0, .str s), (3, I k)]) (fun _ => h) (fun k => k ≤ s.length ∧ ∀ x ∈ s.take k, Low x ∨ Dig x) (fun k => s.length - k) 0 (by simp [SatL, tget, Heap.le_refl]) ?_
    intro k ⟨hk, hp⟩
    rcases Nat.lt_or_ge k s.length with hlt | hge
    · generalize ec : s[k] = d
      have ea : s[k]? = some d := by rw [← ec]; exact List.getElem?_eq_getElem hlt
      simp (maxSteps := 1000000) -dsimp -implicitDefEqProofs only [go_sem, ↓reduceIte, keep247, ib247, mk247, Tryz.f247, ea, Int.toNat_natCast]
      repeat' (with_reducible first | intro _ | refine And.intro ?_ ?_)
      all_goals try omega
      all_goals try exact not_isNm hlt ec (by simp only [Low, Dig]; omega)
      all_goals
        refine ⟨k + 1, ?_⟩
        repeat' (with_reducible refine And.intro ?_ ?_)
        all_goals try (rw [IntWalk.i64_in _ (by omega)]; first | rfl | omega)
        all_goals try omega
        all_goals try (repeat' (with_reducible first | exact Heap.le_refl _ | refine (le_upd (by first | assumption | exact And.right (by assumption) | exact upd_none.2 (by assumption))).2 ?_))
        exact isNm_step hlt ec hp (by simp only [Low, Dig]; omega)
    · have hk' : k = s.length := by omega
      subst hk'
      rw [List.take_length] at hp
      simp (maxSteps := 1000000) -dsimp -implicitDefEqProofs only [go_sem, ↓reduceIte, keep247, ib247, mk247, Tryz.f247, Nat.lt_irrefl]
      have : s.length = t.length + 1 := by rw [← hs]; rfl
      exact fun _ => (decide_eq_true ⟨by omega, by omega, fun x hx => by rw [← hs] at hx; simp at hx; subst hx; simp only [Low]; omega, hp⟩).symm
def keep192 : List Nat := [0, 2, 3, 5, 6, 7, 34]
def ib192 : List Nat := []
def mk192 : Marks := fun _ => ([], .nil, [])
set_option maxRecDepth 100000 in
theorem IsName (s : List UInt8) : Fn0 Tryz.prog 192 [.str s] (.bool (decide (IsNm s))) := by
  refine fn0F 44 keep192 ib192 mk192 mix Tryz.func192 rfl (by kernel_rfl) (by simp) fun h => ?_
  simp (maxSteps := 1000000) -dsimp -implicitDefEqProofs only [go_sem, ↓reduceIte, keep192, ib192, mk192, Tryz.f192]
  repeat' (with_reducible first | intro _ | refine And.intro ?_ ?_)
  refine loopF (keep := keep192) (ib := ib192) (mk := mk192) mix (by kernel_rfl) (fun k : Nat => [(0, .str s), (5, I s.length), (6, I k)]) (fun _ => h) (fun k => k ≤ s.length ∧ (∀ x ∈ s.take k, Low x ∨ Dig x) ∧ (0 < k → ∀ c, s[0]? = some c → Low c)) (fun k => s.length - k) 0 (by simp [SatL, tget, Heap.le_refl]) ?_
  intro k ⟨hk, hp, hz⟩
  rcases Nat.lt_or_ge k s.length with hlt | hge
  · generalize ec : s[k] = d
    have ea : s[k]? = some d := by rw [← ec]; exact List.getElem?_eq_getElem hlt
    have hz' : Low d ∨ ¬ ((k : Int) = 0) → ∀ c, s[0]? = some c → Low c := by
      intro q c hc
      by_cases h0 : k = 0
      · subst h0
        rw [ea] at hc
        obtain rfl := Option.some.inj hc
        exact q.resolve_right (by simp)
      · exact hz (by omega) c hc
    simp (maxSteps := 1000000) -dsimp -implicitDefEqProofs only [go_sem, ↓reduceIte, keep192, ib192, mk192, Tryz.f192, ea, Int.toNat_natCast]
    repeat' (with_reducible first | intro _ | refine And.intro ?_ ?_)
    all_goals try omega
    all_goals try exact not_isNm hlt ec (by simp only [Low, Dig]; omega)
    all_goals try exact not_isNm0 hlt (by omega) ec (by simp only [Low]; omega)
    all_goals
      refine ⟨k + 1, ?_⟩
      repeat' (with_reducible refine And.intro ?_ ?_)
      all_goals try (rw [IntWalk.i64_in _ (by omega)]; first | rfl | omega)
      all_goals try omega
      all_goals try (repeat' (with_reducible first | exact Heap.le_refl _ | refine (le_upd (by first | assumption | exact And.right (by assumption) | exact upd_none.2 (by assumption))).2 ?_))
      all_goals first | exact isNm_step hlt ec hp (by simp only [Low, Dig]; omega) | exact fun _ => hz' (by simp only [Low]; omega)
  · have hk' : k = s.length := by omega
    subst hk'
    rw [List.take_length] at hp
    simp (maxSteps := 1000000) -dsimp -implicitDefEqProofs only [go_sem, ↓reduceIte, keep192, ib192, mk192, Tryz.f192, Nat.lt_irrefl]
    repeat' (with_reducible first | intro _ | refine And.intro ?_ ?_)
    all_goals simp only [IsNm, decide_eq_decide, eq_comm (a := false), decide_eq_false_iff_not]
    all_goals grind
open Go.Proofs
set_option linter.unusedVariables false
set_option linter.unusedSimpArgs false
mutual
def DExpr.d : DExpr → Nat
  | .mk _ _ _ _ kids => DExpr.dL kids + 1
def DExpr.dL : List DExpr → Nat
  | [] => 0
  | x :: l => max x.d (DExpr.dL l)
end
theorem DExpr.d_eq (x : DExpr) : x.d = DExpr.dL x.fKids + 1 := by cases x; rfl
theorem DExpr.dL_take : ∀ {l : List DExpr} {k : Nat} (h : k < l.length), DExpr.dL (l.take (k + 1)) = max (DExpr.dL (l.take k)) l[k].d
  | x :: l, 0, _ => by simp [DExpr.dL]
  | x :: l, k + 1, h => by
    have := DExpr.dL_take (l := l) (k := k) (by simpa using h)
    simp only [List.take_succ_cons, DExpr.dL, this, List.getElem_cons_succ]
    omega
mutual
theorem DExpr.d_le : ∀ x : DExpr, x.d ≤ x.s + 1
  | .mk _ _ _ _ kids => by
    have := DExpr.dL_le kids
    simp only [DExpr.d, DExpr.s]; omega
theorem DExpr.dL_le : ∀ l : List DExpr, DExpr.dL l ≤ l.length + DExpr.sL l
  | [] => by simp [DExpr.dL]
  | x :: l => by
    have h1 := DExpr.d_le x
    have h2 := DExpr.dL_le l
    simp only [DExpr.dL, DExpr.sL, List.length_cons]; omega
end
theorem DExpr.kid_s {x y : DExpr} (h : y ∈ x.fKids) : y.s < x.s := by
  have h1 := sum_mem DExpr.s h
  have h2 := List.length_pos_of_mem h
  rw [x.s_eq, szs_eq]; omega
theorem DExpr.part_s (x : DExpr) {k : Nat} (h : k < x.fKids.length) : k + ((x.fKids.take k).map DExpr.s).sum + x.fKids[k].s + 1 ≤ x.s := by
  have h1 := sum_take_succ DExpr.s x.fKids k h
  have h2 := sum_take_le DExpr.s x.fKids (k + 1)
  rw [x.s_eq, szs_eq]; omega
theorem DExpr.all_s (x : DExpr) : x.fKids.length + ((x.fKids.take x.fKids.length).map DExpr.s).sum = x.s := by
  rw [List.take_length, x.s_eq, szs_eq]
def keep196 : List Nat := [0, 1, 2, 3, 5, 7, 8, 9, 10]
def ib196 : List Nat := [1]
def mk196 : Marks := fun _ => ([], .nil, [])
set_option maxRecDepth 100000 in
theorem ExprSize_step (x : DExpr) (hs : x.s ≤ 4294967296) (hc : ∀ y ∈ x.fKids, Fn0 Tryz.prog 196 [.agg y.c] (I ((y.s : Int) + 1))) : Fn0 Tryz.prog 196 [.agg x.c] (I ((x.s : Int) + 1)) := by
  have hx := x.all_s
  rw [DExpr.c_eq x]
  refine fn0F 19 keep196 ib196 mk196 mix Tryz.func196 rfl (by kernel_rfl) (by simp) fun h => ?_
  simp (maxSteps := 1000000) -dsimp -implicitDefEqProofs only [go_sem, ↓reduceIte, keep196, ib196, mk196, Tryz.f196]
  repeat' (with_reducible first | intro _ | refine And.intro ?_ ?_)
  refine loopF (keep := keep196) (ib := ib196) (mk := mk196) mix (by kernel_rfl) (fun k : Nat => [(1, .ip 5 [x.c] 0 0), (3, I (1 + k + (((x.fKids.take k).map DExpr.s).sum : Int))), (7, sls 5 DExpr.c x.fKids), (8, I x.fKids.length), (9, I k)]) (fun _ => h) (fun k => k ≤ x.fKids.length) (fun k => x.fKids.length - k) 0 (by simp [SatL, tget, Heap.le_refl, DExpr.c_eq]) ?_
  intro k hk
  rcases Nat.lt_or_ge k x.fKids.length with hlt | hge
  · have ea : x.fKids[k]? = some x.fKids[k] := List.getElem?_eq_getElem hlt
    have hp := x.part_s hlt
    have h1 := sum_take_succ DExpr.s x.fKids k hlt
    have hcy := hc x.fKids[k] (List.getElem_mem hlt)
    simp only [DExpr.c_eq] at hcy
    simp (maxSteps := 1000000) -dsimp -implicitDefEqProofs only [go_sem, ↓reduceIte, keep196, ib196, mk196, Tryz.f196, ea, DExpr.c_eq, upd_upd]
    repeat' (with_reducible first | intro _ | refine And.intro ?_ ?_)
    all_goals try omega
    first | refine HFnF.mk (hcy) ?_ | refine CallSF.mk (hcy) ?_ | refine HFnF.mkAt (hcy) ?_ | refine CallSF.mk (FnAt.fn0 (hcy)) ?_
    simp (maxSteps := 1000000) -dsimp -implicitDefEqProofs only [go_sem, ↓reduceIte, keep196, ib196, mk196, Tryz.f196]
    rename_i n hn
    refine ⟨k + 1, ?_⟩
    repeat' (with_reducible refine And.intro ?_ ?_)
    all_goals try (rw [IntWalk.i64_in _ (by omega)]; first | rfl | omega)
    all_goals try omega
    all_goals try (repeat' (with_reducible first | exact Heap.le_refl _ | refine (le_upd (by first | assumption | exact And.right (by assumption) | exact upd_none.2 (by assumption))).2 ?_))
    all_goals try (simp only [DExpr.c_eq]; done)
  · have hk' : k = x.fKids.length := by omega
    subst hk'
    simp (maxSteps := 1000000) -dsimp -implicitDefEqProofs only [go_sem, ↓reduceIte, keep196, ib196, mk196, Tryz.f196, Nat.lt_irrefl]
    omega
theorem ExprSize (x : DExpr) (hs : x.s ≤ 4294967296) : Fn0 Tryz.prog 196 [.agg x.c] (I ((x.s : Int) + 1)) :=
  ExprSize_step x hs fun y hy => ExprSize y (by have := DExpr.kid_s hy; omega)
termination_by SizeOf.sizeOf x
decreasing_by exact DExpr.kid_lt hy
def keep257 : List Nat := [0, 1, 2, 3, 5, 7, 8, 9, 10]
def ib257 : List Nat := [1]
def mk257 : Marks := fun _ => ([], .nil, [])
set_option maxRecDepth 100000 in
theorem ExprDepth_step (x : DExpr) (hs : x.s ≤ 4294967296) (hc : ∀ y ∈ x.fKids, Fn0 Tryz.prog 257 [.agg y.c] (I (y.d : Int))) : Fn0 Tryz.prog 257 [.agg x.c] (I (x.d : Int)) := by
  have hd := x.d_le
  rw [DExpr.d_eq] at hd ⊢
  rw [DExpr.c_eq x]
  refine fn0F 20 keep257 ib257 mk257 mix Tryz.func257 rfl (by kernel_rfl) (by simp) fun h => ?_
  simp (maxSteps := 1000000) -dsimp -implicitDefEqProofs only [go_sem, ↓reduceIte, keep257, ib257, mk257, Tryz.f257]
  repeat' (with_reducible first | intro _ | refine And.intro ?_ ?_)
  refine loopF (keep := keep257) (ib := ib257) (mk := mk257) mix (by kernel_rfl) (fun k : Nat => [(1, .ip 5 [x.c] 0 0), (3, I (DExpr.dL (x.fKids.take k) : Int)), (7, sls 5 DExpr.c x.fKids), (8, I x.fKids.length), (9, I k)]) (fun _ => h) (fun k => k ≤ x.fKids.length) (fun k => x.fKids.length - k) 0 (by simp [SatL, tget, Heap.le_refl, DExpr.c_eq, DExpr.dL]) ?_
  intro k hk
  rcases Nat.lt_or_ge k x.fKids.length with hlt | hge
  · have ea : x.fKids[k]? = some x.fKids[k] := List.getElem?_eq_getElem hlt
    have h1 := DExpr.dL_take hlt
    have hcy := hc x.fKids[k] (List.getElem_mem hlt)
    simp only [DExpr.c_eq] at hcy
    simp (maxSteps := 1000000) -dsimp -implicitDefEqProofs only [go_sem, ↓reduceIte, keep257, ib257, mk257, Tryz.f257, ea, DExpr.c_eq, upd_upd]
    repeat' (with_reducible first | intro _ | refine And.intro ?_ ?_)
    all_goals try omega
    first | refine HFnF.mk (hcy) ?_ | refine CallSF.mk (hcy) ?_ | refine HFnF.mkAt (hcy) ?_ | refine CallSF.mk (FnAt.fn0 (hcy)) ?_
    simp (maxSteps := 1000000) -dsimp -implicitDefEqProofs only [go_sem, ↓reduceIte, keep257, ib257, mk257, Tryz.f257]
    repeat' (with_reducible first | intro _ | refine And.intro ?_ ?_)
    all_goals try rfl
    rename_i n hn
    refine ⟨k + 1, ?_⟩
    repeat' (with_reducible refine And.intro ?_ ?_)
    all_goals try (rw [IntWalk.i64_in _ (by omega)]; first | rfl | omega)
    all_goals try omega
    all_goals try (repeat' (with_reducible first | exact Heap.le_refl _ | refine (le_upd (by first | assumption | exact And.right (by assumption) | exact upd_none.2 (by assumption))).2 ?_))
    all_goals try (simp only [DExpr.c_eq]; done)
  · have hk' : k = x.fKids.length := by omega
    subst hk'
    simp (maxSteps := 1000000) -dsimp -implicitDefEqProofs only [go_sem, ↓reduceIte, keep257, ib257, mk257, Tryz.f257, Nat.lt_irrefl]
    rw [List.take_length, IntWalk.i64_in _ (by omega)]; omega
theorem ExprDepth (x : DExpr) (hs : x.s ≤ 4294967296) : Fn0 Tryz.prog 257 [.agg x.c] (I (x.d : Int)) :=
  ExprDepth_step x hs fun y hy => ExprDepth y (by have := DExpr.kid_s hy; omega)
termination_by SizeOf.sizeOf x
decreasing_by exact DExpr.kid_lt hy
def keep248 : List Nat := [0, 1, 4, 5, 18]
def ib248 : List Nat := []
def mk248 : Marks := fun _ => ([], .nil, [])
set_option maxRecDepth 100000 in
theorem l02Left_step (x : DExpr) (left : Int) (h0 : 0 ≤ left) (h9 : left ≤ 4294967296) (hs : x.s ≤ 4294967296) (hc : ∀ y ∈ x.fKids, ∀ left : Int, 0 ≤ left → left ≤ 4294967296 → Fn0 Tryz.prog 248 [.ip 5 [y.c] 0 0, I left] (I (lft left (y.s + 1)))) : Fn0 Tryz.prog 248 [.ip 5 [x.c] 0 0, I left] (I (lft left (x.s + 1))) := by
  have hx := x.all_s
  rw [DExpr.c_eq x]
  refine fn0F 30 keep248 ib248 mk248 mix Tryz.func248 rfl (by kernel_rfl) (by simp) fun h => ?_
  simp (maxSteps := 1000000) -dsimp -implicitDefEqProofs only [go_sem, ↓reduceIte, keep248, ib248, mk248, Tryz.f248]
  repeat' (with_reducible first | intro _ | refine And.intro ?_ ?_)
  refine loopF (keep := keep248) (ib := ib248) (mk := mk248) mix (by kernel_rfl) (fun k : Nat => [(0, .ip 5 [x.c] 0 0), (1, I (lft left (1 + k + ((x.fKids.take k).map DExpr.s).sum))), (5, I k)]) (fun _ => h) (fun k => k ≤ x.fKids.length) (fun k => x.fKids.length - k) 0 (by simp [SatL, tget, Heap.le_refl, DExpr.c_eq]; rw [IntWalk.i64_in _ (by omega)]; unfold lft; split <;> omega) ?_
  intro k hk
  rcases Nat.lt_or_ge k x.fKids.length with hlt | hge
  · have hp := x.part_s hlt
    have h1 := sum_take_succ DExpr.s x.fKids k hlt
    rcases lft_cases left (1 + k + ((x.fKids.take k).map DExpr.s).sum) with ⟨e, hl⟩ | ⟨e, hl⟩
    · rw [e, DExpr.c_eq x]
      simp (maxSteps := 1000000) -dsimp -implicitDefEqProofs only [go_sem, ↓reduceIte, keep248, ib248, mk248, Tryz.f248]
      repeat' (with_reducible first | intro _ | refine And.intro ?_ ?_)
      all_goals try omega
      exact (lft_neg (by omega)).symm
    · rw [e, DExpr.c_eq x]
      simp (maxSteps := 1000000) -dsimp -implicitDefEqProofs only [go_sem, ↓reduceIte, keep248, ib248, mk248, Tryz.f248]
      repeat' (with_reducible first | intro _ | refine And.intro ?_ ?_)
      all_goals try omega
      first | refine CallSF.mk ((hc x.fKids[k] (List.getElem_mem hlt) _ hl (by omega)).sub (by repeat' (first | exact SubL.nil | refine SubL.cons ?_ ?_ | exact Sub.refl _ | (rw [DExpr.c_eq]; exact Sub.refl _) | exact Sub.ipAt rfl rfl rfl | exact Sub.ip (map_get (by omega)) (by simp) | exact Sub.ipAt (map_get (by omega)) rfl rfl | exact Sub.ip (by simp [*]) (by simp) | exact Sub.ipAt (by simp [*]) (by rfl) (by rfl)))) ?_ | refine HFnF.mk ((hc x.fKids[k] (List.getElem_mem hlt) _ hl (by omega)).sub (by repeat' (first | exact SubL.nil | refine SubL.cons ?_ ?_ | exact Sub.refl _ | (rw [DExpr.c_eq]; exact Sub.refl _) | exact Sub.ipAt rfl rfl rfl | exact Sub.ip (map_get (by omega)) (by simp) | exact Sub.ipAt (map_get (by omega)) rfl rfl | exact Sub.ip (by simp [*]) (by simp) | exact Sub.ipAt (by simp [*]) (by rfl) (by rfl)))) ?_
      simp (maxSteps := 1000000) -dsimp -implicitDefEqProofs only [go_sem, ↓reduceIte, keep248, ib248, mk248, Tryz.f248]
      refine ⟨k + 1, ?_⟩
      repeat' (with_reducible refine And.intro ?_ ?_)
      all_goals try (rw [IntWalk.i64_in _ (by omega)]; first | rfl | omega)
      all_goals try omega
      all_goals try (repeat' (with_reducible first | exact Heap.le_refl _ | refine (le_upd (by first | assumption | exact And.right (by assumption) | exact upd_none.2 (by assumption))).2 ?_))
      all_goals try (simp only [DExpr.c_eq]; done)
      all_goals (rw [h1]; unfold lft; split <;> split <;> omega)
  · have hk' : k = x.fKids.length := by omega
    subst hk'
    rw [DExpr.c_eq x]
    simp (maxSteps := 1000000) -dsimp -implicitDefEqProofs only [go_sem, ↓reduceIte, keep248, ib248, mk248, Tryz.f248, Nat.lt_irrefl]
    rw [show 1 + x.fKids.length + ((x.fKids.take x.fKids.length).map DExpr.s).sum = x.s + 1 by omega]
    exact fun _ => rfl
theorem l02Left (x : DExpr) (left : Int) (h0 : 0 ≤ left) (h9 : left ≤ 4294967296) (hs : x.s ≤ 4294967296) : Fn0 Tryz.prog 248 [.ip 5 [x.c] 0 0, I left] (I (lft left (x.s + 1))) :=
  l02Left_step x left h0 h9 hs fun y hy left h0 h9 => l02Left y left h0 h9 (by have := DExpr.kid_s hy; omega)
termination_by SizeOf.sizeOf x
decreasing_by exact DExpr.kid_lt hy
def keep254 : List Nat := [0, 1, 4, 7]
def ib254 : List Nat := []
def mk254 : Marks := fun _ => ([], .nil, [])
theorem l00Max (a b : Int) : Fn0 Tryz.prog 254 [I a, I b] (I (max a b)) := by
  refine fn0F 10 keep254 ib254 mk254 mix Tryz.func254 rfl (by kernel_rfl) (by simp) fun h => ?_
  simp (maxSteps := 1000000) -dsimp -implicitDefEqProofs only [go_sem, ↓reduceIte, keep254, ib254, mk254, Tryz.f254]
  repeat' (with_reducible first | intro _ | refine And.intro ?_ ?_)
  all_goals omega
def keep284 : List Nat := [0, 2, 3, 4, 11]
def ib284 : List Nat := []
def mk284 : Marks := fun _ => ([], .nil, [])
set_option maxRecDepth 100000 in
theorem l02Depth_step (x : DExpr) (hs : x.s ≤ 4294967296) (hc : ∀ y ∈ x.fKids, Fn0 Tryz.prog 284 [.ip 5 [y.c] 0 0] (I (y.d : Int))) : Fn0 Tryz.prog 284 [.ip 5 [x.c] 0 0] (I (x.d : Int)) := by
  have hd := x.d_le
  rw [DExpr.d_eq] at hd ⊢
  rw [DExpr.c_eq x]
  refine fn0F 25 keep284 ib284 mk284 mix Tryz.func284 rfl (by kernel_rfl) (by simp) fun h => ?_
  simp (maxSteps := 1000000) -dsimp -implicitDefEqProofs only [go_sem, ↓reduceIte, keep284, ib284, mk284, Tryz.f284]
  repeat' (with_reducible first | intro _ | refine And.intro ?_ ?_)
  refine loopF (keep := keep284) (ib := ib284) (mk := mk284) mix (by kernel_rfl) (fun k : Nat => [(0, .ip 5 [x.c] 0 0), (3, I (DExpr.dL (x.fKids.take k) : Int)), (4, I k)]) (fun _ => h) (fun k => k ≤ x.fKids.length) (fun k => x.fKids.length - k) 0 (by simp [SatL, tget, Heap.le_refl, DExpr.c_eq, DExpr.dL]) ?_
  intro k hk
  rw [DExpr.c_eq x]
  rcases Nat.lt_or_ge k x.fKids.length with hlt | hge
  · have h1 := DExpr.dL_take hlt
    simp (maxSteps := 1000000) -dsimp -implicitDefEqProofs only [go_sem, ↓reduceIte, keep284, ib284, mk284, Tryz.f284]
    repeat' (with_reducible first | intro _ | refine And.intro ?_ ?_)
    all_goals try omega
    first | refine CallSF.mk ((hc x.fKids[k] (List.getElem_mem hlt)).sub (by repeat' (first | exact SubL.nil | refine SubL.cons ?_ ?_ | exact Sub.refl _ | (rw [DExpr.c_eq]; exact Sub.refl _) | exact Sub.ipAt rfl rfl rfl | exact Sub.ip (map_get (by omega)) (by simp) | exact Sub.ipAt (map_get (by omega)) rfl rfl | exact Sub.ip (by simp [*]) (by simp) | exact Sub.ipAt (by simp [*]) (by rfl) (by rfl)))) ?_ | refine HFnF.mk ((hc x.fKids[k] (List.getElem_mem hlt)).sub (by repeat' (first | exact SubL.nil | refine SubL.cons ?_ ?_ | exact Sub.refl _ | (rw [DExpr.c_eq]; exact Sub.refl _) | exact Sub.ipAt rfl rfl rfl | exact Sub.ip (map_get (by omega)) (by simp) | exact Sub.ipAt (map_get (by omega)) rfl rfl | exact Sub.ip (by simp [*]) (by simp) | exact Sub.ipAt (by simp [*]) (by rfl) (by rfl)))) ?_
    simp (maxSteps := 1000000) -dsimp -implicitDefEqProofs only [go_sem, ↓reduceIte, keep284, ib284, mk284, Tryz.f284]
    first | refine HFnF.mk (l00Max _ _) ?_ | refine CallSF.mk (l00Max _ _) ?_ | refine HFnF.mkAt (l00Max _ _) ?_ | refine CallSF.mk (FnAt.fn0 (l00Max _ _)) ?_
    simp (maxSteps := 1000000) -dsimp -implicitDefEqProofs only [go_sem, ↓reduceIte, keep284, ib284, mk284, Tryz.f284]
    refine ⟨k + 1, ?_⟩
    repeat' (with_reducible refine And.intro ?_ ?_)
    all_goals try (rw [IntWalk.i64_in _ (by omega)]; first | rfl | omega)
    all_goals try omega
    all_goals try (repeat' (with_reducible first | exact Heap.le_refl _ | refine (le_upd (by first | assumption | exact And.right (by assumption) | exact upd_none.2 (by assumption))).2 ?_))
    all_goals try (simp only [DExpr.c_eq]; done)
  · have hk' : k = x.fKids.length := by omega
    subst hk'
    simp (maxSteps := 1000000) -dsimp -implicitDefEqProofs only [go_sem, ↓reduceIte, keep284, ib284, mk284, Tryz.f284, Nat.lt_irrefl]
    intro _
    rw [List.take_length, IntWalk.i64_in _ (by omega)]; omega
theorem l02Depth (x : DExpr) (hs : x.s ≤ 4294967296) : Fn0 Tryz.prog 284 [.ip 5 [x.c] 0 0] (I (x.d : Int)) :=
  l02Depth_step x hs fun y hy => l02Depth y (by have := DExpr.kid_s hy; omega)
termination_by SizeOf.sizeOf x
decreasing_by exact DExpr.kid_lt hy

open Go.Proofs
set_option linter.unusedVariables false
set_option linter.unusedSimpArgs false
def kidsN (k : Int) : Int := if k = 1 ∨ k = 2 then 0 else if k = 3 ∨ k = 4 ∨ k = 5 ∨ k = 6 ∨ k = 9 then 2 else if k = 7 then 1 else if k = 8 then 3 else -1
/-- What is asked of one node. -/
def nodeOK (p : DProgram) (e : DExpr) (vars funcs : Int) : Prop :=
  if e.fKind = 10 ∨ e.fKind = 11 then
    0 ≤ e.fNum ∧ e.fNum ≤ funcs - 1 ∧ ∀ f, p.fFuncs[e.fNum.toNat]? = some f →
      0 ≤ e.fPick ∧ e.fPick ≤ (f.fOuts.length : Int) - 1 ∧ (e.fKids.length : Int) = f.fParams ∧ (e.fKind = 10 → e.fCount = 0) ∧ (e.fKind = 11 → 0 ≤ e.fCount ∧ e.fCount ≤ 8 ∧ (f.fOuts.length : Int) = f.fParams)
  else kidsN e.fKind = e.fKids.length ∧ e.fPick = 0 ∧ e.fCount = 0 ∧ (e.fKind = 1 → Num e.fNum) ∧ (e.fKind = 2 → 0 ≤ e.fNum ∧ e.fNum ≤ vars - 1) ∧ (e.fKind ≠ 1 → e.fKind ≠ 2 → e.fNum = 0)
noncomputable instance (p : DProgram) (e : DExpr) (vars funcs : Int) : Decidable (nodeOK p e vars funcs) := Classical.propDecidable _
def moreV (kind : Int) (i : Nat) (vars : Int) : Int := if kind = 9 ∧ i = 1 then vars + 1 else vars
mutual
def DExpr.ok (p : DProgram) (funcs : Int) : DExpr → Int → Prop
  | .mk a b c d kids, vars => nodeOK p (.mk a b c d kids) vars funcs ∧ DExpr.okL p funcs a kids 0 vars
def DExpr.okL (p : DProgram) (funcs : Int) (kind : Int) : List DExpr → Nat → Int → Prop
  | [], _, _ => True
  | x :: l, i, vars => x.ok p funcs (moreV kind i vars) ∧ DExpr.okL p funcs kind l (i + 1) vars
end
noncomputable instance (p : DProgram) (funcs : Int) (e : DExpr) (vars : Int) : Decidable (e.ok p funcs vars) := Classical.propDecidable _
theorem DExpr.okL_iff (p : DProgram) (funcs kind : Int) : ∀ (l : List DExpr) (i : Nat) (vars : Int), DExpr.okL p funcs kind l i vars ↔ ∀ (k : Nat) (h : k < l.length), l[k].ok p funcs (moreV kind (i + k) vars)
  | [], i, vars => by simp [DExpr.okL]
  | x :: l, i, vars => by
    rw [DExpr.okL, DExpr.okL_iff p funcs kind l (i + 1) vars]
    constructor
    · rintro ⟨h1, h2⟩ k hk
      cases k with
      | zero => exact h1
      | succ k => have := h2 k (by simpa using hk); rw [show i + 1 + k = i + (k + 1) by omega] at this; exact this
    · intro h
      refine ⟨h 0 (by simp), fun k hk => ?_⟩
      have := h (k + 1) (by simpa using hk)
      rw [show i + 1 + k = i + (k + 1) by omega]; exact this
theorem DExpr.ok_iff (p : DProgram) (funcs : Int) (x : DExpr) (vars : Int) : x.ok p funcs vars ↔ nodeOK p x vars funcs ∧ ∀ (k : Nat) (h : k < x.fKids.length), x.fKids[k].ok p funcs (moreV x.fKind k vars) := by
  cases x with
  | mk a b c d kids =>
    rw [DExpr.ok, DExpr.okL_iff]
    simp only [Nat.zero_add, DExpr.fKids, DExpr.fKind]
theorem DProgram.len_s (p : DProgram) : p.fFuncs.length ≤ p.s := by rw [p.s_eq, szs_eq]; omega
theorem DProgram.func_s {p : DProgram} {f : DFunc} (h : f ∈ p.fFuncs) : f.s + p.fFuncs.length ≤ p.s := by
  have := sum_mem DFunc.s h
  rw [p.s_eq, szs_eq]; omega
theorem DFunc.outs_s (f : DFunc) : f.fOuts.length ≤ f.s := by rw [f.s_eq, szs_eq]; omega
theorem DFunc.out_s {f : DFunc} {e : DExpr} (h : e ∈ f.fOuts) : e.s < f.s := by
  have := sum_mem DExpr.s h
  have := List.length_pos_of_mem h
  rw [f.s_eq, szs_eq]; omega
def keep309 : List Nat := [0, 2, 3, 4, 7, 13, 15]
def ib309 : List Nat := []
def mk309 : Marks := fun _ => ([], .nil, [])
theorem l02Kids (k : Int) : Fn0 Tryz.prog 309 [I k] (I (kidsN k)) := by
  refine fn0F 17 keep309 ib309 mk309 mix Tryz.func309 rfl (by kernel_rfl) (by simp) fun h => ?_
  simp (maxSteps := 1000000) -dsimp -implicitDefEqProofs only [go_sem, ↓reduceIte, keep309, ib309, mk309, Tryz.f309]
  repeat' (with_reducible first | intro _ | refine And.intro ?_ ?_)
  all_goals try (first | (simp [kidsN, *]; done) | omega | (grind [kidsN]) | (simp [kidsN]; omega))
theorem nodeOK_call {p : DProgram} {e : DExpr} {vars funcs : Int} (hk : e.fKind = 10 ∨ e.fKind = 11) {f : DFunc} (ef : p.fFuncs[e.fNum.toNat]? = some f) : nodeOK p e vars funcs ↔
    0 ≤ e.fNum ∧ e.fNum ≤ funcs - 1 ∧ 0 ≤ e.fPick ∧ e.fPick ≤ (f.fOuts.length : Int) - 1 ∧ (e.fKids.length : Int) = f.fParams ∧ (e.fKind = 10 → e.fCount = 0) ∧ (e.fKind = 11 → 0 ≤ e.fCount ∧ e.fCount ≤ 8 ∧ (f.fOuts.length : Int) = f.fParams) := by
  unfold nodeOK
  rw [if_pos hk]
  simp [ef]
theorem nodeOK_range {p : DProgram} {e : DExpr} {vars funcs : Int} (hk : e.fKind = 10 ∨ e.fKind = 11) (hr : ¬ (0 ≤ e.fNum ∧ e.fNum ≤ funcs - 1)) : ¬ nodeOK p e vars funcs := by
  unfold nodeOK
  rw [if_pos hk]
  intro h
  exact hr ⟨h.1, h.2.1⟩
theorem nodeOK_plain {p : DProgram} {e : DExpr} {vars funcs : Int} (hk : ¬ (e.fKind = 10 ∨ e.fKind = 11)) : nodeOK p e vars funcs ↔
    kidsN e.fKind = e.fKids.length ∧ e.fPick = 0 ∧ e.fCount = 0 ∧ (e.fKind = 1 → Num e.fNum) ∧ (e.fKind = 2 → 0 ≤ e.fNum ∧ e.fNum ≤ vars - 1) ∧ (e.fKind ≠ 1 → e.fKind ≠ 2 → e.fNum = 0) := by
  unfold nodeOK
  rw [if_neg hk]
def keep304 : List Nat := [0, 1, 2, 3, 8, 9, 21, 29, 62, 67, 114, 118, 119, 126]
def ib304 : List Nat := []
def mk304 : Marks := fun id => match id with | 4 => ([], (.op 0 (.op 1 (.op 2 (.op 3 (.op 4 (.op 5 (.op 6 (.op 7 (.op 8 (.op 9 .nil)))))))))), []) | 5 => ([], (.op 0 (.op 1 (.op 2 (.op 3 (.op 4 (.op 5 (.op 6 (.op 7 (.op 8 (.op 9 (.op 10 (.op 11 (.op 12 (.op 13 (.op 14 (.op 15 (.op 16 (.op 17 (.op 18 (.op 19 (.op 20 (.op 21 (.op 22 (.op 23 .nil)))))))))))))))))))))))), []) | 9 => ([], (.op 0 (.op 1 (.op 2 (.op 3 (.op 4 (.op 5 (.op 6 (.op 7 (.op 8 (.op 9 (.op 10 (.op 11 (.op 12 (.op 13 (.op 14 (.op 15 (.op 16 (.op 17 .nil)))))))))))))))))), []) | 10 => ([], (.op 0 (.op 1 (.op 2 (.op 3 (.op 4 (.op 5 (.op 6 (.op 7 (.op 8 (.op 9 (.op 10 (.op 11 (.op 12 (.op 13 (.op 14 (.op 15 (.op 16 (.op 17 (.op 18 (.op 19 (.op 20 (.op 21 (.op 22 (.op 23 (.op 24 .nil))))))))))))))))))))))))), []) | _ => ([], .nil, [])
set_option maxRecDepth 100000 in
theorem l02Node (p : DProgram) (e : DExpr) (vars funcs : Int) (hv : 0 ≤ vars) (hv2 : vars ≤ 4294967296) (hf0 : 0 ≤ funcs) (hf : funcs ≤ p.fFuncs.length) (hps : p.s ≤ 4294967296) : Fn0 Tryz.prog 304 [.ip 1 [p.c] 0 0, .ip 5 [e.c] 0 0, I vars, I funcs] (.bool (decide (nodeOK p e vars funcs))) := by
  have hl := p.len_s
  have e1 : IntKind.i64.wrap (funcs - 1) = funcs - 1 := IntWalk.i64_in _ (by omega)
  have e2 : IntKind.i64.wrap (vars - 1) = vars - 1 := IntWalk.i64_in _ (by omega)
  rw [DExpr.c_eq]
  simp only [DProgram.c_eq]
  by_cases hk : e.fKind = 10 ∨ e.fKind = 11
  · by_cases hr : 0 ≤ e.fNum ∧ e.fNum ≤ funcs - 1
    · obtain ⟨f, ef⟩ : ∃ f, p.fFuncs[e.fNum.toNat]? = some f := ⟨_, List.getElem?_eq_getElem (by omega)⟩
      have hn := nodeOK_call (vars := vars) (funcs := funcs) hk ef
      have hfs := DProgram.func_s (List.mem_of_getElem? ef)
      have hos := f.outs_s
      refine fn0F 140 keep304 ib304 mk304 mix Tryz.func304 rfl (by kernel_rfl) (by simp) fun h => ?_
      simp (maxSteps := 1000000) -dsimp -implicitDefEqProofs only [go_sem, ↓reduceIte, keep304, ib304, mk304, Tryz.f304, e1, e2]
      repeat' (with_reducible first | intro _ | refine And.intro ?_ ?_)
      all_goals try omega
      all_goals (first | refine HFnF.mk (l00In e.fNum 0 (funcs - 1)) ?_ | refine CallSF.mk (l00In e.fNum 0 (funcs - 1)) ?_)
      all_goals simp (maxSteps := 1000000) -dsimp -implicitDefEqProofs only [go_sem, ↓reduceIte, keep304, ib304, mk304, Tryz.f304, ef, DFunc.c_eq]
      all_goals repeat' (with_reducible first | intro _ | refine And.intro ?_ ?_)
      all_goals try omega
      all_goals try simp (disch := omega) only [IntWalk.i64_in]
      all_goals (first | refine HFnF.mk (l00In e.fPick 0 (f.fOuts.length - 1)) ?_ | refine CallSF.mk (l00In e.fPick 0 (f.fOuts.length - 1)) ?_)
      all_goals simp (maxSteps := 1000000) -dsimp -implicitDefEqProofs only [go_sem, ↓reduceIte, keep304, ib304, mk304, Tryz.f304, ef, DFunc.c_eq]
      all_goals repeat' (with_reducible first | intro _ | refine And.intro ?_ ?_)
      all_goals try omega
      all_goals try (first | (simp [*]; done) | omega | grind)
      first | refine HFnF.mk (l00In e.fCount 0 8) ?_ | refine CallSF.mk (l00In e.fCount 0 8) ?_ | refine HFnF.mkAt (l00In e.fCount 0 8) ?_ | refine CallSF.mk (FnAt.fn0 (l00In e.fCount 0 8)) ?_
      simp (maxSteps := 1000000) -dsimp -implicitDefEqProofs only [go_sem, ↓reduceIte, keep304, ib304, mk304, Tryz.f304, ef, DFunc.c_eq]
      repeat' (with_reducible first | intro _ | refine And.intro ?_ ?_)
      all_goals try (first | (simp [*]; done) | omega | grind)
    · have hn := nodeOK_range (p := p) (vars := vars) hk hr
      refine fn0F 140 keep304 ib304 mk304 mix Tryz.func304 rfl (by kernel_rfl) (by simp) fun h => ?_
      simp (maxSteps := 1000000) -dsimp -implicitDefEqProofs only [go_sem, ↓reduceIte, keep304, ib304, mk304, Tryz.f304, e1, e2]
      repeat' (with_reducible first | intro _ | refine And.intro ?_ ?_)
      all_goals try omega
      all_goals (first | refine HFnF.mk (l00In e.fNum 0 (funcs - 1)) ?_ | refine CallSF.mk (l00In e.fNum 0 (funcs - 1)) ?_)
      all_goals simp (maxSteps := 1000000) -dsimp -implicitDefEqProofs only [go_sem, ↓reduceIte, keep304, ib304, mk304, Tryz.f304]
      all_goals repeat' (with_reducible first | intro _ | refine And.intro ?_ ?_)
      all_goals try (first | (simp [*]; done) | omega | grind)
  · have hn := nodeOK_plain (p := p) (vars := vars) (funcs := funcs) hk
    refine fn0F 140 keep304 ib304 mk304 mix Tryz.func304 rfl (by kernel_rfl) (by simp) fun h => ?_
    simp (maxSteps := 1000000) -dsimp -implicitDefEqProofs only [go_sem, ↓reduceIte, keep304, ib304, mk304, Tryz.f304, e1, e2]
    repeat' (with_reducible first | intro _ | refine And.intro ?_ ?_)
    all_goals try omega
    first | refine HFnF.mk (l02Kids e.fKind) ?_ | refine CallSF.mk (l02Kids e.fKind) ?_ | refine HFnF.mkAt (l02Kids e.fKind) ?_ | refine CallSF.mk (FnAt.fn0 (l02Kids e.fKind)) ?_
    simp (maxSteps := 1000000) -dsimp -implicitDefEqProofs only [go_sem, ↓reduceIte, keep304, ib304, mk304, Tryz.f304]
    repeat' (with_reducible first | intro _ | refine And.intro ?_ ?_)
    all_goals try (first | (simp [*]; done) | omega | grind)
    · first | refine HFnF.mk (l01Number e.fNum) ?_ | refine CallSF.mk (l01Number e.fNum) ?_ | refine HFnF.mkAt (l01Number e.fNum) ?_ | refine CallSF.mk (FnAt.fn0 (l01Number e.fNum)) ?_
      simp (maxSteps := 1000000) -dsimp -implicitDefEqProofs only [go_sem, ↓reduceIte, keep304, ib304, mk304, Tryz.f304]
      all_goals try (first | (simp [*]; done) | omega | grind)
    · all_goals try simp (disch := omega) only [IntWalk.i64_in]
      first | refine HFnF.mk (l00In e.fNum 0 (vars - 1)) ?_ | refine CallSF.mk (l00In e.fNum 0 (vars - 1)) ?_ | refine HFnF.mkAt (l00In e.fNum 0 (vars - 1)) ?_ | refine CallSF.mk (FnAt.fn0 (l00In e.fNum 0 (vars - 1))) ?_
      simp (maxSteps := 1000000) -dsimp -implicitDefEqProofs only [go_sem, ↓reduceIte, keep304, ib304, mk304, Tryz.f304]
      all_goals try (first | (simp [*]; done) | omega | grind)
def keep258 : List Nat := [0, 1, 2, 3, 4, 6, 7, 8, 9, 10, 11, 12, 25, 26, 38, 52, 68, 69, 81, 82, 94, 95, 104, 125, 152, 154, 155, 156, 157, 168, 175]
def ib258 : List Nat := [3, 4]
def mk258 : Marks := fun _ => ([], .nil, [])
open Go.Proofs
set_option linter.unusedVariables false
set_option linter.unusedSimpArgs false
def keep285 : List Nat := [0, 1, 2, 3, 8, 9, 10, 16, 23, 35, 48]
def ib285 : List Nat := []
def mk285 : Marks := fun _ => ([], .nil, [])
set_option maxRecDepth 100000 in
theorem l02Tree_step (p : DProgram) (e : DExpr) (vars funcs : Int) (hv : 0 ≤ vars) (hv2 : vars + e.s ≤ 4294967296) (hf0 : 0 ≤ funcs) (hf : funcs ≤ p.fFuncs.length) (hps : p.s ≤ 4294967296)
    (hc : ∀ y ∈ e.fKids, ∀ vars : Int, 0 ≤ vars → vars + y.s ≤ 4294967296 → Fn0 Tryz.prog 285 [.ip 1 [p.c] 0 0, .ip 5 [y.c] 0 0, I vars, I funcs] (.bool (decide (y.ok p funcs vars)))) :
    Fn0 Tryz.prog 285 [.ip 1 [p.c] 0 0, .ip 5 [e.c] 0 0, I vars, I funcs] (.bool (decide (e.ok p funcs vars))) := by
  have hok := DExpr.ok_iff p funcs e vars
  simp only [DExpr.c_eq, DProgram.c_eq]
  refine fn0F 49 keep285 ib285 mk285 mix Tryz.func285 rfl (by kernel_rfl) (by simp) fun h => ?_
  simp (maxSteps := 1000000) -dsimp -implicitDefEqProofs only [go_sem, ↓reduceIte, keep285, ib285, mk285, Tryz.f285]
  first | refine CallSF.mk ((l02Node p e vars funcs hv (by omega) hf0 hf hps).sub (by repeat' (first | exact SubL.nil | refine SubL.cons ?_ ?_ | exact Sub.refl _ | (rw [DExpr.c_eq]; exact Sub.refl _) | exact Sub.ipAt rfl rfl rfl | exact Sub.ip (map_get (by omega)) (by simp) | exact Sub.ipAt (map_get (by omega)) rfl rfl | exact Sub.ip (by simp [*]) (by simp) | exact Sub.ipAt (by simp [*]) (by rfl) (by rfl)))) ?_ | refine HFnF.mk ((l02Node p e vars funcs hv (by omega) hf0 hf hps).sub (by repeat' (first | exact SubL.nil | refine SubL.cons ?_ ?_ | exact Sub.refl _ | (rw [DExpr.c_eq]; exact Sub.refl _) | exact Sub.ipAt rfl rfl rfl | exact Sub.ip (map_get (by omega)) (by simp) | exact Sub.ipAt (map_get (by omega)) rfl rfl | exact Sub.ip (by simp [*]) (by simp) | exact Sub.ipAt (by simp [*]) (by rfl) (by rfl)))) ?_
  simp (maxSteps := 1000000) -dsimp -implicitDefEqProofs only [go_sem, ↓reduceIte, keep285, ib285, mk285, Tryz.f285]
  repeat' (with_reducible first | intro _ | refine And.intro ?_ ?_)
  · rename_i hn
    exact (decide_eq_false fun q => hn (hok.1 q).1).symm
  · rename_i hn
    refine loopF (keep := keep285) (ib := ib285) (mk := mk285) mix (by kernel_rfl) (fun k : Nat => [(0, .ip 1 [p.c] 0 0), (1, .ip 5 [e.c] 0 0), (2, I vars), (3, I funcs), (9, I k)]) (fun _ => h) (fun k => k ≤ e.fKids.length ∧ ∀ (j : Nat) (hj : j < e.fKids.length), j < k → e.fKids[j].ok p funcs (moreV e.fKind j vars)) (fun k => e.fKids.length - k) 0 (by simp [SatL, tget, Heap.le_refl, DExpr.c_eq, DProgram.c_eq]) ?_
    intro k ⟨hk, hp⟩
    simp only [DExpr.c_eq, DProgram.c_eq]
    rcases Nat.lt_or_ge k e.fKids.length with hlt | hge
    · have hs1 := DExpr.kid_s (List.getElem_mem hlt)
      have nx (q : e.fKids[k].ok p funcs (moreV e.fKind k vars)) : ∀ (j : Nat) (hj : j < e.fKids.length), j < k + 1 → e.fKids[j].ok p funcs (moreV e.fKind j vars) := by
        intro j hj hjk
        rcases Nat.lt_succ_iff_lt_or_eq.1 hjk with h1 | rfl
        · exact hp j hj h1
        · exact q
      have no (q : ¬ e.fKids[k].ok p funcs (moreV e.fKind k vars)) : false = decide (e.ok p funcs vars) := (decide_eq_false fun z => q ((hok.1 z).2 k hlt)).symm
      simp (maxSteps := 1000000) -dsimp -implicitDefEqProofs only [go_sem, ↓reduceIte, keep285, ib285, mk285, Tryz.f285]
      repeat' (with_reducible first | intro _ | refine And.intro ?_ ?_)
      all_goals try omega
      · have em : moreV e.fKind k vars = vars + 1 := if_pos ⟨by assumption, by omega⟩
        rw [em] at nx no
        all_goals try simp (disch := omega) only [IntWalk.i64_in]
        first | refine CallSF.mk ((hc e.fKids[k] (List.getElem_mem hlt) (vars + 1) (by omega) (by omega)).sub (by repeat' (first | exact SubL.nil | refine SubL.cons ?_ ?_ | exact Sub.refl _ | (rw [DExpr.c_eq]; exact Sub.refl _) | exact Sub.ipAt rfl rfl rfl | exact Sub.ip (map_get (by omega)) (by simp) | exact Sub.ipAt (map_get (by omega)) rfl rfl | exact Sub.ip (by simp [*]) (by simp) | exact Sub.ipAt (by simp [*]) (by rfl) (by rfl)))) ?_ | refine HFnF.mk ((hc e.fKids[k] (List.getElem_mem hlt) (vars + 1) (by omega) (by omega)).sub (by repeat' (first | exact SubL.nil | refine SubL.cons ?_ ?_ | exact Sub.refl _ | (rw [DExpr.c_eq]; exact Sub.refl _) | exact Sub.ipAt rfl rfl rfl | exact Sub.ip (map_get (by omega)) (by simp) | exact Sub.ipAt (map_get (by omega)) rfl rfl | exact Sub.ip (by simp [*]) (by simp) | exact Sub.ipAt (by simp [*]) (by rfl) (by rfl)))) ?_
        simp (maxSteps := 1000000) -dsimp -implicitDefEqProofs only [go_sem, ↓reduceIte, keep285, ib285, mk285, Tryz.f285]
        repeat' (with_reducible first | intro _ | refine And.intro ?_ ?_)
        · exact no (by assumption)
        · refine ⟨k + 1, ?_⟩
          repeat' (with_reducible refine And.intro ?_ ?_)
          all_goals try (rw [IntWalk.i64_in _ (by omega)]; first | rfl | omega)
          all_goals try omega
          all_goals try (repeat' (with_reducible first | exact Heap.le_refl _ | refine (le_upd (by first | assumption | exact And.right (by assumption) | exact upd_none.2 (by assumption))).2 ?_))
          all_goals try (simp only [DExpr.c_eq, DProgram.c_eq]; done)
          exact nx (by assumption)
      all_goals
        have em : moreV e.fKind k vars = vars := if_neg (by omega)
        rw [em] at nx no
        first | refine CallSF.mk ((hc e.fKids[k] (List.getElem_mem hlt) vars (by omega) (by omega)).sub (by repeat' (first | exact SubL.nil | refine SubL.cons ?_ ?_ | exact Sub.refl _ | (rw [DExpr.c_eq]; exact Sub.refl _) | exact Sub.ipAt rfl rfl rfl | exact Sub.ip (map_get (by omega)) (by simp) | exact Sub.ipAt (map_get (by omega)) rfl rfl | exact Sub.ip (by simp [*]) (by simp) | exact Sub.ipAt (by simp [*]) (by rfl) (by rfl)))) ?_ | refine HFnF.mk ((hc e.fKids[k] (List.getElem_mem hlt) vars (by omega) (by omega)).sub (by repeat' (first | exact SubL.nil | refine SubL.cons ?_ ?_ | exact Sub.refl _ | (rw [DExpr.c_eq]; exact Sub.refl _) | exact Sub.ipAt rfl rfl rfl | exact Sub.ip (map_get (by omega)) (by simp) | exact Sub.ipAt (map_get (by omega)) rfl rfl | exact Sub.ip (by simp [*]) (by simp) | exact Sub.ipAt (by simp [*]) (by rfl) (by rfl)))) ?_
        simp (maxSteps := 1000000) -dsimp -implicitDefEqProofs only [go_sem, ↓reduceIte, keep285, ib285, mk285, Tryz.f285]
        repeat' (with_reducible first | intro _ | refine And.intro ?_ ?_)
        · exact no (by assumption)
        · refine ⟨k + 1, ?_⟩
          repeat' (with_reducible refine And.intro ?_ ?_)
          all_goals try (rw [IntWalk.i64_in _ (by omega)]; first | rfl | omega)
          all_goals try omega
          all_goals try (repeat' (with_reducible first | exact Heap.le_refl _ | refine (le_upd (by first | assumption | exact And.right (by assumption) | exact upd_none.2 (by assumption))).2 ?_))
          all_goals try (simp only [DExpr.c_eq, DProgram.c_eq]; done)
          exact nx (by assumption)
    · have hk' : k = e.fKids.length := by omega
      subst hk'
      simp (maxSteps := 1000000) -dsimp -implicitDefEqProofs only [go_sem, ↓reduceIte, keep285, ib285, mk285, Tryz.f285, Nat.lt_irrefl]
      exact fun _ => (decide_eq_true (hok.2 ⟨hn, fun j hj => hp j hj hj⟩)).symm
theorem l02Tree (p : DProgram) (e : DExpr) (vars funcs : Int) (hv : 0 ≤ vars) (hv2 : vars + e.s ≤ 4294967296) (hf0 : 0 ≤ funcs) (hf : funcs ≤ p.fFuncs.length) (hps : p.s ≤ 4294967296) :
    Fn0 Tryz.prog 285 [.ip 1 [p.c] 0 0, .ip 5 [e.c] 0 0, I vars, I funcs] (.bool (decide (e.ok p funcs vars))) :=
  l02Tree_step p e vars funcs hv hv2 hf0 hf hps fun y hy vars hv hv2 => l02Tree p y vars funcs hv hv2 hf0 hf hps
termination_by SizeOf.sizeOf e
decreasing_by exact DExpr.kid_lt hy
open Go.Proofs
set_option linter.unusedVariables false
set_option linter.unusedSimpArgs false
set_option maxHeartbeats 8000000 in
set_option maxRecDepth 100000 in
theorem isFormed_plain (p : DProgram) (e : DExpr) (vars funcs : Int) (hv : 0 ≤ vars) (hv2 : vars + e.s ≤ 4294967296) (hf0 : 0 ≤ funcs) (hf : funcs ≤ p.fFuncs.length) (hps : p.s ≤ 4294967296)
    (hc : ∀ y ∈ e.fKids, ∀ vars : Int, 0 ≤ vars → vars + y.s ≤ 4294967296 → Fn0 Tryz.prog 258 [.agg [sls 3 DFunc.c p.fFuncs, I funcs], .agg y.c, I vars] (.bool (decide (y.ok p funcs vars)))) (hk : ¬ (e.fKind = 10 ∨ e.fKind = 11)) :
    Fn0 Tryz.prog 258 [.agg [sls 3 DFunc.c p.fFuncs, I funcs], .agg e.c, I vars] (.bool (decide (e.ok p funcs vars))) := by
  have hok := DExpr.ok_iff p funcs e vars
  have hl := p.len_s
  have e1 : IntKind.i64.wrap (funcs - 1) = funcs - 1 := IntWalk.i64_in _ (by omega)
  have e2 : IntKind.i64.wrap (vars - 1) = vars - 1 := IntWalk.i64_in _ (by omega)
  simp only [DExpr.c_eq]
  have no1 (hk : ¬ (e.fKind = 10 ∨ e.fKind = 11)) (q : ¬ (kidsN e.fKind = e.fKids.length ∧ e.fPick = 0 ∧ e.fCount = 0 ∧ (e.fKind = 1 → Num e.fNum) ∧ (e.fKind = 2 → 0 ≤ e.fNum ∧ e.fNum ≤ vars - 1) ∧ (e.fKind ≠ 1 → e.fKind ≠ 2 → e.fNum = 0))) : false = decide (e.ok p funcs vars) :=
    (decide_eq_false fun z => q ((nodeOK_plain hk).1 (hok.1 z).1)).symm
  have yes1 (hk : ¬ (e.fKind = 10 ∨ e.fKind = 11)) (q : kidsN e.fKind = e.fKids.length ∧ e.fPick = 0 ∧ e.fCount = 0 ∧ (e.fKind = 1 → Num e.fNum) ∧ (e.fKind = 2 → 0 ≤ e.fNum ∧ e.fNum ≤ vars - 1) ∧ (e.fKind ≠ 1 → e.fKind ≠ 2 → e.fNum = 0)) : nodeOK p e vars funcs := (nodeOK_plain hk).2 q
  refine fn0F 177 keep258 ib258 mk258 mix Tryz.func258 rfl (by kernel_rfl) (by simp) fun h => ?_
  simp (maxSteps := 1000000) -dsimp -implicitDefEqProofs only [go_sem, ↓reduceIte, keep258, ib258, mk258, Tryz.f258, e1, e2]
  repeat' (with_reducible first | intro _ | refine And.intro ?_ ?_)
  all_goals try omega
  all_goals try (refine no1 (by omega) ?_; simp only [kidsN]; grind)
  · first | refine HFnF.mk (isNumber e.fNum) ?_ | refine CallSF.mk (isNumber e.fNum) ?_ | refine HFnF.mkAt (isNumber e.fNum) ?_ | refine CallSF.mk (FnAt.fn0 (isNumber e.fNum)) ?_
    simp (maxSteps := 1000000) -dsimp -implicitDefEqProofs only [go_sem, ↓reduceIte, keep258, ib258, mk258, Tryz.f258]
    rw [decide_eq_decide, hok, nodeOK_plain hk]
    have : e.fKids.length = 0 := by omega
    constructor
    · intro q
      exact ⟨by simp only [kidsN]; grind, fun k hk => by omega⟩
    · intro q
      grind
  · first | refine HFnF.mk (within e.fNum 0 (vars - 1)) ?_ | refine CallSF.mk (within e.fNum 0 (vars - 1)) ?_ | refine HFnF.mkAt (within e.fNum 0 (vars - 1)) ?_ | refine CallSF.mk (FnAt.fn0 (within e.fNum 0 (vars - 1))) ?_
    simp (maxSteps := 1000000) -dsimp -implicitDefEqProofs only [go_sem, ↓reduceIte, keep258, ib258, mk258, Tryz.f258]
    rw [decide_eq_decide, hok, nodeOK_plain hk]
    have : e.fKids.length = 0 := by omega
    constructor
    · intro q
      exact ⟨by simp only [kidsN]; grind, fun k hk => by omega⟩
    · intro q
      grind
  all_goals
    have hn := yes1 hk (by simp only [kidsN]; grind)
    clear no1 yes1
    refine loopF (keep := keep258) (ib := ib258) (mk := mk258) mix (by kernel_rfl) (fun k : Nat => [(2, I vars), (3, .ip 2 [[sls 3 DFunc.c p.fFuncs, I funcs]] 0 0), (4, .ip 5 [e.c] 0 0), (154, sls 5 DExpr.c e.fKids), (155, I e.fKids.length), (156, I k)]) (fun _ => h) (fun k => k ≤ e.fKids.length ∧ ∀ (j : Nat) (hj : j < e.fKids.length), j < k → e.fKids[j].ok p funcs (moreV e.fKind j vars)) (fun k => e.fKids.length - k) 0 (by refine ⟨by simp [SatL, tget, DExpr.c_eq], by repeat' (with_reducible first | exact Heap.le_refl _ | refine (le_upd (by first | assumption | exact And.right (by assumption) | exact upd_none.2 (by assumption))).2 ?_), by simp⟩) ?_
    intro k ⟨hk, hp⟩
    simp only [DExpr.c_eq]
    rcases Nat.lt_or_ge k e.fKids.length with hlt | hge
    · have hs1 := DExpr.kid_s (List.getElem_mem hlt)
      have nx (q : e.fKids[k].ok p funcs (moreV e.fKind k vars)) : ∀ (j : Nat) (hj : j < e.fKids.length), j < k + 1 → e.fKids[j].ok p funcs (moreV e.fKind j vars) := by
        intro j hj hjk
        rcases Nat.lt_succ_iff_lt_or_eq.1 hjk with h1 | rfl
        · exact hp j hj h1
        · exact q
      have no (q : ¬ e.fKids[k].ok p funcs (moreV e.fKind k vars)) : false = decide (e.ok p funcs vars) := (decide_eq_false fun z => q ((hok.1 z).2 k hlt)).symm
      have ea : e.fKids[k]? = some e.fKids[k] := List.getElem?_eq_getElem hlt
      rcases Decidable.em (e.fKind = 9 ∧ k = 1) with e9 | e9
      · have em : moreV e.fKind k vars = vars + 1 := if_pos e9
        rw [em] at nx no
        have hcy := hc e.fKids[k] (List.getElem_mem hlt) (vars + 1) (by omega) (by omega)
        simp only [DExpr.c_eq] at hcy
        simp (maxSteps := 1000000) -dsimp -implicitDefEqProofs only [go_sem, ↓reduceIte, keep258, ib258, mk258, Tryz.f258, ea, DExpr.c_eq, upd_upd]
        repeat' (with_reducible first | intro _ | refine And.intro ?_ ?_)
        all_goals try omega
        all_goals try simp (disch := omega) only [IntWalk.i64_in]
        all_goals (first | refine HFnF.mk (hcy) ?_ | refine CallSF.mk (hcy) ?_)
        all_goals simp (maxSteps := 1000000) -dsimp -implicitDefEqProofs only [go_sem, ↓reduceIte, keep258, ib258, mk258, Tryz.f258]
        all_goals repeat' (with_reducible first | intro _ | refine And.intro ?_ ?_)
        all_goals first | exact no (by assumption) | exact Heap.le_refl _ | skip
        all_goals try (exact (le_upd (by assumption)).2 (Heap.le_refl _))
        all_goals
          refine ⟨k + 1, ?_⟩
          repeat' (with_reducible refine And.intro ?_ ?_)
          all_goals try (rw [IntWalk.i64_in _ (by omega)]; first | rfl | omega)
          all_goals try omega
          all_goals try (repeat' (with_reducible first | exact Heap.le_refl _ | refine (le_upd (by first | assumption | exact And.right (by assumption) | exact upd_none.2 (by assumption))).2 ?_))
          all_goals try (simp only [DExpr.c_eq]; done)
          exact nx (by assumption)
      · have em : moreV e.fKind k vars = vars := if_neg e9
        rw [em] at nx no
        have hcy := hc e.fKids[k] (List.getElem_mem hlt) vars (by omega) (by omega)
        simp only [DExpr.c_eq] at hcy
        simp (maxSteps := 1000000) -dsimp -implicitDefEqProofs only [go_sem, ↓reduceIte, keep258, ib258, mk258, Tryz.f258, ea, DExpr.c_eq, upd_upd]
        repeat' (with_reducible first | intro _ | refine And.intro ?_ ?_)
        all_goals try omega
        all_goals (first | refine HFnF.mk (hcy) ?_ | refine CallSF.mk (hcy) ?_)
        all_goals simp (maxSteps := 1000000) -dsimp -implicitDefEqProofs only [go_sem, ↓reduceIte, keep258, ib258, mk258, Tryz.f258]
        all_goals repeat' (with_reducible first | intro _ | refine And.intro ?_ ?_)
        all_goals first | exact no (by assumption) | exact Heap.le_refl _ | skip
        all_goals try (exact (le_upd (by assumption)).2 (Heap.le_refl _))
        all_goals
          refine ⟨k + 1, ?_⟩
          repeat' (with_reducible refine And.intro ?_ ?_)
          all_goals try (rw [IntWalk.i64_in _ (by omega)]; first | rfl | omega)
          all_goals try omega
          all_goals try (repeat' (with_reducible first | exact Heap.le_refl _ | refine (le_upd (by first | assumption | exact And.right (by assumption) | exact upd_none.2 (by assumption))).2 ?_))
          all_goals try (simp only [DExpr.c_eq]; done)
          exact nx (by assumption)
    · have hk' : k = e.fKids.length := by omega
      subst hk'
      simp (maxSteps := 1000000) -dsimp -implicitDefEqProofs only [go_sem, ↓reduceIte, keep258, ib258, mk258, Tryz.f258, Nat.lt_irrefl]
      exact (decide_eq_true (hok.2 ⟨hn, fun j hj => hp j hj hj⟩)).symm
open Go.Proofs
set_option linter.unusedVariables false
set_option linter.unusedSimpArgs false
theorem no_call {p : DProgram} {e : DExpr} {vars funcs : Int} {f : DFunc} (hk : e.fKind = 10 ∨ e.fKind = 11) (ef : p.fFuncs[e.fNum.toNat]? = some f)
    (q : ¬ (0 ≤ e.fPick ∧ e.fPick ≤ (f.fOuts.length : Int) - 1 ∧ (e.fKids.length : Int) = f.fParams ∧ (e.fKind = 10 → e.fCount = 0) ∧ (e.fKind = 11 → 0 ≤ e.fCount ∧ e.fCount ≤ 8 ∧ (f.fOuts.length : Int) = f.fParams))) : false = decide (e.ok p funcs vars) :=
  (decide_eq_false fun z => q ((nodeOK_call hk ef).1 ((DExpr.ok_iff _ _ _ _).1 z).1).2.2).symm
theorem no_range {p : DProgram} {e : DExpr} {vars funcs : Int} (hk : e.fKind = 10 ∨ e.fKind = 11) (q : ¬ (0 ≤ e.fNum ∧ e.fNum ≤ funcs - 1)) : false = decide (e.ok p funcs vars) :=
  (decide_eq_false fun z => nodeOK_range hk q ((DExpr.ok_iff _ _ _ _).1 z).1).symm
set_option maxHeartbeats 8000000 in
set_option maxRecDepth 100000 in
theorem isFormed_10 (p : DProgram) (e : DExpr) (vars funcs : Int) (hv : 0 ≤ vars) (hv2 : vars + e.s ≤ 4294967296) (hf0 : 0 ≤ funcs) (hf : funcs ≤ p.fFuncs.length) (hps : p.s ≤ 4294967296)
    (hc : ∀ y ∈ e.fKids, ∀ vars : Int, 0 ≤ vars → vars + y.s ≤ 4294967296 → Fn0 Tryz.prog 258 [.agg [sls 3 DFunc.c p.fFuncs, I funcs], .agg y.c, I vars] (.bool (decide (y.ok p funcs vars)))) (hk : e.fKind = 10) :
    Fn0 Tryz.prog 258 [.agg [sls 3 DFunc.c p.fFuncs, I funcs], .agg e.c, I vars] (.bool (decide (e.ok p funcs vars))) := by
  have hl := p.len_s
  have e1 : IntKind.i64.wrap (funcs - 1) = funcs - 1 := IntWalk.i64_in _ (by omega)
  simp only [DExpr.c_eq]
  by_cases hr : 0 ≤ e.fNum ∧ e.fNum ≤ funcs - 1
  · obtain ⟨f, ef⟩ : ∃ f, p.fFuncs[e.fNum.toNat]? = some f := ⟨_, List.getElem?_eq_getElem (by omega)⟩
    have hfs := DProgram.func_s (List.mem_of_getElem? ef)
    have hos := f.outs_s
    have e3 : IntKind.i64.wrap ((f.fOuts.length : Int) - 1) = f.fOuts.length - 1 := IntWalk.i64_in _ (by omega)
    refine fn0F 177 keep258 ib258 mk258 mix Tryz.func258 rfl (by kernel_rfl) (by simp) fun h => ?_
    simp (maxSteps := 1000000) -dsimp -implicitDefEqProofs only [go_sem, ↓reduceIte, keep258, ib258, mk258, Tryz.f258, e1, e3, hk]
    repeat' (with_reducible first | intro _ | refine And.intro ?_ ?_)
    all_goals try omega
    all_goals (first | refine HFnF.mk (within e.fNum 0 (funcs - 1)) ?_ | refine CallSF.mk (within e.fNum 0 (funcs - 1)) ?_)
    all_goals simp (maxSteps := 1000000) -dsimp -implicitDefEqProofs only [go_sem, ↓reduceIte, keep258, ib258, mk258, Tryz.f258, ef, DFunc.c_eq, upd_upd, hk, e3]
    all_goals repeat' (with_reducible first | intro _ | refine And.intro ?_ ?_)
    all_goals try omega
    all_goals try (refine no_call (by omega) ef ?_; omega)
    all_goals try (repeat' (with_reducible first | exact Heap.le_refl _ | refine (le_upd (by first | assumption | exact And.right (by assumption) | exact upd_none.2 (by assumption))).2 ?_))
    all_goals (first | refine HFnF.mk (within e.fPick 0 (f.fOuts.length - 1)) ?_ | refine CallSF.mk (within e.fPick 0 (f.fOuts.length - 1)) ?_)
    all_goals simp (maxSteps := 1000000) -dsimp -implicitDefEqProofs only [go_sem, ↓reduceIte, keep258, ib258, mk258, Tryz.f258, ef, DFunc.c_eq, upd_upd, hk]
    all_goals repeat' (with_reducible first | intro _ | refine And.intro ?_ ?_)
    all_goals try omega
    all_goals try (refine no_call (by omega) ef ?_; omega)
    all_goals try (repeat' (with_reducible first | exact Heap.le_refl _ | refine (le_upd (by first | assumption | exact And.right (by assumption) | exact upd_none.2 (by assumption))).2 ?_))
    all_goals
      have hn : nodeOK p e vars funcs := (nodeOK_call (by omega) ef).2 (by omega)
      have hok := DExpr.ok_iff p funcs e vars
      clear hr hfs hos ef
      refine loopF (keep := keep258) (ib := ib258) (mk := mk258) mix (by kernel_rfl) (fun k : Nat => [(2, I vars), (3, .ip 2 [[sls 3 DFunc.c p.fFuncs, I funcs]] 0 0), (4, .ip 5 [e.c] 0 0), (154, sls 5 DExpr.c e.fKids), (155, I e.fKids.length), (156, I k)]) (fun _ => h) (fun k => k ≤ e.fKids.length ∧ ∀ (j : Nat) (hj : j < e.fKids.length), j < k → e.fKids[j].ok p funcs vars) (fun k => e.fKids.length - k) 0 (by refine ⟨by simp [SatL, tget, DExpr.c_eq, hk], by repeat' (with_reducible first | exact Heap.le_refl _ | refine (le_upd (by first | assumption | exact And.right (by assumption) | exact upd_none.2 (by assumption))).2 ?_), by simp⟩) ?_
      intro k ⟨hk', hp⟩
      simp only [DExpr.c_eq]
      rcases Nat.lt_or_ge k e.fKids.length with hlt | hge
      · have hs1 := DExpr.kid_s (List.getElem_mem hlt)
        have nx (q : e.fKids[k].ok p funcs vars) : ∀ (j : Nat) (hj : j < e.fKids.length), j < k + 1 → e.fKids[j].ok p funcs vars := by
          intro j hj hjk
          rcases Nat.lt_succ_iff_lt_or_eq.1 hjk with h1 | rfl
          · exact hp j hj h1
          · exact q
        have no (q : ¬ e.fKids[k].ok p funcs vars) : false = decide (e.ok p funcs vars) := (decide_eq_false fun z => q (by have := (hok.1 z).2 k hlt; rwa [show moreV e.fKind k vars = vars from if_neg (by omega)] at this)).symm
        have ea : e.fKids[k]? = some e.fKids[k] := List.getElem?_eq_getElem hlt
        have hcy := hc e.fKids[k] (List.getElem_mem hlt) vars (by omega) (by omega)
        simp only [DExpr.c_eq] at hcy
        simp (maxSteps := 1000000) -dsimp -implicitDefEqProofs only [go_sem, ↓reduceIte, keep258, ib258, mk258, Tryz.f258, ea, DExpr.c_eq, upd_upd, hk]
        repeat' (with_reducible first | intro _ | refine And.intro ?_ ?_)
        all_goals try omega
        first | refine HFnF.mk (hcy) ?_ | refine CallSF.mk (hcy) ?_ | refine HFnF.mkAt (hcy) ?_ | refine CallSF.mk (FnAt.fn0 (hcy)) ?_
        simp (maxSteps := 1000000) -dsimp -implicitDefEqProofs only [go_sem, ↓reduceIte, keep258, ib258, mk258, Tryz.f258]
        repeat' (with_reducible first | intro _ | refine And.intro ?_ ?_)
        all_goals first | exact no (by assumption) | skip
        all_goals try (repeat' (with_reducible first | exact Heap.le_refl _ | refine (le_upd (by first | assumption | exact And.right (by assumption) | exact upd_none.2 (by assumption))).2 ?_))
        refine ⟨k + 1, ?_⟩
        repeat' (with_reducible refine And.intro ?_ ?_)
        all_goals try (rw [IntWalk.i64_in _ (by omega)]; first | rfl | omega)
        all_goals try omega
        all_goals try (repeat' (with_reducible first | exact Heap.le_refl _ | refine (le_upd (by first | assumption | exact And.right (by assumption) | exact upd_none.2 (by assumption))).2 ?_))
        all_goals try (simp only [DExpr.c_eq, hk]; done)
        exact nx (by assumption)
      · have hk'' : k = e.fKids.length := by omega
        subst hk''
        simp (maxSteps := 1000000) -dsimp -implicitDefEqProofs only [go_sem, ↓reduceIte, keep258, ib258, mk258, Tryz.f258, Nat.lt_irrefl]
        exact (decide_eq_true (hok.2 ⟨hn, fun j hj => by rw [show moreV e.fKind j vars = vars from if_neg (by omega)]; exact hp j hj hj⟩)).symm
  · refine fn0F 177 keep258 ib258 mk258 mix Tryz.func258 rfl (by kernel_rfl) (by simp) fun h => ?_
    simp (maxSteps := 1000000) -dsimp -implicitDefEqProofs only [go_sem, ↓reduceIte, keep258, ib258, mk258, Tryz.f258, e1, hk]
    repeat' (with_reducible first | intro _ | refine And.intro ?_ ?_)
    all_goals try omega
    all_goals (first | refine HFnF.mk (within e.fNum 0 (funcs - 1)) ?_ | refine CallSF.mk (within e.fNum 0 (funcs - 1)) ?_)
    all_goals simp (maxSteps := 1000000) -dsimp -implicitDefEqProofs only [go_sem, ↓reduceIte, keep258, ib258, mk258, Tryz.f258]
    all_goals repeat' (with_reducible first | intro _ | refine And.intro ?_ ?_)
    all_goals try omega
    all_goals exact no_range (by omega) hr
set_option maxHeartbeats 8000000 in
set_option maxRecDepth 100000 in
theorem isFormed_11 (p : DProgram) (e : DExpr) (vars funcs : Int) (hv : 0 ≤ vars) (hv2 : vars + e.s ≤ 4294967296) (hf0 : 0 ≤ funcs) (hf : funcs ≤ p.fFuncs.length) (hps : p.s ≤ 4294967296)
    (hc : ∀ y ∈ e.fKids, ∀ vars : Int, 0 ≤ vars → vars + y.s ≤ 4294967296 → Fn0 Tryz.prog 258 [.agg [sls 3 DFunc.c p.fFuncs, I funcs], .agg y.c, I vars] (.bool (decide (y.ok p funcs vars)))) (hk : e.fKind = 11) :
    Fn0 Tryz.prog 258 [.agg [sls 3 DFunc.c p.fFuncs, I funcs], .agg e.c, I vars] (.bool (decide (e.ok p funcs vars))) := by
  have hl := p.len_s
  have e1 : IntKind.i64.wrap (funcs - 1) = funcs - 1 := IntWalk.i64_in _ (by omega)
  simp only [DExpr.c_eq]
  by_cases hr : 0 ≤ e.fNum ∧ e.fNum ≤ funcs - 1
  · obtain ⟨f, ef⟩ : ∃ f, p.fFuncs[e.fNum.toNat]? = some f := ⟨_, List.getElem?_eq_getElem (by omega)⟩
    have hfs := DProgram.func_s (List.mem_of_getElem? ef)
    have hos := f.outs_s
    have e3 : IntKind.i64.wrap ((f.fOuts.length : Int) - 1) = f.fOuts.length - 1 := IntWalk.i64_in _ (by omega)
    refine fn0F 177 keep258 ib258 mk258 mix Tryz.func258 rfl (by kernel_rfl) (by simp) fun h => ?_
    simp (maxSteps := 1000000) -dsimp -implicitDefEqProofs only [go_sem, ↓reduceIte, keep258, ib258, mk258, Tryz.f258, e1, e3, hk]
    repeat' (with_reducible first | intro _ | refine And.intro ?_ ?_)
    all_goals try omega
    all_goals (first | refine HFnF.mk (within e.fNum 0 (funcs - 1)) ?_ | refine CallSF.mk (within e.fNum 0 (funcs - 1)) ?_)
    all_goals simp (maxSteps := 1000000) -dsimp -implicitDefEqProofs only [go_sem, ↓reduceIte, keep258, ib258, mk258, Tryz.f258, ef, DFunc.c_eq, upd_upd, hk, e3]
    all_goals repeat' (with_reducible first | intro _ | refine And.intro ?_ ?_)
    all_goals try omega
    all_goals try (refine no_call (by omega) ef ?_; omega)
    all_goals try (repeat' (with_reducible first | exact Heap.le_refl _ | refine (le_upd (by first | assumption | exact And.right (by assumption) | exact upd_none.2 (by assumption))).2 ?_))
    all_goals (first | refine HFnF.mk (within e.fPick 0 (f.fOuts.length - 1)) ?_ | refine CallSF.mk (within e.fPick 0 (f.fOuts.length - 1)) ?_)
    all_goals simp (maxSteps := 1000000) -dsimp -implicitDefEqProofs only [go_sem, ↓reduceIte, keep258, ib258, mk258, Tryz.f258, ef, DFunc.c_eq, upd_upd, hk]
    all_goals repeat' (with_reducible first | intro _ | refine And.intro ?_ ?_)
    all_goals try omega
    all_goals try (refine no_call (by omega) ef ?_; omega)
    all_goals try (repeat' (with_reducible first | exact Heap.le_refl _ | refine (le_upd (by first | assumption | exact And.right (by assumption) | exact upd_none.2 (by assumption))).2 ?_))
    all_goals (first | refine HFnF.mk (within e.fCount 0 8) ?_ | refine CallSF.mk (within e.fCount 0 8) ?_)
    all_goals simp (maxSteps := 1000000) -dsimp -implicitDefEqProofs only [go_sem, ↓reduceIte, keep258, ib258, mk258, Tryz.f258, upd_upd, hk]
    all_goals repeat' (with_reducible first | intro _ | refine And.intro ?_ ?_)
    all_goals try (refine no_call (by omega) ef ?_; omega)
    all_goals try (repeat' (with_reducible first | exact Heap.le_refl _ | refine (le_upd (by first | assumption | exact And.right (by assumption) | exact upd_none.2 (by assumption))).2 ?_))
    all_goals
      have hn : nodeOK p e vars funcs := (nodeOK_call (by omega) ef).2 (by omega)
      have hok := DExpr.ok_iff p funcs e vars
      clear hr hfs hos ef
      refine loopF (keep := keep258) (ib := ib258) (mk := mk258) mix (by kernel_rfl) (fun k : Nat => [(2, I vars), (3, .ip 2 [[sls 3 DFunc.c p.fFuncs, I funcs]] 0 0), (4, .ip 5 [e.c] 0 0), (154, sls 5 DExpr.c e.fKids), (155, I e.fKids.length), (156, I k)]) (fun _ => h) (fun k => k ≤ e.fKids.length ∧ ∀ (j : Nat) (hj : j < e.fKids.length), j < k → e.fKids[j].ok p funcs vars) (fun k => e.fKids.length - k) 0 (by refine ⟨by simp [SatL, tget, DExpr.c_eq, hk], by repeat' (with_reducible first | exact Heap.le_refl _ | refine (le_upd (by first | assumption | exact And.right (by assumption) | exact upd_none.2 (by assumption))).2 ?_), by simp⟩) ?_
      intro k ⟨hk', hp⟩
      simp only [DExpr.c_eq]
      rcases Nat.lt_or_ge k e.fKids.length with hlt | hge
      · have hs1 := DExpr.kid_s (List.getElem_mem hlt)
        have nx (q : e.fKids[k].ok p funcs vars) : ∀ (j : Nat) (hj : j < e.fKids.length), j < k + 1 → e.fKids[j].ok p funcs vars := by
          intro j hj hjk
          rcases Nat.lt_succ_iff_lt_or_eq.1 hjk with h1 | rfl
          · exact hp j hj h1
          · exact q
        have no (q : ¬ e.fKids[k].ok p funcs vars) : false = decide (e.ok p funcs vars) := (decide_eq_false fun z => q (by have := (hok.1 z).2 k hlt; rwa [show moreV e.fKind k vars = vars from if_neg (by omega)] at this)).symm
        have ea : e.fKids[k]? = some e.fKids[k] := List.getElem?_eq_getElem hlt
        have hcy := hc e.fKids[k] (List.getElem_mem hlt) vars (by omega) (by omega)
        simp only [DExpr.c_eq] at hcy
        simp (maxSteps := 1000000) -dsimp -implicitDefEqProofs only [go_sem, ↓reduceIte, keep258, ib258, mk258, Tryz.f258, ea, DExpr.c_eq, upd_upd, hk]
        repeat' (with_reducible first | intro _ | refine And.intro ?_ ?_)
        all_goals try omega
        first | refine HFnF.mk (hcy) ?_ | refine CallSF.mk (hcy) ?_ | refine HFnF.mkAt (hcy) ?_ | refine CallSF.mk (FnAt.fn0 (hcy)) ?_
        simp (maxSteps := 1000000) -dsimp -implicitDefEqProofs only [go_sem, ↓reduceIte, keep258, ib258, mk258, Tryz.f258]
        repeat' (with_reducible first | intro _ | refine And.intro ?_ ?_)
        all_goals first | exact no (by assumption) | skip
        all_goals try (repeat' (with_reducible first | exact Heap.le_refl _ | refine (le_upd (by first | assumption | exact And.right (by assumption) | exact upd_none.2 (by assumption))).2 ?_))
        refine ⟨k + 1, ?_⟩
        repeat' (with_reducible refine And.intro ?_ ?_)
        all_goals try (rw [IntWalk.i64_in _ (by omega)]; first | rfl | omega)
        all_goals try omega
        all_goals try (repeat' (with_reducible first | exact Heap.le_refl _ | refine (le_upd (by first | assumption | exact And.right (by assumption) | exact upd_none.2 (by assumption))).2 ?_))
        all_goals try (simp only [DExpr.c_eq, hk]; done)
        exact nx (by assumption)
      · have hk'' : k = e.fKids.length := by omega
        subst hk''
        simp (maxSteps := 1000000) -dsimp -implicitDefEqProofs only [go_sem, ↓reduceIte, keep258, ib258, mk258, Tryz.f258, Nat.lt_irrefl]
        exact (decide_eq_true (hok.2 ⟨hn, fun j hj => by rw [show moreV e.fKind j vars = vars from if_neg (by omega)]; exact hp j hj hj⟩)).symm
  · refine fn0F 177 keep258 ib258 mk258 mix Tryz.func258 rfl (by kernel_rfl) (by simp) fun h => ?_
    simp (maxSteps := 1000000) -dsimp -implicitDefEqProofs only [go_sem, ↓reduceIte, keep258, ib258, mk258, Tryz.f258, e1, hk]
    repeat' (with_reducible first | intro _ | refine And.intro ?_ ?_)
    all_goals try omega
    all_goals (first | refine HFnF.mk (within e.fNum 0 (funcs - 1)) ?_ | refine CallSF.mk (within e.fNum 0 (funcs - 1)) ?_)
    all_goals simp (maxSteps := 1000000) -dsimp -implicitDefEqProofs only [go_sem, ↓reduceIte, keep258, ib258, mk258, Tryz.f258]
    all_goals repeat' (with_reducible first | intro _ | refine And.intro ?_ ?_)
    all_goals try omega
    all_goals exact no_range (by omega) hr
open Go.Proofs
set_option linter.unusedVariables false
set_option linter.unusedSimpArgs false
theorem isFormed (p : DProgram) (e : DExpr) (vars funcs : Int) (hv : 0 ≤ vars) (hv2 : vars + e.s ≤ 4294967296) (hf0 : 0 ≤ funcs) (hf : funcs ≤ p.fFuncs.length) (hps : p.s ≤ 4294967296) :
    Fn0 Tryz.prog 258 [.agg [sls 3 DFunc.c p.fFuncs, I funcs], .agg e.c, I vars] (.bool (decide (e.ok p funcs vars))) := by
  by_cases h1 : e.fKind = 10
  · exact isFormed_10 p e vars funcs hv hv2 hf0 hf hps (fun y hy vars hv hv2 => isFormed p y vars funcs hv hv2 hf0 hf hps) h1
  · by_cases h2 : e.fKind = 11
    · exact isFormed_11 p e vars funcs hv hv2 hf0 hf hps (fun y hy vars hv hv2 => isFormed p y vars funcs hv hv2 hf0 hf hps) h2
    · exact isFormed_plain p e vars funcs hv hv2 hf0 hf hps (fun y hy vars hv hv2 => isFormed p y vars funcs hv hv2 hf0 hf hps) (fun q => q.elim h1 h2)
termination_by SizeOf.sizeOf e
decreasing_by all_goals exact DExpr.kid_lt hy

end Go.Hl

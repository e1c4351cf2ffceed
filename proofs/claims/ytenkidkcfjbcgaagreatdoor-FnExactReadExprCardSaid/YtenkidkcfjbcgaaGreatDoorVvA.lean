/-
  Contracts of functions and laws of the layer over the walk.
-/
import Derived.Test.YtenkidkcfjbcgaaGreatDoorHlD
import Derived.Test.YtenkidkcfjbcgaaGreatDoorProg
import Derived.KernelRfl
namespace Go.Hl
open Go.Proofs
set_option linter.unusedVariables false
set_option linter.unusedSimpArgs false
@[go_sem] theorem ty2 : tyR Tryz.prog 2 = some ⟨1, false, 8, [.int .i64 0], .int .i64⟩ := by kernel_rfl
@[go_sem] theorem ty3 : tyR Tryz.prog 3 = some ⟨1, false, 8, [.int .i64 0], .int .i64⟩ := by kernel_rfl
@[go_sem] theorem ty4 : tyR Tryz.prog 4 = some ⟨1, false, 1, [.bool false], .bool⟩ := by kernel_rfl
@[go_sem] theorem ty5 : tyR Tryz.prog 5 = some ⟨1, false, 1, [.int .u8 0], .int .u8⟩ := by kernel_rfl
@[go_sem] theorem ty9 : tyR Tryz.prog 9 = some ⟨1, false, 16, [.str []], .str⟩ := by kernel_rfl
@[go_sem] theorem ty21 : tyR Tryz.prog 21 = some ⟨1, false, 4, [.int .i32 0], .int .i32⟩ := by kernel_rfl
@[go_sem] theorem ty22 : tyR Tryz.prog 22 = some ⟨1, false, 24, [.nilsl], .slice 66⟩ := by kernel_rfl
@[go_sem] theorem ty24 : tyR Tryz.prog 24 = some ⟨1, true, 24, [.nilsl], .st [(0, 22, 1)]⟩ := by kernel_rfl
@[go_sem] theorem ty26 : tyR Tryz.prog 26 = some ⟨1, false, 24, [.nilsl], .slice 28⟩ := by kernel_rfl
@[go_sem] theorem ty28 : tyR Tryz.prog 28 = some ⟨5, true, 56, [.int .i64 0, .int .i64 0, .int .i64 0, .int .i64 0, .nilsl], .st [(0, 2, 1), (1, 2, 1), (2, 2, 1), (3, 2, 1), (4, 26, 1)]⟩ := by kernel_rfl
@[go_sem] theorem ty31 : tyR Tryz.prog 31 = some ⟨1, false, 24, [.nilsl], .slice 76⟩ := by kernel_rfl
@[go_sem] theorem ty33 : tyR Tryz.prog 33 = some ⟨1, true, 24, [.nilsl], .st [(0, 31, 1)]⟩ := by kernel_rfl
@[go_sem] theorem ty45 : tyR Tryz.prog 45 = some ⟨1, false, 8, [.nilptr], .ptr 33⟩ := by kernel_rfl
@[go_sem] theorem ty57 : tyR Tryz.prog 57 = some ⟨1, false, 24, [.nilsl], .slice 9⟩ := by kernel_rfl
@[go_sem] theorem ty64 : tyR Tryz.prog 64 = some ⟨1, false, 24, [.nilsl], .slice 125⟩ := by kernel_rfl
@[go_sem] theorem ty66 : tyR Tryz.prog 66 = some ⟨3, true, 48, [.str [], .int .i64 0, .nilsl], .st [(0, 9, 1), (1, 2, 1), (2, 64, 1)]⟩ := by kernel_rfl
@[go_sem] theorem ty70 : tyR Tryz.prog 70 = some ⟨6, true, 56, [.nilptr, .str [], .int .i64 0, .int .i64 0, .int .i64 0, .bool false], .st [(0, 45, 1), (1, 9, 1), (2, 3, 1), (3, 3, 1), (4, 3, 1), (5, 4, 1)]⟩ := by kernel_rfl
@[go_sem] theorem ty76 : tyR Tryz.prog 76 = some ⟨3, true, 48, [.str [], .int .i64 0, .nilsl], .st [(0, 9, 1), (1, 2, 1), (2, 26, 1)]⟩ := by kernel_rfl
@[go_sem] theorem ty82 : tyR Tryz.prog 82 = some ⟨1, false, 8, [.nilptr], .ptr 84⟩ := by kernel_rfl
@[go_sem] theorem ty84 : tyR Tryz.prog 84 = some ⟨5, true, 64, [.nilsl, .str [], .int .i64 0, .bool false, .int .i64 0], .st [(0, 33, 1), (1, 9, 1), (2, 3, 1), (3, 4, 1), (4, 3, 1)]⟩ := by kernel_rfl
@[go_sem] theorem ty106 : tyR Tryz.prog 106 = some ⟨2, true, 32, [.nilsl, .int .i64 0], .st [(0, 33, 1), (1, 2, 1)]⟩ := by kernel_rfl
@[go_sem] theorem ty109 : tyR Tryz.prog 109 = some ⟨1, false, 24, [.nilsl], .slice 5⟩ := by kernel_rfl
@[go_sem] theorem ty112 : tyR Tryz.prog 112 = some ⟨1, false, 8, [.nilptr], .ptr 114⟩ := by kernel_rfl
@[go_sem] theorem ty114 : tyR Tryz.prog 114 = some ⟨2, true, 32, [.nilptr, .nilsl], .st [(0, 112, 1), (1, 109, 1)]⟩ := by kernel_rfl
@[go_sem] theorem ty120 : tyR Tryz.prog 120 = some ⟨1, false, 16, [.nilif], .other⟩ := by kernel_rfl
@[go_sem] theorem ty125 : tyR Tryz.prog 125 = some ⟨5, true, 56, [.int .i64 0, .int .i64 0, .int .i64 0, .int .i64 0, .nilsl], .st [(0, 2, 1), (1, 2, 1), (2, 2, 1), (3, 2, 1), (4, 64, 1)]⟩ := by kernel_rfl
@[go_sem] theorem ty133 : tyR Tryz.prog 133 = some ⟨1, false, 8, [.nilptr], .ptr 5⟩ := by kernel_rfl
@[go_sem] theorem ty142 : tyR Tryz.prog 142 = some ⟨1, false, 8, [.int .u64 0], .int .u64⟩ := by kernel_rfl
@[go_sem] theorem ty144 : tyR Tryz.prog 144 = some ⟨1, false, 8, [.int .u64 0], .int .u64⟩ := by kernel_rfl
@[go_sem] theorem ty152 : tyR Tryz.prog 152 = some ⟨256, true, 256, [.int .u8 0, .int .u8 0, .int .u8 0, .int .u8 0, .int .u8 0, .int .u8 0, .int .u8 0, .int .u8 0, .int .u8 0, .int .u8 0, .int .u8 0, .int .u8 0, .int .u8 0, .int .u8 0, .int .u8 0, .int .u8 0, .int .u8 0, .int .u8 0, .int .u8 0, .int .u8 0, .int .u8 0, .int .u8 0, .int .u8 0, .int .u8 0, .int .u8 0, .int .u8 0, .int .u8 0, .int .u8 0, .int .u8 0, .int .u8 0, .int .u8 0, .int .u8 0, .int .u8 0, .int .u8 0, .int .u8 0, .int .u8 0, .int .u8 0, .int .u8 0, .int .u8 0, .int .u8 0, .int .u8 0, .int .u8 0, .int .u8 0, .int .u8 0, .int .u8 0, .int .u8 0, .int .u8 0, .int .u8 0, .int .u8 0, .int .u8 0, .int .u8 0, .int .u8 0, .int .u8 0, .int .u8 0, .int .u8 0, .int .u8 0, .int .u8 0, .int .u8 0, .int .u8 0, .int .u8 0, .int .u8 0, .int .u8 0, .int .u8 0, .int .u8 0, .int .u8 0, .int .u8 0, .int .u8 0, .int .u8 0, .int .u8 0, .int .u8 0, .int .u8 0, .int .u8 0, .int .u8 0, .int .u8 0, .int .u8 0, .int .u8 0, .int .u8 0, .int .u8 0, .int .u8 0, .int .u8 0, .int .u8 0, .int .u8 0, .int .u8 0, .int .u8 0, .int .u8 0, .int .u8 0, .int .u8 0, .int .u8 0, .int .u8 0, .int .u8 0, .int .u8 0, .int .u8 0, .int .u8 0, .int .u8 0, .int .u8 0, .int .u8 0, .int .u8 0, .int .u8 0, .int .u8 0, .int .u8 0, .int .u8 0, .int .u8 0, .int .u8 0, .int .u8 0, .int .u8 0, .int .u8 0, .int .u8 0, .int .u8 0, .int .u8 0, .int .u8 0, .int .u8 0, .int .u8 0, .int .u8 0, .int .u8 0, .int .u8 0, .int .u8 0, .int .u8 0, .int .u8 0, .int .u8 0, .int .u8 0, .int .u8 0, .int .u8 0, .int .u8 0, .int .u8 0, .int .u8 0, .int .u8 0, .int .u8 0, .int .u8 0, .int .u8 0, .int .u8 0, .int .u8 0, .int .u8 0, .int .u8 0, .int .u8 0, .int .u8 0, .int .u8 0, .int .u8 0, .int .u8 0, .int .u8 0, .int .u8 0, .int .u8 0, .int .u8 0, .int .u8 0, .int .u8 0, .int .u8 0, .int .u8 0, .int .u8 0, .int .u8 0, .int .u8 0, .int .u8 0, .int .u8 0, .int .u8 0, .int .u8 0, .int .u8 0, .int .u8 0, .int .u8 0, .int .u8 0, .int .u8 0, .int .u8 0, .int .u8 0, .int .u8 0, .int .u8 0, .int .u8 0, .int .u8 0, .int .u8 0, .int .u8 0, .int .u8 0, .int .u8 0, .int .u8 0, .int .u8 0, .int .u8 0, .int .u8 0, .int .u8 0, .int .u8 0, .int .u8 0, .int .u8 0, .int .u8 0, .int .u8 0, .int .u8 0, .int .u8 0, .int .u8 0, .int .u8 0, .int .u8 0, .int .u8 0, .int .u8 0, .int .u8 0, .int .u8 0, .int .u8 0, .int .u8 0, .int .u8 0, .int .u8 0, .int .u8 0, .int .u8 0, .int .u8 0, .int .u8 0, .int .u8 0, .int .u8 0, .int .u8 0, .int .u8 0, .int .u8 0, .int .u8 0, .int .u8 0, .int .u8 0, .int .u8 0, .int .u8 0, .int .u8 0, .int .u8 0, .int .u8 0, .int .u8 0, .int .u8 0, .int .u8 0, .int .u8 0, .int .u8 0, .int .u8 0, .int .u8 0, .int .u8 0, .int .u8 0, .int .u8 0, .int .u8 0, .int .u8 0, .int .u8 0, .int .u8 0, .int .u8 0, .int .u8 0, .int .u8 0, .int .u8 0, .int .u8 0, .int .u8 0, .int .u8 0, .int .u8 0, .int .u8 0, .int .u8 0, .int .u8 0, .int .u8 0, .int .u8 0, .int .u8 0, .int .u8 0, .int .u8 0, .int .u8 0, .int .u8 0, .int .u8 0, .int .u8 0, .int .u8 0, .int .u8 0, .int .u8 0, .int .u8 0, .int .u8 0, .int .u8 0, .int .u8 0, .int .u8 0, .int .u8 0, .int .u8 0, .int .u8 0, .int .u8 0, .int .u8 0, .int .u8 0], .arr 256 5⟩ := by kernel_rfl
@[go_sem] theorem ty154 : tyR Tryz.prog 154 = some ⟨2, true, 2, [.int .u8 0, .int .u8 0], .st [(0, 5, 1), (1, 5, 1)]⟩ := by kernel_rfl
@[go_sem] theorem ty155 : tyR Tryz.prog 155 = some ⟨32, true, 32, [.int .u8 0, .int .u8 0, .int .u8 0, .int .u8 0, .int .u8 0, .int .u8 0, .int .u8 0, .int .u8 0, .int .u8 0, .int .u8 0, .int .u8 0, .int .u8 0, .int .u8 0, .int .u8 0, .int .u8 0, .int .u8 0, .int .u8 0, .int .u8 0, .int .u8 0, .int .u8 0, .int .u8 0, .int .u8 0, .int .u8 0, .int .u8 0, .int .u8 0, .int .u8 0, .int .u8 0, .int .u8 0, .int .u8 0, .int .u8 0, .int .u8 0, .int .u8 0], .arr 16 154⟩ := by kernel_rfl
@[go_sem] theorem ty156 : tyR Tryz.prog 156 = some ⟨1, false, 4, [.int .u32 0], .int .u32⟩ := by kernel_rfl
@[go_sem] theorem ty162 : tyR Tryz.prog 162 = some ⟨3, true, 48, [.str [], .str [], .nilif], .st [(0, 9, 1), (1, 9, 1), (2, 120, 1)]⟩ := by kernel_rfl
@[go_sem] theorem ty164 : tyR Tryz.prog 164 = some ⟨24, true, 24, [.int .u8 0, .int .u8 0, .int .u8 0, .int .u8 0, .int .u8 0, .int .u8 0, .int .u8 0, .int .u8 0, .int .u8 0, .int .u8 0, .int .u8 0, .int .u8 0, .int .u8 0, .int .u8 0, .int .u8 0, .int .u8 0, .int .u8 0, .int .u8 0, .int .u8 0, .int .u8 0, .int .u8 0, .int .u8 0, .int .u8 0, .int .u8 0], .arr 24 5⟩ := by kernel_rfl
@[go_sem] theorem ty171 : tyR Tryz.prog 171 = some ⟨1, true, 16, [.str []], .st [(0, 9, 1)]⟩ := by kernel_rfl
@[go_sem] theorem ty173 : tyR Tryz.prog 173 = some ⟨20, true, 160, [.int .u64 0, .int .u64 0, .int .u64 0, .int .u64 0, .int .u64 0, .int .u64 0, .int .u64 0, .int .u64 0, .int .u64 0, .int .u64 0, .int .u64 0, .int .u64 0, .int .u64 0, .int .u64 0, .int .u64 0, .int .u64 0, .int .u64 0, .int .u64 0, .int .u64 0, .int .u64 0], .arr 20 144⟩ := by kernel_rfl
@[go_sem] theorem ty174 : tyR Tryz.prog 174 = some ⟨65, true, 65, [.int .u8 0, .int .u8 0, .int .u8 0, .int .u8 0, .int .u8 0, .int .u8 0, .int .u8 0, .int .u8 0, .int .u8 0, .int .u8 0, .int .u8 0, .int .u8 0, .int .u8 0, .int .u8 0, .int .u8 0, .int .u8 0, .int .u8 0, .int .u8 0, .int .u8 0, .int .u8 0, .int .u8 0, .int .u8 0, .int .u8 0, .int .u8 0, .int .u8 0, .int .u8 0, .int .u8 0, .int .u8 0, .int .u8 0, .int .u8 0, .int .u8 0, .int .u8 0, .int .u8 0, .int .u8 0, .int .u8 0, .int .u8 0, .int .u8 0, .int .u8 0, .int .u8 0, .int .u8 0, .int .u8 0, .int .u8 0, .int .u8 0, .int .u8 0, .int .u8 0, .int .u8 0, .int .u8 0, .int .u8 0, .int .u8 0, .int .u8 0, .int .u8 0, .int .u8 0, .int .u8 0, .int .u8 0, .int .u8 0, .int .u8 0, .int .u8 0, .int .u8 0, .int .u8 0, .int .u8 0, .int .u8 0, .int .u8 0, .int .u8 0, .int .u8 0, .int .u8 0], .arr 65 5⟩ := by kernel_rfl
@[go_sem] theorem ty178 : tyR Tryz.prog 178 = some ⟨32, true, 32, [.int .u8 0, .int .u8 0, .int .u8 0, .int .u8 0, .int .u8 0, .int .u8 0, .int .u8 0, .int .u8 0, .int .u8 0, .int .u8 0, .int .u8 0, .int .u8 0, .int .u8 0, .int .u8 0, .int .u8 0, .int .u8 0, .int .u8 0, .int .u8 0, .int .u8 0, .int .u8 0, .int .u8 0, .int .u8 0, .int .u8 0, .int .u8 0, .int .u8 0, .int .u8 0, .int .u8 0, .int .u8 0, .int .u8 0, .int .u8 0, .int .u8 0, .int .u8 0], .arr 32 5⟩ := by kernel_rfl
@[go_sem] theorem ty179 : tyR Tryz.prog 179 = some ⟨64, true, 64, [.int .u8 0, .int .u8 0, .int .u8 0, .int .u8 0, .int .u8 0, .int .u8 0, .int .u8 0, .int .u8 0, .int .u8 0, .int .u8 0, .int .u8 0, .int .u8 0, .int .u8 0, .int .u8 0, .int .u8 0, .int .u8 0, .int .u8 0, .int .u8 0, .int .u8 0, .int .u8 0, .int .u8 0, .int .u8 0, .int .u8 0, .int .u8 0, .int .u8 0, .int .u8 0, .int .u8 0, .int .u8 0, .int .u8 0, .int .u8 0, .int .u8 0, .int .u8 0, .int .u8 0, .int .u8 0, .int .u8 0, .int .u8 0, .int .u8 0, .int .u8 0, .int .u8 0, .int .u8 0, .int .u8 0, .int .u8 0, .int .u8 0, .int .u8 0, .int .u8 0, .int .u8 0, .int .u8 0, .int .u8 0, .int .u8 0, .int .u8 0, .int .u8 0, .int .u8 0, .int .u8 0, .int .u8 0, .int .u8 0, .int .u8 0, .int .u8 0, .int .u8 0, .int .u8 0, .int .u8 0, .int .u8 0, .int .u8 0, .int .u8 0, .int .u8 0], .arr 64 5⟩ := by kernel_rfl
theorem mix : Tryz.prog.follows .mixedOrders = true := by kernel_rfl
open Go.Proofs
set_option linter.unusedVariables false
set_option linter.unusedSimpArgs false
abbrev I (n : Int) : HVal := .int .i64 n
abbrev sls {α : Type} (sz : Nat) (c : α → List HVal) (l : List α) : HVal := .sl sz (l.map c) false

def InI (n : Int) : Prop := -9223372036854775808 ≤ n ∧ n ≤ 9223372036854775807
/-- What is left of a budget; -1 where it does not last. -/
def lft (left : Int) (n : Nat) : Int := if left - n < 0 then -1 else left - n


theorem lft_cases (left : Int) (n : Nat) : (lft left n = -1 ∧ left - n < 0) ∨ (lft left n = left - n ∧ 0 ≤ left - n) := by
  unfold lft; split
  · exact .inl ⟨rfl, by assumption⟩
  · exact .inr ⟨rfl, by omega⟩
theorem lft_neg {left : Int} {n : Nat} (h : left - n < 0) : lft left n = -1 := if_pos h
theorem lft_pos {left : Int} {n : Nat} (h : 0 ≤ left - n) : lft left n = left - n := if_neg (by omega)

theorem lft_step {left L : Int} {n : Nat} (h : lft left n = L) : (L < 0 → left - n < 0) ∧ (¬ L < 0 → L = left - n) := by
  subst h; unfold lft; split <;> constructor <;> intros <;> omega

theorem sum_take_succ {α : Type} (s : α → Nat) (l : List α) (k : Nat) (h : k < l.length) : ((l.take (k + 1)).map s).sum = ((l.take k).map s).sum + s l[k] := by
  rw [List.take_succ_eq_append_getElem h, List.map_append, List.sum_append]; simp only [List.map_cons, List.map_nil, List.sum_cons, List.sum_nil, Nat.add_zero]
theorem sum_take_le {α : Type} (s : α → Nat) : ∀ (l : List α) (k : Nat), ((l.take k).map s).sum ≤ (l.map s).sum
  | [], k => by simp
  | a :: l, 0 => by simp
  | a :: l, k + 1 => by have := sum_take_le s l k; simp only [List.take_succ_cons, List.map_cons, List.sum_cons]; omega

theorem sum_mem {α : Type} (s : α → Nat) {l : List α} {x : α} (h : x ∈ l) : s x ≤ (l.map s).sum := by
  induction l with
  | nil => simp at h
  | cons a l ih =>
    simp only [List.map_cons, List.sum_cons]
    rcases List.mem_cons.1 h with rfl | h
    · omega
    · have := ih h; omega

/-- A row that is being filled from the left. -/
def fillUp {α : Type} (f : α → List HVal) (z : List HVal) (a : List α) (k : Nat) : List (List Cell) := ((a.take k).map f ++ List.replicate (a.length - k) z).map (List.map .v)
theorem fillUp_zero {α : Type} (f : α → List HVal) (z : List HVal) (a : List α) : fillUp f z a 0 = List.map (List.map .v) (List.replicate a.length z) := by simp [fillUp]
theorem fillUp_all {α : Type} (f : α → List HVal) (z : List HVal) (a : List α) : fillUp f z a a.length = (a.map f).map (List.map .v) := by simp [fillUp]
theorem fillUp_get {α : Type} (f : α → List HVal) (z : List HVal) (a : List α) (k : Nat) (h : k < a.length) : (fillUp f z a k)[k]? = some (z.map .v) := by
  have : ((a.take k).map f).length = k := by simp; omega
  simp only [fillUp, List.getElem?_map]
  rw [List.getElem?_append_right (by omega), this]
  have h0 : 0 < a.length - k := by omega
  simp [h0]
theorem fillUp_set {α : Type} (f : α → List HVal) (z : List HVal) (a : List α) (k : Nat) (h : k < a.length) (e : List Cell) (he : e = (f a[k]).map .v) : (fillUp f z a k).set k e = fillUp f z a (k + 1) := by
  subst he
  have h1 : ((a.take k).map f).length = k := by simp; omega
  simp only [fillUp]
  rw [← List.map_set, List.set_append_right _ _ (by omega), h1, Nat.sub_self, List.take_succ_eq_append_getElem h, show a.length - k = (a.length - (k + 1)) + 1 by omega, List.replicate_succ, List.set_cons_zero]
  simp only [List.map_append, List.map_cons, List.map_nil, List.append_assoc, List.cons_append, List.nil_append]
theorem le_fill {α : Type} {f : α → List HVal} {z : List HVal} {a : List α} {k : Nat} {h : Heap} {n sz : Nat} {e : List Cell} (hk : k < a.length) (he : e = (f a[k]).map .v) :
    (upd h n (.row sz (fillUp f z a (k + 1)))).le (upd (upd h n (.row sz (fillUp f z a k))) n (.row sz ((fillUp f z a k).set k e))) := by
  rw [fillUp_set f z a k hk e he, upd_upd]
  exact Heap.le_refl _
theorem upd_get (h : Heap) (n m : Nat) (o : HObj) : upd h n o m = if m = n then some o else h m := rfl
theorem getElem_of_eq {α : Type} {a b : List α} (e : a = b) {k : Nat} (ha : k < a.length) {hb : k < b.length} : a[k] = b[k] := by subst e; rfl
theorem take_step {α : Type} {a b : List α} {k : Nat} (ha : k < a.length) (hb : k < b.length) (hp : a.take k = b.take k) (he : a[k] = b[k]) : a.take (k + 1) = b.take (k + 1) := by
  rw [List.take_succ_eq_append_getElem ha, List.take_succ_eq_append_getElem hb, hp, he]
theorem eq_of_take {α : Type} {a b : List α} (hl : a.length = b.length) (h : a.take a.length = b.take a.length) : a = b := by
  rw [List.take_length, hl, List.take_length] at h; exact h
theorem valRows_map (l : List (List HVal)) : valRows (l.map (List.map .v)) = l := by
  induction l with
  | nil => rfl
  | cons e l ih =>
    have : valRow (e.map Cell.v) = e := by
      induction e with
      | nil => rfl
      | cons x e ih => simp only [List.map_cons, valRow, Cell.val, ih]
    simp only [valRows, List.map_cons] at ih ⊢
    rw [ih, this]
/-- A row of this function's own, handed back. -/
theorem shift_row {h h' : Heap} {n sz : Nat} (es : List (List HVal)) (h0 : h n = none) (hl : (upd h n (.row sz (es.map (List.map .v)))).le h') (len : Nat) (e : len = es.length) : Shift (.os n sz 0 len) h' (.sl sz es false) h := by
  subst e
  refine (Shift.of (Sub.refl _) hl).trans ((Shift.sealUp (upd_same _ _ _) (by simp [sealOK])).trans ?_)
  have : HVal.sealUp n (valRows (es.map (List.map .v))) (.os n sz 0 es.length) = .sl sz es false := by simp [HVal.sealUp, valRows_map]
  rw [this]
  exact shift_le ((le_upd h0).2 ((le_upd h0).2 (Heap.le_refl h)))

theorem map_get {α β : Type} {f : α → β} {l : List α} {k : Nat} (h : k < l.length) : (l.map f)[k]? = some (f l[k]) := by
  rw [List.getElem?_map, List.getElem?_eq_getElem h]; rfl
theorem all_step {α : Type} {P : α → Prop} {l : List α} {k : Nat} (h : k < l.length) (hp : ∀ x ∈ l.take k, P x) (he : P l[k]) : ∀ x ∈ l.take (k + 1), P x := by
  rw [List.take_succ_eq_append_getElem h]
  intro x hx
  rcases List.mem_append.1 hx with hx | hx
  · exact hp x hx
  · rw [List.mem_singleton.1 hx]; exact he
/-- The first place where p holds, or -1. -/
def idxOf {α : Type} (p : α → Bool) (l : List α) : Int := match l.findIdx? p with | some i => i | none => -1
theorem idxOf_none {α : Type} {p : α → Bool} {l : List α} (h : ∀ x ∈ l, p x = false) : idxOf p l = -1 := by
  have : l.findIdx? p = none := List.findIdx?_eq_none_iff.2 h
  simp only [idxOf, this]
theorem idxOf_some {α : Type} {p : α → Bool} {l : List α} {k : Nat} (hk : k < l.length) (h : ∀ x ∈ l.take k, p x = false) (he : p l[k] = true) : idxOf p l = k := by
  have : l.findIdx? p = some k := by
    rw [List.findIdx?_eq_some_iff_getElem]
    refine ⟨hk, he, fun j hj => ?_⟩
    have := h l[j] (List.mem_take_iff_getElem.2 ⟨j, by omega, rfl⟩)
    simp [this]
  simp only [idxOf, this]
theorem idxOf_nonneg {α : Type} {p : α → Bool} {l : List α} : decide (0 ≤ idxOf p l) = l.any p := by
  unfold idxOf
  cases h : l.findIdx? p with
  | none =>
    have := List.findIdx?_eq_none_iff.1 h
    simp only
    rw [Bool.eq_false_iff.2 (show l.any p ≠ true from ?_)]
    · simp
    · intro hx
      obtain ⟨x, hx, hp⟩ := List.any_eq_true.1 hx
      rw [this x hx] at hp; cases hp
  | some i =>
    obtain ⟨hi, hp, _⟩ := List.findIdx?_eq_some_iff_getElem.1 h
    have : l.any p = true := List.any_eq_true.2 ⟨_, List.getElem_mem hi, hp⟩
    rw [this]; simp
/-- A number of the field. -/
def Num (n : Int) : Prop := 0 ≤ n ∧ n ≤ 1000002
instance (n : Int) : Decidable (Num n) := inferInstanceAs (Decidable (0 ≤ n ∧ n ≤ 1000002))
inductive DExpr where
  | mk (fKind : Int) (fNum : Int) (fPick : Int) (fCount : Int) (fKids : (List DExpr))
def DExpr.fKind : DExpr → Int
  | .mk fKind fNum fPick fCount fKids => fKind
def DExpr.fNum : DExpr → Int
  | .mk fKind fNum fPick fCount fKids => fNum
def DExpr.fPick : DExpr → Int
  | .mk fKind fNum fPick fCount fKids => fPick
def DExpr.fCount : DExpr → Int
  | .mk fKind fNum fPick fCount fKids => fCount
def DExpr.fKids : DExpr → (List DExpr)
  | .mk fKind fNum fPick fCount fKids => fKids
mutual
def DExpr.c : DExpr → List HVal
  | .mk fKind fNum fPick fCount fKids => [(.int .i64 fKind), (.int .i64 fNum), (.int .i64 fPick), (.int .i64 fCount), .sl 5 (DExpr.cL fKids) false]
def DExpr.cL : List DExpr → List (List HVal)
  | [] => []
  | x :: l => x.c :: DExpr.cL l
end
mutual
def DExpr.s : DExpr → Nat
  | .mk fKind fNum fPick fCount fKids => (fKids.length + DExpr.sL fKids)
def DExpr.sL : List DExpr → Nat
  | [] => 0
  | x :: l => x.s + DExpr.sL l
end
theorem DExpr.cL_map : ∀ l, DExpr.cL l = l.map DExpr.c
  | [] => rfl
  | x :: l => by simp only [DExpr.cL, List.map_cons, DExpr.cL_map l]
theorem DExpr.sL_map : ∀ l, DExpr.sL l = (l.map DExpr.s).sum
  | [] => rfl
  | x :: l => by simp only [DExpr.sL, List.map_cons, List.sum_cons, DExpr.sL_map l]
theorem DExpr.c_eq (x : DExpr) : x.c = [(.int .i64 x.fKind), (.int .i64 x.fNum), (.int .i64 x.fPick), (.int .i64 x.fCount), (sls 5 DExpr.c x.fKids)] := by cases x; simp only [DExpr.c, DExpr.cL_map, sls]; rfl
theorem DExpr.s_eq (x : DExpr) : x.s = (szs DExpr.s x.fKids) := by cases x; simp only [DExpr.s, DExpr.sL_map, szs]; rfl
theorem DExpr.kid_lt {x y : DExpr} (h : y ∈ x.fKids) : SizeOf.sizeOf y < SizeOf.sizeOf x := by
  cases x
  have := List.sizeOf_lt_of_mem h
  simp only [DExpr.fKids] at this
  simp only [DExpr.mk.sizeOf_spec]; omega
@[simp] theorem DExpr.c_len (x : DExpr) : x.c.length = 5 := by rw [DExpr.c_eq]; rfl
inductive DExpr.wf : DExpr → Prop
  | mk (x : DExpr) (h0 : InI x.fKind) (h1 : InI x.fNum) (h2 : InI x.fPick) (h3 : InI x.fCount) (hk : ∀ y ∈ x.fKids, y.wf) : x.wf
theorem DExpr.eq_iff {a b : DExpr} : a = b ↔ a.fKind = b.fKind ∧ a.fNum = b.fNum ∧ a.fPick = b.fPick ∧ a.fCount = b.fCount ∧ a.fKids = b.fKids := by cases a; cases b; simp [DExpr.fKind, DExpr.fNum, DExpr.fPick, DExpr.fCount, DExpr.fKids]
noncomputable instance : DecidableEq DExpr := fun a b => Classical.propDecidable (a = b)

structure DFunc where
  fName : (List UInt8)
  fParams : Int
  fOuts : (List DExpr)
def DFunc.c (x : DFunc) : List HVal := [(.str x.fName), (.int .i64 x.fParams), (sls 5 DExpr.c x.fOuts)]
def DFunc.s (x : DFunc) : Nat := x.fName.length + (szs DExpr.s x.fOuts)
theorem DFunc.c_eq (x : DFunc) : x.c = [(.str x.fName), (.int .i64 x.fParams), (sls 5 DExpr.c x.fOuts)] := rfl
theorem DFunc.s_eq (x : DFunc) : x.s = x.fName.length + (szs DExpr.s x.fOuts) := rfl
@[simp] theorem DFunc.c_len (x : DFunc) : x.c.length = 3 := by rw [DFunc.c_eq]; rfl
def DFunc.wf (x : DFunc) : Prop := InI x.fParams ∧ (∀ y ∈ x.fOuts, y.wf)
theorem DFunc.eq_iff {a b : DFunc} : a = b ↔ a.fName = b.fName ∧ a.fParams = b.fParams ∧ a.fOuts = b.fOuts := by cases a; cases b; simp
noncomputable instance : DecidableEq DFunc := fun a b => Classical.propDecidable (a = b)

structure DProgram where
  fFuncs : (List DFunc)
def DProgram.c (x : DProgram) : List HVal := [(sls 3 DFunc.c x.fFuncs)]
def DProgram.s (x : DProgram) : Nat := (szs DFunc.s x.fFuncs)
theorem DProgram.c_eq (x : DProgram) : x.c = [(sls 3 DFunc.c x.fFuncs)] := rfl
theorem DProgram.s_eq (x : DProgram) : x.s = (szs DFunc.s x.fFuncs) := rfl
@[simp] theorem DProgram.c_len (x : DProgram) : x.c.length = 1 := by rw [DProgram.c_eq]; rfl
def DProgram.wf (x : DProgram) : Prop := (∀ y ∈ x.fFuncs, y.wf)
theorem DProgram.eq_iff {a b : DProgram} : a = b ↔ a.fFuncs = b.fFuncs := by cases a; cases b; simp
noncomputable instance : DecidableEq DProgram := fun a b => Classical.propDecidable (a = b)


open Go.Proofs
set_option linter.unusedVariables false
set_option linter.unusedSimpArgs false
theorem dat_i64 {P : Program} {n : Nat} {t : TypeId} {xs : List HVal} (hu : P.underlying t = some (.int .i64)) (h : Dat P n t xs) : ∃ i : Int, xs = [I i] ∧ InI i := by
  match n, h with
  | 0, h => exact h.elim
  | n + 1, h =>
    simp only [Dat, hu] at h
    obtain ⟨i, rfl, hw⟩ := h
    refine ⟨i, rfl, ?_⟩
    have h1 : IntKind.min .i64 = -9223372036854775808 := by decide
    have h2 : IntKind.max .i64 = 9223372036854775807 := by decide
    simp [Lit.wf, IntKind.has, h1, h2] at hw
    unfold InI
    omega
theorem dat_str {P : Program} {n : Nat} {t : TypeId} {xs : List HVal} (hu : P.underlying t = some .string) (h : Dat P n t xs) : ∃ s : List UInt8, xs = [.str s] ∧ True := by
  match n, h with
  | 0, h => exact h.elim
  | n + 1, h =>
    simp only [Dat, hu] at h
    obtain ⟨b, rfl⟩ := h
    exact ⟨b, rfl, trivial⟩
theorem list_of {α : Type} {c : α → List HVal} {w : α → Prop} : ∀ {es : List (List HVal)}, (∀ y ∈ es, ∃ x, y = c x ∧ w x) → ∃ l : List α, es = l.map c ∧ ∀ x ∈ l, w x
  | [], _ => ⟨[], rfl, by simp⟩
  | e :: es, h => by
    obtain ⟨x, rfl, hx⟩ := h _ List.mem_cons_self
    obtain ⟨l, rfl, hl⟩ := list_of fun y hy => h y (List.mem_cons_of_mem _ hy)
    refine ⟨x :: l, rfl, fun y hy => ?_⟩
    rcases List.mem_cons.1 hy with rfl | hy
    · exact hx
    · exact hl y hy
theorem dat_slice {P : Program} {n sz : Nat} {t e : TypeId} {α : Type} {c : α → List HVal} {w : α → Prop} {xs : List HVal} (hu : P.underlying t = some (.slice e)) (hc : P.cellsOf e = sz) (h : Dat P n t xs)
    (hx : ∀ m y, m < n → Dat P m e y → ∃ x, y = c x ∧ w x) : ∃ l : List α, xs = [sls sz c l] ∧ ∀ x ∈ l, w x := by
  match n, h with
  | 0, h => exact h.elim
  | n + 1, h =>
    simp only [Dat, hu] at h
    obtain ⟨es, rfl, hes⟩ := h
    obtain ⟨l, rfl, hl⟩ := list_of fun y hy => hx n y (by omega) (hes y hy)
    exact ⟨l, by rw [hc], hl⟩
theorem drop_split {α : Type} {xs c r : List α} {o n o' : Nat} (h : (xs.drop o).take n = c) (hr : xs.drop o' = r) (ho : o + n = o') : xs.drop o = c ++ r := by
  rw [← hr, ← ho, ← List.drop_drop, ← h, List.take_append_drop]
theorem cells24 : Tryz.prog.cellsOf 24 = 1 := by kernel_rfl
theorem cells2 : Tryz.prog.cellsOf 2 = 1 := by kernel_rfl
theorem cells64 : Tryz.prog.cellsOf 64 = 1 := by kernel_rfl
theorem cells125 : Tryz.prog.cellsOf 125 = 5 := by kernel_rfl
theorem cells9 : Tryz.prog.cellsOf 9 = 1 := by kernel_rfl
theorem cells66 : Tryz.prog.cellsOf 66 = 3 := by kernel_rfl
theorem cells22 : Tryz.prog.cellsOf 22 = 1 := by kernel_rfl
set_option maxRecDepth 100000 in
theorem dat_125 : ∀ {n : Nat} {xs : List HVal}, Dat Tryz.prog n 125 xs → ∃ x : DExpr, xs = x.c ∧ x.wf
  | 0, _, h => h.elim
  | n + 1, xs, h => by
    simp only [Dat, Tryz.underlying125] at h
    obtain ⟨hl, hf⟩ := h
    rw [cells125] at hl
    have f0 : Dat Tryz.prog n 2 ((xs.drop 0).take (Tryz.prog.cellsOf 2)) := hf 0 _ rfl
    rw [cells2] at f0
    obtain ⟨x0, e0, w0⟩ := (dat_i64 Tryz.underlying2 f0)
    have f1 : Dat Tryz.prog n 2 ((xs.drop 1).take (Tryz.prog.cellsOf 2)) := hf 1 _ rfl
    rw [cells2] at f1
    obtain ⟨x1, e1, w1⟩ := (dat_i64 Tryz.underlying2 f1)
    have f2 : Dat Tryz.prog n 2 ((xs.drop 2).take (Tryz.prog.cellsOf 2)) := hf 2 _ rfl
    rw [cells2] at f2
    obtain ⟨x2, e2, w2⟩ := (dat_i64 Tryz.underlying2 f2)
    have f3 : Dat Tryz.prog n 2 ((xs.drop 3).take (Tryz.prog.cellsOf 2)) := hf 3 _ rfl
    rw [cells2] at f3
    obtain ⟨x3, e3, w3⟩ := (dat_i64 Tryz.underlying2 f3)
    have f4 : Dat Tryz.prog n 64 ((xs.drop 4).take (Tryz.prog.cellsOf 64)) := hf 4 _ rfl
    rw [cells64] at f4
    obtain ⟨x4, e4, w4⟩ := (dat_slice (c := DExpr.c) (w := (fun x => x.wf)) Tryz.underlying64 cells125 f4 (fun m y hm hy => (dat_125 hy)))
    have r5 : xs.drop 5 = [] := List.drop_eq_nil_of_le (by omega)
    have r4 := drop_split e4 r5 rfl
    have r3 := drop_split e3 r4 rfl
    have r2 := drop_split e2 r3 rfl
    have r1 := drop_split e1 r2 rfl
    have r0 := drop_split e0 r1 rfl
    exact ⟨.mk x0 x1 x2 x3 x4, by rw [DExpr.c_eq]; exact r0, .mk _ w0 w1 w2 w3 w4⟩
termination_by n => n
decreasing_by all_goals omega
set_option maxRecDepth 100000 in
theorem dat_66 : ∀ {n : Nat} {xs : List HVal}, Dat Tryz.prog n 66 xs → ∃ x : DFunc, xs = x.c ∧ x.wf
  | 0, _, h => h.elim
  | n + 1, xs, h => by
    simp only [Dat, Tryz.underlying66] at h
    obtain ⟨hl, hf⟩ := h
    rw [cells66] at hl
    have f0 : Dat Tryz.prog n 9 ((xs.drop 0).take (Tryz.prog.cellsOf 9)) := hf 0 _ rfl
    rw [cells9] at f0
    obtain ⟨x0, e0, w0⟩ := (dat_str Tryz.underlying9 f0)
    have f1 : Dat Tryz.prog n 2 ((xs.drop 1).take (Tryz.prog.cellsOf 2)) := hf 1 _ rfl
    rw [cells2] at f1
    obtain ⟨x1, e1, w1⟩ := (dat_i64 Tryz.underlying2 f1)
    have f2 : Dat Tryz.prog n 64 ((xs.drop 2).take (Tryz.prog.cellsOf 64)) := hf 2 _ rfl
    rw [cells64] at f2
    obtain ⟨x2, e2, w2⟩ := (dat_slice (c := DExpr.c) (w := (fun x => x.wf)) Tryz.underlying64 cells125 f2 (fun m y hm hy => (dat_125 hy)))
    have r3 : xs.drop 3 = [] := List.drop_eq_nil_of_le (by omega)
    have r2 := drop_split e2 r3 rfl
    have r1 := drop_split e1 r2 rfl
    have r0 := drop_split e0 r1 rfl
    exact ⟨⟨x0, x1, x2⟩, r0, ⟨w1, w2⟩⟩
set_option maxRecDepth 100000 in
theorem dat_24 : ∀ {n : Nat} {xs : List HVal}, Dat Tryz.prog n 24 xs → ∃ x : DProgram, xs = x.c ∧ x.wf
  | 0, _, h => h.elim
  | n + 1, xs, h => by
    simp only [Dat, Tryz.underlying24] at h
    obtain ⟨hl, hf⟩ := h
    rw [cells24] at hl
    have f0 : Dat Tryz.prog n 22 ((xs.drop 0).take (Tryz.prog.cellsOf 22)) := hf 0 _ rfl
    rw [cells22] at f0
    obtain ⟨x0, e0, w0⟩ := (dat_slice (c := DFunc.c) (w := (fun x => x.wf)) Tryz.underlying22 cells66 f0 (fun m y hm hy => (dat_66 hy)))
    have r1 : xs.drop 1 = [] := List.drop_eq_nil_of_le (by omega)
    have r0 := drop_split e0 r1 rfl
    exact ⟨⟨x0⟩, r0, w0⟩
def datT : List TypeId := [2, 9, 22, 24, 64, 66, 125]
theorem datT_ok : datB Tryz.prog datT = true := by kernel_rfl

open Go.Proofs
set_option linter.unusedVariables false
set_option linter.unusedSimpArgs false


def keep68 : List Nat := [0, 2, 3, 4, 11]
def ib68 : List Nat := []
def mk68 : Marks := fun _ => ([], .nil, [])
set_option maxRecDepth 100000 in
theorem to_ExprS (l : List DExpr) (h1 : l.length ≤ 1048576) (hc : ∀ x ∈ l, Fn0 Tryz.prog 95 [(.agg (DExpr.c x))] (.agg (DExpr.c x))) : Fn0 Tryz.prog 68 [(sls 5 DExpr.c l)] (sls 5 DExpr.c l) := by
  refine fn0S 23 keep68 ib68 mk68 mix Tryz.func68 rfl (by kernel_rfl) (by simp) fun h => ?_
  simp -dsimp -implicitDefEqProofs only [go_sem, Tryz.f68, ↓reduceIte, keep68, ib68, mk68]
  refine fun _ => ⟨by omega, by omega, by omega, by omega, fun n hn => ?_⟩
  refine loopF (keep := keep68) (ib := ib68) (mk := mk68) mix (by kernel_rfl) (fun k : Nat => [(0, (sls 5 DExpr.c l)), (3, .os n 5 0 l.length), (4, I k)]) (fun k => upd h n (.row 5 (fillUp DExpr.c [.int .i64 0, .int .i64 0, .int .i64 0, .int .i64 0, .nilsl] l k))) (fun k => k ≤ l.length) (fun k => l.length - k) 0 (by simp [SatL, tget, Heap.le_refl, fillUp_zero]) ?_
  intro k hk
  rcases Nat.lt_or_ge k l.length with hlt | hge
  · have ea : l[k]? = some l[k] := List.getElem?_eq_getElem hlt
    simp -dsimp -implicitDefEqProofs only [go_sem, ↓reduceIte, keep68, ib68, mk68, Tryz.f68, ea, fillUp_get _ _ _ _ hlt, DExpr.c_eq]
    refine fun _ => ⟨fun _ => ⟨hlt, ?_⟩, fun hn => absurd hlt hn⟩
    have hx := hc l[k] (List.getElem_mem hlt)
    simp only [DExpr.c_eq] at hx
    refine HFnF.mk hx ?_
    simp -dsimp -implicitDefEqProofs only [go_sem, ↓reduceIte, keep68, ib68, mk68, Tryz.f68, fillUp_get _ _ _ _ hlt]
    refine ⟨hlt, k + 1, by rw [IntWalk.i64_in _ (by omega)]; rfl, ?_, by omega, by omega⟩
    exact le_fill hlt (by first | rfl | (simp only [List.map_cons, List.map_nil, DExpr.c_eq]))
  · have hk' : k = l.length := by omega
    subst hk'
    simp -dsimp -implicitDefEqProofs only [go_sem, ↓reduceIte, keep68, ib68, mk68, Tryz.f68, Nat.lt_irrefl]
    rw [fillUp_all]
    exact fun _ => shift_row _ hn (Heap.le_refl _) _ (by simp)

def keep95 : List Nat := [0, 1, 2, 3]
def ib95 : List Nat := [1]
def mk95 : Marks := fun _ => ([], .nil, [])
set_option maxRecDepth 100000 in
theorem to_Expr_step (x : DExpr) (hs : x.s ≤ 1048576) (hk : Fn0 Tryz.prog 68 [(sls 5 DExpr.c x.fKids)] (sls 5 DExpr.c x.fKids)) : Fn0 Tryz.prog 95 [.agg x.c] (.agg x.c) := by
  rw [DExpr.s_eq] at hs
  simp only [DExpr.c_eq]
  refine fn0S 21 keep95 ib95 mk95 mix Tryz.func95 rfl (by kernel_rfl) (by simp) fun h => ?_
  simp -dsimp -implicitDefEqProofs only [go_sem, Tryz.f95, ↓reduceIte, keep95, ib95, mk95]
  intro n2 h2 n3 h3
  have e1 : (n2 = n3) = False := eq_false fun e => h3.1 e.symm
  have e2 : (n3 = n2) = False := eq_false h3.1
  have hzfKids : (x.fKids).length + ((x.fKids).map DExpr.s).sum = (szs DExpr.s x.fKids) := rfl
  refine HFnF.mk hk ?_
  simp -dsimp -implicitDefEqProofs only [go_sem, ↓reduceIte, keep95, ib95, mk95, Tryz.f95, upd_upd, upd_get, e1, e2]
  exact shift_le (by simp -dsimp -implicitDefEqProofs only [go_sem, h2, h3, e1, e2, upd_get])
theorem to_Expr (x : DExpr) (hs : x.s ≤ 1048576) : Fn0 Tryz.prog 95 [.agg x.c] (.agg x.c) :=
  to_Expr_step x hs (to_ExprS x.fKids (by rw [DExpr.s_eq] at hs; rw [szs_eq] at hs; omega) fun y hy => to_Expr y (by rw [DExpr.s_eq] at hs; have := sum_mem DExpr.s hy; rw [szs_eq] at hs; omega))
termination_by SizeOf.sizeOf x
decreasing_by exact DExpr.kid_lt hy

def keep42 : List Nat := [0, 1, 2, 3]
def ib42 : List Nat := [1]
def mk42 : Marks := fun _ => ([], .nil, [])
set_option maxRecDepth 100000 in
theorem to_Func (x : DFunc) (hs : x.s ≤ 1048576) : Fn0 Tryz.prog 42 [.agg x.c] (.agg x.c) := by
  rw [DFunc.s_eq] at hs
  simp only [DFunc.c_eq]
  refine fn0S 15 keep42 ib42 mk42 mix Tryz.func42 rfl (by kernel_rfl) (by simp) fun h => ?_
  simp -dsimp -implicitDefEqProofs only [go_sem, Tryz.f42, ↓reduceIte, keep42, ib42, mk42]
  intro n2 h2 n3 h3
  have e1 : (n2 = n3) = False := eq_false fun e => h3.1 e.symm
  have e2 : (n3 = n2) = False := eq_false h3.1
  have hzfOuts : (x.fOuts).length + ((x.fOuts).map DExpr.s).sum = (szs DExpr.s x.fOuts) := rfl
  refine HFnF.mk (to_ExprS x.fOuts (by omega) (fun y hy => to_Expr y (by have hq : (DExpr.s y) ≤ ((x.fOuts).map DExpr.s).sum := sum_mem DExpr.s hy; omega))) ?_
  simp -dsimp -implicitDefEqProofs only [go_sem, ↓reduceIte, keep42, ib42, mk42, Tryz.f42, upd_upd, upd_get, e1, e2]
  exact shift_le (by simp -dsimp -implicitDefEqProofs only [go_sem, h2, h3, e1, e2, upd_get])

def keep22 : List Nat := [0, 2, 3, 4, 11]
def ib22 : List Nat := []
def mk22 : Marks := fun _ => ([], .nil, [])
set_option maxRecDepth 100000 in
theorem to_FuncS (l : List DFunc) (h1 : l.length ≤ 1048576) (hc : ∀ x ∈ l, Fn0 Tryz.prog 42 [(.agg (DFunc.c x))] (.agg (DFunc.c x))) : Fn0 Tryz.prog 22 [(sls 3 DFunc.c l)] (sls 3 DFunc.c l) := by
  refine fn0S 23 keep22 ib22 mk22 mix Tryz.func22 rfl (by kernel_rfl) (by simp) fun h => ?_
  simp -dsimp -implicitDefEqProofs only [go_sem, Tryz.f22, ↓reduceIte, keep22, ib22, mk22]
  refine fun _ => ⟨by omega, by omega, by omega, by omega, fun n hn => ?_⟩
  refine loopF (keep := keep22) (ib := ib22) (mk := mk22) mix (by kernel_rfl) (fun k : Nat => [(0, (sls 3 DFunc.c l)), (3, .os n 3 0 l.length), (4, I k)]) (fun k => upd h n (.row 3 (fillUp DFunc.c [.str [], .int .i64 0, .nilsl] l k))) (fun k => k ≤ l.length) (fun k => l.length - k) 0 (by simp [SatL, tget, Heap.le_refl, fillUp_zero]) ?_
  intro k hk
  rcases Nat.lt_or_ge k l.length with hlt | hge
  · have ea : l[k]? = some l[k] := List.getElem?_eq_getElem hlt
    simp -dsimp -implicitDefEqProofs only [go_sem, ↓reduceIte, keep22, ib22, mk22, Tryz.f22, ea, fillUp_get _ _ _ _ hlt, DFunc.c_eq]
    refine fun _ => ⟨fun _ => ⟨hlt, ?_⟩, fun hn => absurd hlt hn⟩
    have hx := hc l[k] (List.getElem_mem hlt)
    simp only [DFunc.c_eq] at hx
    refine HFnF.mk hx ?_
    simp -dsimp -implicitDefEqProofs only [go_sem, ↓reduceIte, keep22, ib22, mk22, Tryz.f22, fillUp_get _ _ _ _ hlt]
    refine ⟨hlt, k + 1, by rw [IntWalk.i64_in _ (by omega)]; rfl, ?_, by omega, by omega⟩
    exact le_fill hlt (by first | rfl | (simp only [List.map_cons, List.map_nil, DFunc.c_eq]))
  · have hk' : k = l.length := by omega
    subst hk'
    simp -dsimp -implicitDefEqProofs only [go_sem, ↓reduceIte, keep22, ib22, mk22, Tryz.f22, Nat.lt_irrefl]
    rw [fillUp_all]
    exact fun _ => shift_row _ hn (Heap.le_refl _) _ (by simp)

def keep7 : List Nat := [0, 1, 2, 3]
def ib7 : List Nat := [1]
def mk7 : Marks := fun _ => ([], .nil, [])
set_option maxRecDepth 100000 in
theorem to_Program (x : DProgram) (hs : x.s ≤ 1048576) : Fn0 Tryz.prog 7 [.agg x.c] (.agg x.c) := by
  rw [DProgram.s_eq] at hs
  simp only [DProgram.c_eq]
  refine fn0S 9 keep7 ib7 mk7 mix Tryz.func7 rfl (by kernel_rfl) (by simp) fun h => ?_
  simp -dsimp -implicitDefEqProofs only [go_sem, Tryz.f7, ↓reduceIte, keep7, ib7, mk7]
  intro n2 h2 n3 h3
  have e1 : (n2 = n3) = False := eq_false fun e => h3.1 e.symm
  have e2 : (n3 = n2) = False := eq_false h3.1
  have hzfFuncs : (x.fFuncs).length + ((x.fFuncs).map DFunc.s).sum = (szs DFunc.s x.fFuncs) := rfl
  refine HFnF.mk (to_FuncS x.fFuncs (by omega) (fun y hy => to_Func y (by have hq : (DFunc.s y) ≤ ((x.fFuncs).map DFunc.s).sum := sum_mem DFunc.s hy; omega))) ?_
  simp -dsimp -implicitDefEqProofs only [go_sem, ↓reduceIte, keep7, ib7, mk7, Tryz.f7, upd_upd, upd_get, e1, e2]
  exact shift_le (by simp -dsimp -implicitDefEqProofs only [go_sem, h2, h3, e1, e2, upd_get])

open Go.Proofs
set_option linter.unusedVariables false
set_option linter.unusedSimpArgs false
mutual
def DExpr.o : DExpr → List OV → Prop
  | .mk fKind fNum fPick fCount fKids, e => ∃ y, e = [.v (.int .i64 fKind), .v (.int .i64 fNum), .v (.int .i64 fPick), .v (.int .i64 fCount), y] ∧ ((y = .nil 5 ∧ fKids = []) ∨ ∃ n es, y = .sl n 5 es ∧ DExpr.oR fKids es)
def DExpr.oR : List DExpr → List (List OV) → Prop
  | [], [] => True
  | x :: l, e :: es => x.o e ∧ DExpr.oR l es
  | _, _ => False
end
theorem DExpr.oR_eq : ∀ (l : List DExpr) (es : List (List OV)), DExpr.oR l es = OR DExpr.o l es
  | [], [] => rfl
  | x :: l, e :: es => by rw [DExpr.oR, OR, DExpr.oR_eq l es]
  | [], _ :: _ => rfl
  | _ :: _, [] => rfl
theorem DExpr.o_iff (x : DExpr) (e : List OV) : x.o e ↔ ∃ y4, e = [.v (.int .i64 x.fKind), .v (.int .i64 x.fNum), .v (.int .i64 x.fPick), .v (.int .i64 x.fCount), y4] ∧ OS DExpr.o 5 x.fKids y4 := by
  cases x
  simp only [DExpr.o, DExpr.oR_eq, OS]
  rfl
mutual
theorem DExpr.o_dat : ∀ {x : DExpr} {e : List OV}, x.o e → e.map OV.dat = x.c
  | .mk fKind fNum fPick fCount fKids, e, h => by
    rw [DExpr.o_iff] at h
    obtain ⟨y, rfl, h⟩ := h
    have hk : y.dat = .sl 5 (fKids.map DExpr.c) false := by
      rcases h with ⟨rfl, h0⟩ | ⟨n, es, rfl, h⟩
      · have h1 : fKids = [] := h0
        subst h1; rfl
      · simp only [OV.dat]
        rw [DExpr.o_datR h]
        rfl
    rw [DExpr.c_eq]
    simp only [List.map_cons, List.map_nil, OV.dat, hk]
    rfl
theorem DExpr.o_datR : ∀ {l : List DExpr} {es : List (List OV)}, OR DExpr.o l es → OV.datRows es = l.map DExpr.c
  | [], [], _ => rfl
  | x :: l, e :: es, h => by rw [OV.datRows, DExpr.o_datR h.2, OV.datRow_map, DExpr.o_dat h.1]; rfl
  | [], _ :: _, h => h.elim
  | _ :: _, [], h => h.elim
end
def DFunc.o (x : DFunc) (e : List OV) : Prop := ∃ y2, e = [.v (.str x.fName), .v (.int .i64 x.fParams), y2] ∧ OS DExpr.o 5 x.fOuts y2
theorem DFunc.o_dat {x : DFunc} {e : List OV} (h : x.o e) : e.map OV.dat = x.c := by
  obtain ⟨y2, rfl, o2⟩ := h
  have d2 := OS.dat (c := DExpr.c) (fun _ _ q => DExpr.o_dat q) o2
  rw [DFunc.c_eq]
  simp only [List.map_cons, List.map_nil, OV.dat, d2]
def DProgram.o (x : DProgram) (e : List OV) : Prop := ∃ y0, e = [y0] ∧ OS DFunc.o 3 x.fFuncs y0
theorem DProgram.o_dat {x : DProgram} {e : List OV} (h : x.o e) : e.map OV.dat = x.c := by
  obtain ⟨y0, rfl, o0⟩ := h
  have d0 := OS.dat (c := DFunc.c) (fun _ _ q => DFunc.o_dat q) o0
  rw [DProgram.c_eq]
  simp only [List.map_cons, List.map_nil, OV.dat, d0]

theorem DExpr.o_sol (x : DExpr) (e : List OV) (h : x.o e) : OV.solRow e = true := by
  rw [DExpr.o_iff] at h
  obtain ⟨y4, rfl, o4⟩ := h
  have d4 := OS.solm (fun z hz e q => DExpr.o_sol z e q) o4
  simp [OV.solRow, OV.sol, HVal.solid, d4]
termination_by SizeOf.sizeOf x
decreasing_by exact DExpr.kid_lt hz
theorem DExpr.o_ct (x : DExpr) (e : List OV) (h : x.o e) : OV.ctRow e ≤ 16 * (1 + x.s) := by
  rw [DExpr.o_iff] at h
  obtain ⟨y4, rfl, o4⟩ := h
  have d4 := OS.cts (s := DExpr.s) o4 (fun z hz e q => DExpr.o_ct z e q)
  have s0 := DExpr.s_eq x
  clear o4
  simp only [OV.ctRow, OV.ct_v]
  refine Nat.le_trans (Nat.add_le_add (Nat.le_refl 1) (Nat.add_le_add (Nat.le_refl 1) (Nat.add_le_add (Nat.le_refl 1) (Nat.add_le_add (Nat.le_refl 1) (Nat.add_le_add d4 (Nat.le_refl 0)))))) ?_
  clear d4
  try generalize (szs DExpr.s x.fKids) = z4 at *
  omega
termination_by SizeOf.sizeOf x
decreasing_by exact DExpr.kid_lt hz
theorem DExpr.o_top (x : DExpr) (e : List OV) (h : x.o e) : OV.ctTop e ≤ 16 * (1 + x.s) := by
  have h1 := DExpr.o_ct x e h
  have h2 : ∀ e : List OV, OV.ctTop e ≤ OV.ctRow e := fun e => by
    induction e with
    | nil => simp [OV.ctTop]
    | cons a e ih => rw [OV.ctTop, OV.ctRow]; cases a <;> simp [OV.ctT] <;> omega
  exact Nat.le_trans (h2 e) h1
theorem DFunc.o_ct (x : DFunc) (e : List OV) (h : x.o e) : OV.ctRow e ≤ 16 * (1 + x.s) := by
  obtain ⟨y2, rfl, o2⟩ := h
  have d2 := OS.cts (s := DExpr.s) o2 (fun z hz e q => DExpr.o_ct z e q)
  have s0 := DFunc.s_eq x
  clear o2
  simp only [OV.ctRow, OV.ct_v]
  refine Nat.le_trans (Nat.add_le_add (Nat.le_refl 1) (Nat.add_le_add (Nat.le_refl 1) (Nat.add_le_add d2 (Nat.le_refl 0)))) ?_
  clear d2
  try generalize (szs DExpr.s x.fOuts) = z2 at *
  omega
theorem DProgram.o_ct (x : DProgram) (e : List OV) (h : x.o e) : OV.ctRow e ≤ 16 * (1 + x.s) := by
  obtain ⟨y0, rfl, o0⟩ := h
  have d0 := OS.cts (s := DFunc.s) o0 (fun z hz e q => DFunc.o_ct z e q)
  have s0 := DProgram.s_eq x
  clear o0
  simp only [OV.ctRow, OV.ct_v]
  refine Nat.le_trans (Nat.add_le_add d0 (Nat.le_refl 0)) ?_
  clear d0
  try generalize (szs DFunc.s x.fFuncs) = z0 at *
  omega
theorem DProgram.o_top (x : DProgram) (e : List OV) (h : x.o e) : OV.ctTop e ≤ 16 * (1 + x.s) := by
  have h1 := DProgram.o_ct x e h
  have h2 : ∀ e : List OV, OV.ctTop e ≤ OV.ctRow e := fun e => by
    induction e with
    | nil => simp [OV.ctTop]
    | cons a e ih => rw [OV.ctTop, OV.ctRow]; cases a <;> simp [OV.ctT] <;> omega
  exact Nat.le_trans (h2 e) h1

open Go.Proofs
set_option linter.unusedVariables false
set_option linter.unusedSimpArgs false


set_option maxRecDepth 100000 in
theorem toO_ExprS (l : List DExpr) (h1 : l.length ≤ 1048576) (hc : ∀ x ∈ l, FnN Tryz.prog 95 [(.agg (DExpr.c x))] (QA x.o)) : FnN Tryz.prog 68 [(sls 5 DExpr.c l)] (QS (OS DExpr.o 5 l)) := by
  refine fnNF 23 keep68 ib68 mk68 mix Tryz.func68 rfl (by kernel_rfl) (by simp) fun h => ?_
  simp (maxSteps := 1000000) -dsimp -implicitDefEqProofs only [go_sem, ↓reduceIte, keep68, ib68, mk68, Tryz.f68]
  refine fun _ => ⟨by omega, by omega, by omega, by omega, fun n hn => ?_⟩
  refine loopF (keep := keep68) (ib := ib68) (mk := mk68) mix (by kernel_rfl) (fun x : Nat × List (List OV) × Heap => [(0, (sls 5 DExpr.c l)), (3, .os n 5 0 l.length), (4, I x.1)]) (fun x => upd x.2.2 n (.row 5 (OV.cells x.2.1 ++ (List.replicate (l.length - x.1) [.int .i64 0, .int .i64 0, .int .i64 0, .int .i64 0, .nilsl]).map (List.map .v)))) (fun x => x.1 ≤ l.length ∧ OR DExpr.o (l.take x.1) x.2.1 ∧ New h (OV.rowsRows x.2.1) x.2.2 ∧ x.2.2 n = none) (fun x => l.length - x.1) (0, [], h) (by
    exact ⟨by simp [SatL, tget], Heap.le_refl _, Nat.zero_le _, trivial, New.nil h, hn⟩) ?_
  rintro ⟨k, es, g⟩ ⟨hk, hor, hnew, hgn⟩
  have hlen : es.length = k := by have := hor.length; simp at this; omega
  rcases Nat.lt_or_ge k l.length with hlt | hge
  · have ea : l[k]? = some l[k] := List.getElem?_eq_getElem hlt
    have eg : ∀ m, m = l.length - k → (OV.cells es ++ (List.replicate m [.int .i64 0, .int .i64 0, .int .i64 0, .int .i64 0, .nilsl]).map (List.map Cell.v))[k]? = some ([.int .i64 0, .int .i64 0, .int .i64 0, .int .i64 0, .nilsl].map .v) := fun m hm => fill_get hlen (by omega)
    simp (maxSteps := 1000000) -dsimp -implicitDefEqProofs only [go_sem, ↓reduceIte, keep68, ib68, mk68, Tryz.f68, ea, DExpr.c_eq]
    refine fun _ => ⟨fun _ => ⟨hlt, ?_⟩, fun hn => absurd hlt hn⟩
    have hx := hc l[k] (List.getElem_mem hlt)
    simp only [DExpr.c_eq] at hx
    refine HFnF.nw1 hx hgn ?_
    rintro r l1 g1 ⟨e0, he0, rfl, rfl⟩ hn1 w1
    have he1 := he0
    rw [DExpr.o_iff] at he1
    obtain ⟨y_4, rfl, o_4⟩ := he1
    simp (maxSteps := 1000000) -dsimp -implicitDefEqProofs only [go_sem, ↓reduceIte, keep68, ib68, mk68, Tryz.f68, eg _ rfl, upd_upd, OV.map_val, OV.map_val_nil, OV.val_v, o_4.flat]
    refine ⟨hlt, (k + 1, es ++ [[.v (.int .i64 l[k].fKind), .v (.int .i64 l[k].fNum), .v (.int .i64 l[k].fPick), .v (.int .i64 l[k].fCount), y_4]], g1), ?_⟩
    simp only
    have hf := fill_set (z := [.int .i64 0, .int .i64 0, .int .i64 0, .int .i64 0, .nilsl]) [.v (.int .i64 l[k].fKind), .v (.int .i64 l[k].fNum), .v (.int .i64 l[k].fPick), .v (.int .i64 l[k].fCount), y_4] hlen (m := l.length - k) (by omega) [Cell.v (.int .i64 l[k].fKind), Cell.v (.int .i64 l[k].fNum), Cell.v (.int .i64 l[k].fPick), Cell.v (.int .i64 l[k].fCount), Cell.v y_4.val] rfl
    rw [hf, show l.length - k - 1 = l.length - (k + 1) by omega]
    refine ⟨by rw [IntWalk.i64_in _ (by omega)]; rfl, Heap.le_refl _, ⟨by omega, ?_, ?_, w1⟩, by omega⟩
    · rw [List.take_succ_eq_append_getElem hlt]
      exact OR.append hor ⟨he0, trivial⟩
    · rw [rowsRows_snoc]
      exact hnew.append hn1
  · have hk' : k = l.length := by omega
    subst hk'
    simp (maxSteps := 1000000) -dsimp -implicitDefEqProofs only [go_sem, ↓reduceIte, keep68, ib68, mk68, Tryz.f68, Nat.lt_irrefl]
    refine fun _ => ⟨_, _, _, shift_self _ _, ⟨.sl n 5 es, OS.mk (by simpa using hor), by simp [OV.val, hlen, tget], rfl⟩, ?_⟩
    rw [OV.sl_rows]
    simpa using hnew.row hgn

set_option maxRecDepth 100000 in
theorem toO_Expr_step (x : DExpr) (hs : x.s ≤ 1048576) (hk : FnN Tryz.prog 68 [(sls 5 DExpr.c x.fKids)] (QS (OS DExpr.o 5 x.fKids))) : FnN Tryz.prog 95 [.agg x.c] (QA x.o) := by
  rw [DExpr.s_eq] at hs
  simp only [DExpr.c_eq]
  refine fnNF 21 keep95 ib95 mk95 mix Tryz.func95 rfl (by kernel_rfl) (by simp) fun h => ?_
  simp (maxSteps := 1000000) -dsimp -implicitDefEqProofs only [go_sem, ↓reduceIte, keep95, ib95, mk95, Tryz.f95, upd_upd]
  intro n2 a0 n3 b0
  have e1 : (n2 = n3) = False := eq_false fun e => b0.1 e.symm
  have e2 : (n3 = n2) = False := eq_false b0.1
  have w0 := New.nil h
  have hb0 := b0.2
  have hzfKids : (x.fKids).length + ((x.fKids).map DExpr.s).sum = (szs DExpr.s x.fKids) := rfl
  refine HFnF.nw2 hk a0 ⟨b0.1, hb0⟩ ?_
  rintro r l1 g1 ⟨y1, o1, rfl, rfl⟩ w1 a1 hb1
  simp (maxSteps := 1000000) -dsimp -implicitDefEqProofs only [go_sem, ↓reduceIte, keep95, ib95, mk95, Tryz.f95, upd_upd, upd_get, e1, e2, OV.map_val, OV.map_val_nil, OV.val_v, o1.flat, o1.one]
  have w1t := w0.append w1
  refine ⟨_, g1, _, Shift.of (Sub.refl _) ?_, ⟨[.v (.int .i64 x.fKind), .v (.int .i64 x.fNum), .v (.int .i64 x.fPick), .v (.int .i64 x.fCount), y1], ?_, rfl, rfl⟩, ?_⟩
  · exact le_base1 a1 (le_base1 hb1 (le_base1 a1 (Heap.le_refl _)))
  · rw [DExpr.o_iff]; exact ⟨y1, rfl, o1⟩
  · simpa only [OV.row_cons, OV.row_nil, OV.v_rows, List.nil_append, List.append_nil, List.append_assoc] using w1t
theorem toO_Expr (x : DExpr) (hs : x.s ≤ 1048576) : FnN Tryz.prog 95 [.agg x.c] (QA x.o) :=
  toO_Expr_step x hs (toO_ExprS x.fKids (by rw [DExpr.s_eq] at hs; rw [szs_eq] at hs; omega) fun y hy => toO_Expr y (by rw [DExpr.s_eq] at hs; have := sum_mem DExpr.s hy; rw [szs_eq] at hs; omega))
termination_by SizeOf.sizeOf x
decreasing_by exact DExpr.kid_lt hy

set_option maxRecDepth 100000 in
theorem toO_Func (x : DFunc) (hs : x.s ≤ 1048576) : FnN Tryz.prog 42 [.agg x.c] (QA x.o) := by
  rw [DFunc.s_eq] at hs
  simp only [DFunc.c_eq]
  refine fnNF 15 keep42 ib42 mk42 mix Tryz.func42 rfl (by kernel_rfl) (by simp) fun h => ?_
  simp (maxSteps := 1000000) -dsimp -implicitDefEqProofs only [go_sem, ↓reduceIte, keep42, ib42, mk42, Tryz.f42, upd_upd]
  intro n2 a0 n3 b0
  have e1 : (n2 = n3) = False := eq_false fun e => b0.1 e.symm
  have e2 : (n3 = n2) = False := eq_false b0.1
  have w0 := New.nil h
  have hb0 := b0.2
  have hzfOuts : (x.fOuts).length + ((x.fOuts).map DExpr.s).sum = (szs DExpr.s x.fOuts) := rfl
  refine HFnF.nw2 (toO_ExprS x.fOuts (by omega) (fun y hy => toO_Expr y (by have hq : (DExpr.s y) ≤ ((x.fOuts).map DExpr.s).sum := sum_mem DExpr.s hy; omega))) a0 ⟨b0.1, hb0⟩ ?_
  rintro r l1 g1 ⟨y1, o1, rfl, rfl⟩ w1 a1 hb1
  simp (maxSteps := 1000000) -dsimp -implicitDefEqProofs only [go_sem, ↓reduceIte, keep42, ib42, mk42, Tryz.f42, upd_upd, upd_get, e1, e2, OV.map_val, OV.map_val_nil, OV.val_v, o1.flat, o1.one]
  have w1t := w0.append w1
  refine ⟨_, g1, _, Shift.of (Sub.refl _) ?_, ⟨[.v (.str x.fName), .v (.int .i64 x.fParams), y1], ?_, rfl, rfl⟩, ?_⟩
  · exact le_base1 a1 (le_base1 hb1 (le_base1 a1 (Heap.le_refl _)))
  · exact ⟨y1, rfl, o1⟩
  · simpa only [OV.row_cons, OV.row_nil, OV.v_rows, List.nil_append, List.append_nil, List.append_assoc] using w1t

set_option maxRecDepth 100000 in
theorem toO_FuncS (l : List DFunc) (h1 : l.length ≤ 1048576) (hc : ∀ x ∈ l, FnN Tryz.prog 42 [(.agg (DFunc.c x))] (QA x.o)) : FnN Tryz.prog 22 [(sls 3 DFunc.c l)] (QS (OS DFunc.o 3 l)) := by
  refine fnNF 23 keep22 ib22 mk22 mix Tryz.func22 rfl (by kernel_rfl) (by simp) fun h => ?_
  simp (maxSteps := 1000000) -dsimp -implicitDefEqProofs only [go_sem, ↓reduceIte, keep22, ib22, mk22, Tryz.f22]
  refine fun _ => ⟨by omega, by omega, by omega, by omega, fun n hn => ?_⟩
  refine loopF (keep := keep22) (ib := ib22) (mk := mk22) mix (by kernel_rfl) (fun x : Nat × List (List OV) × Heap => [(0, (sls 3 DFunc.c l)), (3, .os n 3 0 l.length), (4, I x.1)]) (fun x => upd x.2.2 n (.row 3 (OV.cells x.2.1 ++ (List.replicate (l.length - x.1) [.str [], .int .i64 0, .nilsl]).map (List.map .v)))) (fun x => x.1 ≤ l.length ∧ OR DFunc.o (l.take x.1) x.2.1 ∧ New h (OV.rowsRows x.2.1) x.2.2 ∧ x.2.2 n = none) (fun x => l.length - x.1) (0, [], h) (by
    exact ⟨by simp [SatL, tget], Heap.le_refl _, Nat.zero_le _, trivial, New.nil h, hn⟩) ?_
  rintro ⟨k, es, g⟩ ⟨hk, hor, hnew, hgn⟩
  have hlen : es.length = k := by have := hor.length; simp at this; omega
  rcases Nat.lt_or_ge k l.length with hlt | hge
  · have ea : l[k]? = some l[k] := List.getElem?_eq_getElem hlt
    have eg : ∀ m, m = l.length - k → (OV.cells es ++ (List.replicate m [.str [], .int .i64 0, .nilsl]).map (List.map Cell.v))[k]? = some ([.str [], .int .i64 0, .nilsl].map .v) := fun m hm => fill_get hlen (by omega)
    simp (maxSteps := 1000000) -dsimp -implicitDefEqProofs only [go_sem, ↓reduceIte, keep22, ib22, mk22, Tryz.f22, ea, DFunc.c_eq]
    refine fun _ => ⟨fun _ => ⟨hlt, ?_⟩, fun hn => absurd hlt hn⟩
    have hx := hc l[k] (List.getElem_mem hlt)
    simp only [DFunc.c_eq] at hx
    refine HFnF.nw1 hx hgn ?_
    rintro r l1 g1 ⟨e0, he0, rfl, rfl⟩ hn1 w1
    have he1 := he0
    obtain ⟨y_2, rfl, o_2⟩ := he1
    simp (maxSteps := 1000000) -dsimp -implicitDefEqProofs only [go_sem, ↓reduceIte, keep22, ib22, mk22, Tryz.f22, eg _ rfl, upd_upd, OV.map_val, OV.map_val_nil, OV.val_v, o_2.flat]
    refine ⟨hlt, (k + 1, es ++ [[.v (.str l[k].fName), .v (.int .i64 l[k].fParams), y_2]], g1), ?_⟩
    simp only
    have hf := fill_set (z := [.str [], .int .i64 0, .nilsl]) [.v (.str l[k].fName), .v (.int .i64 l[k].fParams), y_2] hlen (m := l.length - k) (by omega) [Cell.v (.str l[k].fName), Cell.v (.int .i64 l[k].fParams), Cell.v y_2.val] rfl
    rw [hf, show l.length - k - 1 = l.length - (k + 1) by omega]
    refine ⟨by rw [IntWalk.i64_in _ (by omega)]; rfl, Heap.le_refl _, ⟨by omega, ?_, ?_, w1⟩, by omega⟩
    · rw [List.take_succ_eq_append_getElem hlt]
      exact OR.append hor ⟨he0, trivial⟩
    · rw [rowsRows_snoc]
      exact hnew.append hn1
  · have hk' : k = l.length := by omega
    subst hk'
    simp (maxSteps := 1000000) -dsimp -implicitDefEqProofs only [go_sem, ↓reduceIte, keep22, ib22, mk22, Tryz.f22, Nat.lt_irrefl]
    refine fun _ => ⟨_, _, _, shift_self _ _, ⟨.sl n 3 es, OS.mk (by simpa using hor), by simp [OV.val, hlen, tget], rfl⟩, ?_⟩
    rw [OV.sl_rows]
    simpa using hnew.row hgn

set_option maxRecDepth 100000 in
theorem toO_Program (x : DProgram) (hs : x.s ≤ 1048576) : FnN Tryz.prog 7 [.agg x.c] (QA x.o) := by
  rw [DProgram.s_eq] at hs
  simp only [DProgram.c_eq]
  refine fnNF 9 keep7 ib7 mk7 mix Tryz.func7 rfl (by kernel_rfl) (by simp) fun h => ?_
  simp (maxSteps := 1000000) -dsimp -implicitDefEqProofs only [go_sem, ↓reduceIte, keep7, ib7, mk7, Tryz.f7, upd_upd]
  intro n2 a0 n3 b0
  have e1 : (n2 = n3) = False := eq_false fun e => b0.1 e.symm
  have e2 : (n3 = n2) = False := eq_false b0.1
  have w0 := New.nil h
  have hb0 := b0.2
  have hzfFuncs : (x.fFuncs).length + ((x.fFuncs).map DFunc.s).sum = (szs DFunc.s x.fFuncs) := rfl
  refine HFnF.nw2 (toO_FuncS x.fFuncs (by omega) (fun y hy => toO_Func y (by have hq : (DFunc.s y) ≤ ((x.fFuncs).map DFunc.s).sum := sum_mem DFunc.s hy; omega))) a0 ⟨b0.1, hb0⟩ ?_
  rintro r l1 g1 ⟨y1, o1, rfl, rfl⟩ w1 a1 hb1
  simp (maxSteps := 1000000) -dsimp -implicitDefEqProofs only [go_sem, ↓reduceIte, keep7, ib7, mk7, Tryz.f7, upd_upd, upd_get, e1, e2, OV.map_val, OV.map_val_nil, OV.val_v, o1.flat, o1.one]
  have w1t := w0.append w1
  refine ⟨_, g1, _, Shift.of (Sub.refl _) ?_, ⟨[y1], ?_, rfl, rfl⟩, ?_⟩
  · exact le_base1 a1 (le_base1 hb1 (le_base1 a1 (Heap.le_refl _)))
  · exact ⟨y1, rfl, o1⟩
  · simpa only [OV.row_cons, OV.row_nil, OV.v_rows, List.nil_append, List.append_nil, List.append_assoc] using w1t


open Go.Proofs
set_option linter.unusedVariables false
set_option linter.unusedSimpArgs false
def keep51 : List Nat := [0, 2, 3, 5, 7]
def ib51 : List Nat := [12]
def mk51 : Marks := fun _ => ([], .nil, [])
set_option maxRecDepth 100000 in
theorem markText (k : Int) (h1 : k ≤ 4611686018427387904) : Fn0 Tryz.prog 51 [I k] (.str (mtext k)) := by
  refine fn0F 20 keep51 ib51 mk51 mix Tryz.func51 rfl (by kernel_rfl) (by simp) fun h => ?_
  simp (maxSteps := 1000000) -dsimp -implicitDefEqProofs only [go_sem, ↓reduceIte, keep51, ib51, mk51, Tryz.f51]
  repeat' (with_reducible first | intro _ | refine And.intro ?_ ?_)
  · simp [mtext, *]
  have hd := decDig_len k.toNat
  refine loopF (keep := keep51) (ib := ib51) (mk := mk51) mix (by kernel_rfl) (fun x : Int × List UInt8 => [(0, I x.1), (3, .str x.2)]) (fun _ => h) (fun x => 0 ≤ x.1 ∧ x.1 ≤ k ∧ decDig k.toNat = decDig x.1.toNat ++ x.2) (fun x => x.1.toNat) (k, []) (by refine ⟨by simp [SatL, tget], Heap.le_refl _, by simp; omega⟩) ?_
  rintro ⟨j, out⟩ ⟨hj, hjk, he⟩
  simp only at hj hjk he
  have hol : out.length ≤ k.toNat := by rw [he, List.length_append] at hd; omega
  simp (maxSteps := 1000000) -dsimp -implicitDefEqProofs only [go_sem, ↓reduceIte, keep51, ib51, mk51, Tryz.f51]
  repeat' (with_reducible first | intro _ | refine And.intro ?_ ?_)
  all_goals try omega
  all_goals try (simp; done)
  · rw [Int.tdiv_eq_ediv_of_nonneg (by omega), Int.tmod_eq_emod_of_nonneg (by omega), IntWalk.i64_in (j / 10) (by omega), IntWalk.i64_in (48 + j % 10) (by omega), IntWalk.u8_in (48 + j % 10) (by omega)]
    refine ⟨(j / 10, _), ⟨rfl, rfl⟩, ⟨by omega, by omega, ?_⟩, by omega⟩
    rw [he, decDig_pos (by omega), List.append_assoc]
    have e1 : j.toNat / 10 = (j / 10).toNat := by omega
    have e2 : 48 + j.toNat % 10 = (48 + j % 10).toNat := by omega
    rw [e1, e2]; rfl
  all_goals
    have hj0 : j = 0 := by omega
    subst hj0
    rw [show (0 : Int).toNat = 0 from rfl, decDig_zero, List.nil_append] at he
    simp [mtext, *]
open Go.Proofs
set_option linter.unusedVariables false
set_option linter.unusedSimpArgs false


def keep30 : List Nat := [0, 1, 4, 5, 9]
def ib30 : List Nat := []
def mk30 : Marks := fun _ => ([], .nil, [])
set_option maxRecDepth 100000 in
theorem mark_ExprS_step (l : List DExpr) (hk : ∀ x ∈ l, MarkS Tryz.prog 30 (OS DExpr.o 5 x.fKids)) : MarkS Tryz.prog 30 (OS DExpr.o 5 l) := by
  intro y k h hy h0 h1 ho nd
  rcases hy with ⟨rfl, hl⟩ | ⟨n, es, rfl, hor⟩
  · rw [OV.mk_nil, OV.nil_rows, OV.ct_nil, OV.val_nil]
    refine fnHF 48 keep30 ib30 mk30 mix Tryz.func30 rfl (by kernel_rfl) (by simp) ?_
    simp (maxSteps := 1000000) -dsimp -implicitDefEqProofs only [go_sem, ↓reduceIte, keep30, ib30, mk30, Tryz.f30]
    refine loopF (keep := keep30) (ib := ib30) (mk := mk30) mix (by kernel_rfl) (fun _ : Unit => [(0, .sl 5 [] true), (1, I k), (5, I 0)]) (fun _ => h) (fun _ => True) (fun _ => 0) () (by simp [SatL, tget, Heap.le_refl]) ?_
    intro _ _
    simp (maxSteps := 1000000) -dsimp -implicitDefEqProofs only [go_sem, ↓reduceIte, keep30, ib30, mk30, Tryz.f30, zero_cast, Int.lt_irrefl]
    try intro _
    refine ⟨h, Heap.le_refl _, ?_⟩
    first | exact Chg.refl (by simp [Owns]) | exact ⟨by simp, Chg.refl (by simp [Owns])⟩
  · rw [OV.mk_sl, OV.sl_rows, OV.sl_rows, OV.ct_sl, OV.val_sl]
    rw [OV.ct_sl] at h1
    rw [OV.sl_rows] at ho nd
    generalize hL0 : (n, HObj.row 5 (OV.cells es)) :: OV.rowsRows es = L0 at nd ⊢
    refine fnHF 48 keep30 ib30 mk30 mix Tryz.func30 rfl (by kernel_rfl) (by simp) ?_
    simp (maxSteps := 1000000) -dsimp -implicitDefEqProofs only [go_sem, ↓reduceIte, keep30, ib30, mk30, Tryz.f30]
    refine loopF (keep := keep30) (ib := ib30) (mk := mk30) mix (by kernel_rfl) (fun x : Nat × Heap => [(0, .os n 5 0 es.length), (1, I (k + OV.ctRows (es.take x.1))), (5, I x.1)]) (fun x => x.2) (fun x => x.1 ≤ es.length ∧ Chg h x.2 L0 ((n, .row 5 (OV.cells (OV.mkRows k (es.take x.1) ++ es.drop x.1))) :: OV.rowsRows (OV.mkRows k (es.take x.1) ++ es.drop x.1))) (fun x => es.length - x.1) (0, h) (by
      refine ⟨by simp [SatL, tget, OV.ctRows], Heap.le_refl _, Nat.zero_le _, ?_⟩
      rw [← hL0]
      simpa [OV.mkRows] using Chg.refl ho) ?_
    rintro ⟨i, g⟩ ⟨hi, hc⟩
    simp only at hi hc ⊢
    rcases Nat.lt_or_ge i es.length with hlt | hge
    · have hll : i < l.length := by rw [hor.length]; exact hlt
      obtain ⟨A, e, B, rfl, hA, he⟩ := hor.split i hll
      have t1 : (A ++ e :: B).take i = A := by rw [← hA]; simp
      have t2 : (A ++ e :: B).drop i = e :: B := by rw [← hA]; simp
      have t0 : A ++ e :: B = (A ++ [e]) ++ B := by simp
      have t3 : (A ++ e :: B).take (i + 1) = A ++ [e] := by rw [t0]; exact List.take_left' (by simp [hA])
      have t4 : (A ++ e :: B).drop (i + 1) = B := by rw [t0]; exact List.drop_left' (by simp [hA])
      clear t0
      have hct := OV.ctRows_append A (e :: B)
      rw [OV.ctRows] at hct
      rw [t1, t2] at hc
      rw [t1]
      have hA2 : (OV.cells (OV.mkRows k A)).length = i := by rw [OV.cells, List.length_map, OV.mkRows_len, hA]
      have hs2 := OV.mkRows_snoc k A e
      have hs3 := OV.ctRows_snoc A e
      rw [DExpr.o_iff] at he
      obtain ⟨y_4, rfl, o_4⟩ := he
      simp only [OV.ctRow_cons, OV.ctRow_nil, OV.ct_v, Nat.add_zero, OV.mkRow_cons, OV.mkRow_nil, OV.mk_v, leaf_int, leaf_bool, leaf_str, one_cast] at hct hs2 hs3
      generalize hkk : k + (OV.ctRows A : Int) = kk at hs2 ⊢
      generalize OV.mkRows k A = A2 at hs2 hc hA2
      have gm : ∀ (c : List Cell) (Y : List (List Cell)), (OV.cells A2 ++ c :: Y)[i]? = some c := fun c Y => get_mid hA2
      have sm : ∀ (c c2 : List Cell) (Y : List (List Cell)), (OV.cells A2 ++ c :: Y).set i c2 = OV.cells A2 ++ c2 :: Y := fun c c2 Y => set_mid hA2
      have hc0 := hc
      simp only [List.append_assoc, List.cons_append, List.nil_append, List.append_nil, OV.row_cons, OV.row_nil, OV.v_rows, rowsRows_cons, rowsRows_app, cells_append, cells_cons, cellv_cons, cellv_nil, OV.val_v] at hc0
      have hgn := hc0.owns (n, _) List.mem_cons_self
      simp only at hgn
      have iw0_0 : IntKind.i64.wrap (kk + 1) = kk + 1 := IntWalk.i64_in _ (by omega)
      have iw0_1 : IntKind.i64.wrap (kk + 1 + 1) = kk + 1 + 1 := IntWalk.i64_in _ (by omega)
      have iw0_2 : IntKind.i64.wrap (kk + 1 + 1 + 1) = kk + 1 + 1 + 1 := IntWalk.i64_in _ (by omega)
      have iw0_3 : IntKind.i64.wrap (kk + 1 + 1 + 1 + 1) = kk + 1 + 1 + 1 + 1 := IntWalk.i64_in _ (by omega)
      simp (maxSteps := 1000000) -dsimp -implicitDefEqProofs only [go_sem, ↓reduceIte, keep30, ib30, mk30, Tryz.f30, hgn, gm, sm, upd_upd, upd_same, o_4.flat, o_4.one, iw0_0, iw0_1, iw0_2, iw0_3]
      repeat' (with_reducible first | intro _ | refine And.intro ?_ ?_)
      all_goals try omega
      have hq0 := hc0.trans (Chg.set (o' := .row 5 (OV.cells A2 ++ [.v (.int .i64 (kk)), .v (.int .i64 (kk + 1)), .v (.int .i64 (kk + 1 + 1)), .v (.int .i64 (kk + 1 + 1 + 1)), .v y_4.val] :: OV.cells B)) hc0.owns (hc0.nodup nd))
      have hg0 : upd g n (.row 5 (OV.cells A2 ++ [.v (.int .i64 (kk)), .v (.int .i64 (kk + 1)), .v (.int .i64 (kk + 1 + 1)), .v (.int .i64 (kk + 1 + 1 + 1)), .v y_4.val] :: OV.cells B)) n = some (.row 5 (OV.cells A2 ++ [.v (.int .i64 (kk)), .v (.int .i64 (kk + 1)), .v (.int .i64 (kk + 1 + 1)), .v (.int .i64 (kk + 1 + 1 + 1)), .v y_4.val] :: OV.cells B)) := upd_same _ _ _
      have hp0 : Chg h (upd g n (.row 5 (OV.cells A2 ++ [.v (.int .i64 (kk)), .v (.int .i64 (kk + 1)), .v (.int .i64 (kk + 1 + 1)), .v (.int .i64 (kk + 1 + 1 + 1)), .v y_4.val] :: OV.cells B))) L0 (((n, .row 5 (OV.cells A2 ++ [.v (.int .i64 (kk)), .v (.int .i64 (kk + 1)), .v (.int .i64 (kk + 1 + 1)), .v (.int .i64 (kk + 1 + 1 + 1)), .v y_4.val] :: OV.cells B)) :: (OV.rowsRows A2)) ++ (y_4.rows ++ (OV.rowsRows B))) := by simpa only [List.append_assoc, List.cons_append, List.nil_append, List.append_nil, OV.row_cons, OV.row_nil, OV.v_rows, rowsRows_cons, rowsRows_app, cells_append, cells_cons, cellv_cons, cellv_nil, OV.val_v] using hq0
      refine HFnF.mkH ((hk l[i] (List.getElem_mem hll)) y_4 (kk + 1 + 1 + 1 + 1) _ o_4 (by omega) (by omega) hp0.owns.right.left (nodup_mid (hp0.nodup nd))) ?_
      rintro r g0 ⟨rfl, hch0⟩
      have hr0 := hp0.trans (Chg.mid hp0.owns (hp0.nodup nd) hch0)
      have hg0r := hr0.owns (n, _) List.mem_cons_self
      simp only at hg0r
      have hkb0 : ∃ z : Int, z = kk + 1 + 1 + 1 + 1 + (y_4.ct : Int) := ⟨_, rfl⟩
      obtain ⟨kk0, hkb0⟩ := hkb0
      rw [← hkb0]
      simp (maxSteps := 1000000) -dsimp -implicitDefEqProofs only [go_sem, ↓reduceIte, keep30, ib30, mk30, Tryz.f30, hg0r, gm, sm, upd_upd, upd_same, o_4.flat, o_4.one, iw0_0, iw0_1, iw0_2, iw0_3]
      refine ⟨(i + 1, g0), ?_⟩
      simp only [t3, t4, hs2, hs3]
      refine ⟨?_, Heap.le_refl _, ⟨by omega, ?_⟩, by omega⟩
      · repeat' (with_reducible refine And.intro ?_ ?_)
        all_goals first | rfl | trivial | omega | (rw [IntWalk.i64_in _ (by omega)]; omega)
      · simpa only [List.append_assoc, List.cons_append, List.nil_append, List.append_nil, OV.row_cons, OV.row_nil, OV.v_rows, rowsRows_cons, rowsRows_app, cells_append, cells_cons, cellv_cons, cellv_nil, OV.val_v, o_4.mk_val, hkb0] using hr0
    · have hi2 : i = es.length := by omega
      subst hi2
      rw [List.take_length, List.drop_length, List.append_nil] at hc
      rw [List.take_length]
      simp (maxSteps := 1000000) -dsimp -implicitDefEqProofs only [go_sem, ↓reduceIte, keep30, ib30, mk30, Tryz.f30, Int.lt_irrefl, Nat.lt_irrefl]
      try intro _
      refine ⟨g, Heap.le_refl _, ?_⟩
      first | exact hc | exact ⟨rfl, hc⟩
theorem mark_ExprS (l : List DExpr) : MarkS Tryz.prog 30 (OS DExpr.o 5 l) :=
  mark_ExprS_step l fun x hx => mark_ExprS x.fKids
termination_by SizeOf.sizeOf l
decreasing_by
  have h1 := List.sizeOf_lt_of_mem hx
  cases x
  simp only [DExpr.mk.sizeOf_spec, DExpr.fKids] at h1 ⊢
  omega

def keep12 : List Nat := [0, 1, 2, 4]
def ib12 : List Nat := [2]
def mk12 : Marks := fun _ => ([], .nil, [])
set_option maxRecDepth 100000 in
theorem mark_Expr (x : DExpr) : MarkA Tryz.prog 12 x.o := by
  intro e k h he h0 h1 ho nd
  rw [DExpr.o_iff] at he
  obtain ⟨y_4, rfl, o_4⟩ := he
  simp only [OV.ctTop_cons, OV.ctTop_nil, OV.ctT_v, OV.mkTop_cons, OV.mkTop_nil, OV.mkT_v, Nat.add_zero, Nat.zero_add, zero_cast, Int.add_zero, Int.zero_add, o_4.ctT, o_4.mkT] at h1 ⊢
  have hc0 := Chg.refl ho
  simp only [List.append_assoc, List.cons_append, List.nil_append, List.append_nil, OV.row_cons, OV.row_nil, OV.v_rows, rowsRows_cons, rowsRows_app, cells_append, cells_cons, cellv_cons, cellv_nil, OV.val_v] at hc0 nd ⊢
  obtain ⟨L0, hL0⟩ : ∃ L : List (Nat × HObj), L = (y_4.rows) := ⟨_, rfl⟩
  replace hc0 : Chg h h L0 (y_4.rows) := by rw [hL0]; exact hc0
  rw [← hL0] at nd ⊢
  refine fnHF 10 keep12 ib12 mk12 mix Tryz.func12 rfl (by kernel_rfl) (by simp) ?_
  simp (maxSteps := 1000000) -dsimp -implicitDefEqProofs only [go_sem, ↓reduceIte, keep12, ib12, mk12, Tryz.f12, OV.map_val, OV.map_val_nil, OV.val_v, o_4.flat, o_4.one]
  have hp0 : Chg h h L0 ((([] : List (Nat × HObj))) ++ ((y_4.rows) ++ (([] : List (Nat × HObj))))) := by simpa only [List.append_assoc, List.cons_append, List.nil_append, List.append_nil, OV.row_cons, OV.row_nil, OV.v_rows, rowsRows_cons, rowsRows_app, cells_append, cells_cons, cellv_cons, cellv_nil, OV.val_v] using hc0
  refine HFnF.mkH (mark_ExprS x.fKids y_4 (k) _ o_4 (by omega) (by omega) hp0.owns.right.left (nodup_mid (hp0.nodup nd))) ?_
  rintro r g0 ⟨rfl, hch0⟩
  have hr0 := hp0.trans (Chg.mid hp0.owns (hp0.nodup nd) (by simpa only [List.append_assoc, List.cons_append, List.nil_append, List.append_nil, OV.row_cons, OV.row_nil, OV.v_rows, rowsRows_cons, rowsRows_app, cells_append, cells_cons, cellv_cons, cellv_nil, OV.val_v] using hch0))
  simp (maxSteps := 1000000) -dsimp -implicitDefEqProofs only [go_sem, ↓reduceIte, keep12, ib12, mk12, Tryz.f12, OV.map_val, OV.map_val_nil, OV.val_v, o_4.flat, o_4.one]
  refine ⟨g0, Heap.le_refl _, ?_⟩
  first
    | exact ⟨by congr 1; omega, by simpa only [List.append_assoc, List.cons_append, List.nil_append, List.append_nil, OV.row_cons, OV.row_nil, OV.v_rows, rowsRows_cons, rowsRows_app, cells_append, cells_cons, cellv_cons, cellv_nil, OV.val_v, Int.natCast_add, ← Int.add_assoc] using hr0⟩
    | exact ⟨by omega, by simpa only [List.append_assoc, List.cons_append, List.nil_append, List.append_nil, OV.row_cons, OV.row_nil, OV.v_rows, rowsRows_cons, rowsRows_app, cells_append, cells_cons, cellv_cons, cellv_nil, OV.val_v, Int.natCast_add, ← Int.add_assoc] using hr0⟩
    | simpa only [List.append_assoc, List.cons_append, List.nil_append, List.append_nil, OV.row_cons, OV.row_nil, OV.v_rows, rowsRows_cons, rowsRows_app, cells_append, cells_cons, cellv_cons, cellv_nil, OV.val_v, Int.natCast_add, ← Int.add_assoc] using hr0


def keep29 : List Nat := [0, 1, 4, 5, 9]
def ib29 : List Nat := []
def mk29 : Marks := fun _ => ([], .nil, [])
set_option maxRecDepth 100000 in
theorem mark_FuncS (l : List DFunc) : MarkS Tryz.prog 29 (OS DFunc.o 3 l) := by
  intro y k h hy h0 h1 ho nd
  rcases hy with ⟨rfl, hl⟩ | ⟨n, es, rfl, hor⟩
  · rw [OV.mk_nil, OV.nil_rows, OV.ct_nil, OV.val_nil]
    refine fnHF 35 keep29 ib29 mk29 mix Tryz.func29 rfl (by kernel_rfl) (by simp) ?_
    simp (maxSteps := 1000000) -dsimp -implicitDefEqProofs only [go_sem, ↓reduceIte, keep29, ib29, mk29, Tryz.f29]
    refine loopF (keep := keep29) (ib := ib29) (mk := mk29) mix (by kernel_rfl) (fun _ : Unit => [(0, .sl 3 [] true), (1, I k), (5, I 0)]) (fun _ => h) (fun _ => True) (fun _ => 0) () (by simp [SatL, tget, Heap.le_refl]) ?_
    intro _ _
    simp (maxSteps := 1000000) -dsimp -implicitDefEqProofs only [go_sem, ↓reduceIte, keep29, ib29, mk29, Tryz.f29, zero_cast, Int.lt_irrefl]
    try intro _
    refine ⟨h, Heap.le_refl _, ?_⟩
    first | exact Chg.refl (by simp [Owns]) | exact ⟨by simp, Chg.refl (by simp [Owns])⟩
  · rw [OV.mk_sl, OV.sl_rows, OV.sl_rows, OV.ct_sl, OV.val_sl]
    rw [OV.ct_sl] at h1
    rw [OV.sl_rows] at ho nd
    generalize hL0 : (n, HObj.row 3 (OV.cells es)) :: OV.rowsRows es = L0 at nd ⊢
    refine fnHF 35 keep29 ib29 mk29 mix Tryz.func29 rfl (by kernel_rfl) (by simp) ?_
    simp (maxSteps := 1000000) -dsimp -implicitDefEqProofs only [go_sem, ↓reduceIte, keep29, ib29, mk29, Tryz.f29]
    refine loopF (keep := keep29) (ib := ib29) (mk := mk29) mix (by kernel_rfl) (fun x : Nat × Heap => [(0, .os n 3 0 es.length), (1, I (k + OV.ctRows (es.take x.1))), (5, I x.1)]) (fun x => x.2) (fun x => x.1 ≤ es.length ∧ Chg h x.2 L0 ((n, .row 3 (OV.cells (OV.mkRows k (es.take x.1) ++ es.drop x.1))) :: OV.rowsRows (OV.mkRows k (es.take x.1) ++ es.drop x.1))) (fun x => es.length - x.1) (0, h) (by
      refine ⟨by simp [SatL, tget, OV.ctRows], Heap.le_refl _, Nat.zero_le _, ?_⟩
      rw [← hL0]
      simpa [OV.mkRows] using Chg.refl ho) ?_
    rintro ⟨i, g⟩ ⟨hi, hc⟩
    simp only at hi hc ⊢
    rcases Nat.lt_or_ge i es.length with hlt | hge
    · have hll : i < l.length := by rw [hor.length]; exact hlt
      obtain ⟨A, e, B, rfl, hA, he⟩ := hor.split i hll
      have t1 : (A ++ e :: B).take i = A := by rw [← hA]; simp
      have t2 : (A ++ e :: B).drop i = e :: B := by rw [← hA]; simp
      have t0 : A ++ e :: B = (A ++ [e]) ++ B := by simp
      have t3 : (A ++ e :: B).take (i + 1) = A ++ [e] := by rw [t0]; exact List.take_left' (by simp [hA])
      have t4 : (A ++ e :: B).drop (i + 1) = B := by rw [t0]; exact List.drop_left' (by simp [hA])
      clear t0
      have hct := OV.ctRows_append A (e :: B)
      rw [OV.ctRows] at hct
      rw [t1, t2] at hc
      rw [t1]
      have hA2 : (OV.cells (OV.mkRows k A)).length = i := by rw [OV.cells, List.length_map, OV.mkRows_len, hA]
      have hs2 := OV.mkRows_snoc k A e
      have hs3 := OV.ctRows_snoc A e
      obtain ⟨y_2, rfl, o_2⟩ := he
      simp only [OV.ctRow_cons, OV.ctRow_nil, OV.ct_v, Nat.add_zero, OV.mkRow_cons, OV.mkRow_nil, OV.mk_v, leaf_int, leaf_bool, leaf_str, one_cast] at hct hs2 hs3
      generalize hkk : k + (OV.ctRows A : Int) = kk at hs2 ⊢
      generalize OV.mkRows k A = A2 at hs2 hc hA2
      have gm : ∀ (c : List Cell) (Y : List (List Cell)), (OV.cells A2 ++ c :: Y)[i]? = some c := fun c Y => get_mid hA2
      have sm : ∀ (c c2 : List Cell) (Y : List (List Cell)), (OV.cells A2 ++ c :: Y).set i c2 = OV.cells A2 ++ c2 :: Y := fun c c2 Y => set_mid hA2
      have hc0 := hc
      simp only [List.append_assoc, List.cons_append, List.nil_append, List.append_nil, OV.row_cons, OV.row_nil, OV.v_rows, rowsRows_cons, rowsRows_app, cells_append, cells_cons, cellv_cons, cellv_nil, OV.val_v] at hc0
      have hgn := hc0.owns (n, _) List.mem_cons_self
      simp only at hgn
      have iw0_0 : IntKind.i64.wrap (kk + 1) = kk + 1 := IntWalk.i64_in _ (by omega)
      have iw0_1 : IntKind.i64.wrap (kk + 1 + 1) = kk + 1 + 1 := IntWalk.i64_in _ (by omega)
      simp (maxSteps := 1000000) -dsimp -implicitDefEqProofs only [go_sem, ↓reduceIte, keep29, ib29, mk29, Tryz.f29, hgn, gm, sm, upd_upd, upd_same, o_2.flat, o_2.one, iw0_0, iw0_1]
      repeat' (with_reducible first | intro _ | refine And.intro ?_ ?_)
      all_goals try omega
      refine HFnF.mk (markText (kk) (by omega)) ?_
      simp (maxSteps := 1000000) -dsimp -implicitDefEqProofs only [go_sem, ↓reduceIte, keep29, ib29, mk29, Tryz.f29, hgn, gm, sm, upd_upd, upd_same, o_2.flat, o_2.one, iw0_0, iw0_1]
      repeat' (with_reducible first | intro _ | refine And.intro ?_ ?_)
      all_goals try omega
      have hq0 := hc0.trans (Chg.set (o' := .row 3 (OV.cells A2 ++ [.v (.str (mtext (kk))), .v (.int .i64 (kk + 1)), .v y_2.val] :: OV.cells B)) hc0.owns (hc0.nodup nd))
      have hg0 : upd g n (.row 3 (OV.cells A2 ++ [.v (.str (mtext (kk))), .v (.int .i64 (kk + 1)), .v y_2.val] :: OV.cells B)) n = some (.row 3 (OV.cells A2 ++ [.v (.str (mtext (kk))), .v (.int .i64 (kk + 1)), .v y_2.val] :: OV.cells B)) := upd_same _ _ _
      have hp0 : Chg h (upd g n (.row 3 (OV.cells A2 ++ [.v (.str (mtext (kk))), .v (.int .i64 (kk + 1)), .v y_2.val] :: OV.cells B))) L0 (((n, .row 3 (OV.cells A2 ++ [.v (.str (mtext (kk))), .v (.int .i64 (kk + 1)), .v y_2.val] :: OV.cells B)) :: (OV.rowsRows A2)) ++ (y_2.rows ++ (OV.rowsRows B))) := by simpa only [List.append_assoc, List.cons_append, List.nil_append, List.append_nil, OV.row_cons, OV.row_nil, OV.v_rows, rowsRows_cons, rowsRows_app, cells_append, cells_cons, cellv_cons, cellv_nil, OV.val_v] using hq0
      refine HFnF.mkH ((mark_ExprS l[i].fOuts) y_2 (kk + 1 + 1) _ o_2 (by omega) (by omega) hp0.owns.right.left (nodup_mid (hp0.nodup nd))) ?_
      rintro r g0 ⟨rfl, hch0⟩
      have hr0 := hp0.trans (Chg.mid hp0.owns (hp0.nodup nd) hch0)
      have hg0r := hr0.owns (n, _) List.mem_cons_self
      simp only at hg0r
      have hkb0 : ∃ z : Int, z = kk + 1 + 1 + (y_2.ct : Int) := ⟨_, rfl⟩
      obtain ⟨kk0, hkb0⟩ := hkb0
      rw [← hkb0]
      simp (maxSteps := 1000000) -dsimp -implicitDefEqProofs only [go_sem, ↓reduceIte, keep29, ib29, mk29, Tryz.f29, hg0r, gm, sm, upd_upd, upd_same, o_2.flat, o_2.one, iw0_0, iw0_1]
      refine ⟨(i + 1, g0), ?_⟩
      simp only [t3, t4, hs2, hs3]
      refine ⟨?_, Heap.le_refl _, ⟨by omega, ?_⟩, by omega⟩
      · repeat' (with_reducible refine And.intro ?_ ?_)
        all_goals first | rfl | trivial | omega | (rw [IntWalk.i64_in _ (by omega)]; omega)
      · simpa only [List.append_assoc, List.cons_append, List.nil_append, List.append_nil, OV.row_cons, OV.row_nil, OV.v_rows, rowsRows_cons, rowsRows_app, cells_append, cells_cons, cellv_cons, cellv_nil, OV.val_v, o_2.mk_val, hkb0] using hr0
    · have hi2 : i = es.length := by omega
      subst hi2
      rw [List.take_length, List.drop_length, List.append_nil] at hc
      rw [List.take_length]
      simp (maxSteps := 1000000) -dsimp -implicitDefEqProofs only [go_sem, ↓reduceIte, keep29, ib29, mk29, Tryz.f29, Int.lt_irrefl, Nat.lt_irrefl]
      try intro _
      refine ⟨g, Heap.le_refl _, ?_⟩
      first | exact hc | exact ⟨rfl, hc⟩

def keep11 : List Nat := [0, 1, 2, 4]
def ib11 : List Nat := [2]
def mk11 : Marks := fun _ => ([], .nil, [])
set_option maxRecDepth 100000 in
theorem mark_Program (x : DProgram) : MarkA Tryz.prog 11 x.o := by
  intro e k h he h0 h1 ho nd
  obtain ⟨y_0, rfl, o_0⟩ := he
  simp only [OV.ctTop_cons, OV.ctTop_nil, OV.ctT_v, OV.mkTop_cons, OV.mkTop_nil, OV.mkT_v, Nat.add_zero, Nat.zero_add, zero_cast, Int.add_zero, Int.zero_add, o_0.ctT, o_0.mkT] at h1 ⊢
  have hc0 := Chg.refl ho
  simp only [List.append_assoc, List.cons_append, List.nil_append, List.append_nil, OV.row_cons, OV.row_nil, OV.v_rows, rowsRows_cons, rowsRows_app, cells_append, cells_cons, cellv_cons, cellv_nil, OV.val_v] at hc0 nd ⊢
  obtain ⟨L0, hL0⟩ : ∃ L : List (Nat × HObj), L = (y_0.rows) := ⟨_, rfl⟩
  replace hc0 : Chg h h L0 (y_0.rows) := by rw [hL0]; exact hc0
  rw [← hL0] at nd ⊢
  refine fnHF 10 keep11 ib11 mk11 mix Tryz.func11 rfl (by kernel_rfl) (by simp) ?_
  simp (maxSteps := 1000000) -dsimp -implicitDefEqProofs only [go_sem, ↓reduceIte, keep11, ib11, mk11, Tryz.f11, OV.map_val, OV.map_val_nil, OV.val_v, o_0.flat, o_0.one]
  have hp0 : Chg h h L0 ((([] : List (Nat × HObj))) ++ ((y_0.rows) ++ (([] : List (Nat × HObj))))) := by simpa only [List.append_assoc, List.cons_append, List.nil_append, List.append_nil, OV.row_cons, OV.row_nil, OV.v_rows, rowsRows_cons, rowsRows_app, cells_append, cells_cons, cellv_cons, cellv_nil, OV.val_v] using hc0
  refine HFnF.mkH (mark_FuncS x.fFuncs y_0 (k) _ o_0 (by omega) (by omega) hp0.owns.right.left (nodup_mid (hp0.nodup nd))) ?_
  rintro r g0 ⟨rfl, hch0⟩
  have hr0 := hp0.trans (Chg.mid hp0.owns (hp0.nodup nd) (by simpa only [List.append_assoc, List.cons_append, List.nil_append, List.append_nil, OV.row_cons, OV.row_nil, OV.v_rows, rowsRows_cons, rowsRows_app, cells_append, cells_cons, cellv_cons, cellv_nil, OV.val_v] using hch0))
  simp (maxSteps := 1000000) -dsimp -implicitDefEqProofs only [go_sem, ↓reduceIte, keep11, ib11, mk11, Tryz.f11, OV.map_val, OV.map_val_nil, OV.val_v, o_0.flat, o_0.one]
  refine ⟨g0, Heap.le_refl _, ?_⟩
  first
    | exact ⟨by congr 1; omega, by simpa only [List.append_assoc, List.cons_append, List.nil_append, List.append_nil, OV.row_cons, OV.row_nil, OV.v_rows, rowsRows_cons, rowsRows_app, cells_append, cells_cons, cellv_cons, cellv_nil, OV.val_v, Int.natCast_add, ← Int.add_assoc] using hr0⟩
    | exact ⟨by omega, by simpa only [List.append_assoc, List.cons_append, List.nil_append, List.append_nil, OV.row_cons, OV.row_nil, OV.v_rows, rowsRows_cons, rowsRows_app, cells_append, cells_cons, cellv_cons, cellv_nil, OV.val_v, Int.natCast_add, ← Int.add_assoc] using hr0⟩
    | simpa only [List.append_assoc, List.cons_append, List.nil_append, List.append_nil, OV.row_cons, OV.row_nil, OV.v_rows, rowsRows_cons, rowsRows_app, cells_append, cells_cons, cellv_cons, cellv_nil, OV.val_v, Int.natCast_add, ← Int.add_assoc] using hr0

open Go.Proofs
set_option linter.unusedVariables false
set_option linter.unusedSimpArgs false


def keep31 : List Nat := [0, 1, 4, 5, 9, 18, 27, 36, 45, 56]
def ib31 : List Nat := []
def mk31 : Marks := fun _ => ([], .nil, [])
set_option maxRecDepth 100000 in
theorem held_ExprS_step (l : List DExpr) (hk : ∀ x ∈ l, HeldS Tryz.prog 31 (OS DExpr.o 5 x.fKids)) : HeldS Tryz.prog 31 (OS DExpr.o 5 l) := by
  intro y k hy h0 h1
  rcases hy with ⟨rfl, hl⟩ | ⟨n, es, rfl, hor⟩
  · rw [OV.mk_nil, dat_nil, OV.ct_nil]
    refine fn0F 58 keep31 ib31 mk31 mix Tryz.func31 rfl (by kernel_rfl) (by simp) fun h => ?_
    simp (maxSteps := 1000000) -dsimp -implicitDefEqProofs only [go_sem, ↓reduceIte, keep31, ib31, mk31, Tryz.f31]
    refine loopF (keep := keep31) (ib := ib31) (mk := mk31) mix (by kernel_rfl) (fun _ : Unit => [(0, .sl 5 [] false), (1, I k), (5, I 0)]) (fun _ => h) (fun _ => True) (fun _ => 0) () (by simp [SatL, tget, Heap.le_refl]) ?_
    intro _ _
    simp (maxSteps := 1000000) -dsimp -implicitDefEqProofs only [go_sem, ↓reduceIte, keep31, ib31, mk31, Tryz.f31, zero_cast, Int.lt_irrefl]
    first | done | (intro _; simp) | simp
  · rw [OV.mk_sl, dat_sl, OV.ct_sl]
    rw [OV.ct_sl] at h1
    have hlen : (OV.datRows (OV.mkRows k es)).length = es.length := by rw [datRows_len, OV.mkRows_len]
    refine fn0F 58 keep31 ib31 mk31 mix Tryz.func31 rfl (by kernel_rfl) (by simp) fun h => ?_
    simp (maxSteps := 1000000) -dsimp -implicitDefEqProofs only [go_sem, ↓reduceIte, keep31, ib31, mk31, Tryz.f31, hlen]
    refine loopF (keep := keep31) (ib := ib31) (mk := mk31) mix (by kernel_rfl) (fun i : Nat => [(0, .sl 5 (OV.datRows (OV.mkRows k es)) false), (1, I (k + OV.ctRows (es.take i))), (5, I i)]) (fun _ => h) (fun i => i ≤ es.length) (fun i => es.length - i) 0 (by simp [SatL, tget, OV.ctRows, Heap.le_refl]) ?_
    intro i hi
    rcases Nat.lt_or_ge i es.length with hlt | hge
    · have hll : i < l.length := by rw [hor.length]; exact hlt
      obtain ⟨A, e, B, rfl, hA, he⟩ := hor.split i hll
      have t1 : (A ++ e :: B).take i = A := by rw [← hA]; simp
      have t0 : A ++ e :: B = (A ++ [e]) ++ B := by simp
      have t3 : (A ++ e :: B).take (i + 1) = A ++ [e] := by rw [t0]; exact List.take_left' (by simp [hA])
      clear t0
      have hct := OV.ctRows_append A (e :: B)
      rw [OV.ctRows] at hct
      rw [t1]
      have hs3 := OV.ctRows_snoc A e
      have hD : OV.datRows (OV.mkRows k (A ++ e :: B)) = OV.datRows (OV.mkRows k A) ++ (OV.mkRow (k + (OV.ctRows A : Int)) e).map OV.dat :: OV.datRows (OV.mkRows (k + (OV.ctRows A : Int) + (OV.ctRow e : Int)) B) := by
        rw [OV.mkRows_append, datRows_append, OV.mkRows, datRows_cons]
      have hA2 : (OV.datRows (OV.mkRows k A)).length = i := by rw [datRows_len, OV.mkRows_len, hA]
      have hi2 : (i : Int) < (A ++ e :: B).length := by omega
      rw [DExpr.o_iff] at he
      obtain ⟨y_4, rfl, o_4⟩ := he
      simp only [OV.ctRow_cons, OV.ctRow_nil, OV.ct_v, Nat.add_zero, one_cast] at hct hs3
      generalize hkk : k + (OV.ctRows A : Int) = kk at hD ⊢
      have gm : (OV.datRows (OV.mkRows k (A ++ [.v (.int .i64 l[i].fKind), .v (.int .i64 l[i].fNum), .v (.int .i64 l[i].fPick), .v (.int .i64 l[i].fCount), y_4] :: B)))[i]? = some ((OV.mkRow kk [.v (.int .i64 l[i].fKind), .v (.int .i64 l[i].fNum), .v (.int .i64 l[i].fPick), .v (.int .i64 l[i].fCount), y_4]).map OV.dat) := by rw [hD]; exact get_mid hA2
      simp only [OV.mkRow_cons, OV.mkRow_nil, OV.mk_v, leaf_int, leaf_bool, leaf_str, OV.ct_v, one_cast, map_dat_cons, map_dat_nil, dat_v] at gm
      clear hD
      generalize OV.datRows (OV.mkRows k (A ++ [.v (.int .i64 l[i].fKind), .v (.int .i64 l[i].fNum), .v (.int .i64 l[i].fPick), .v (.int .i64 l[i].fCount), y_4] :: B)) = DD at gm hlen ⊢
      have iw0_0 : IntKind.i64.wrap (kk + 1) = kk + 1 := IntWalk.i64_in _ (by omega)
      have iw0_1 : IntKind.i64.wrap (kk + 1 + 1) = kk + 1 + 1 := IntWalk.i64_in _ (by omega)
      have iw0_2 : IntKind.i64.wrap (kk + 1 + 1 + 1) = kk + 1 + 1 + 1 := IntWalk.i64_in _ (by omega)
      have iw0_3 : IntKind.i64.wrap (kk + 1 + 1 + 1 + 1) = kk + 1 + 1 + 1 + 1 := IntWalk.i64_in _ (by omega)
      simp (maxSteps := 1000000) -dsimp -implicitDefEqProofs only [go_sem, ↓reduceIte, keep31, ib31, mk31, Tryz.f31, hlen, hi2, gm, eq_self, decide_true, Bool.not_true, bne_self_eq_false, iw0_0, iw0_1, iw0_2, iw0_3]
      repeat' (with_reducible first | intro _ | refine And.intro ?_ ?_)
      all_goals try omega
      all_goals try (exact absurd rfl (by assumption))
      refine HFnF.mk ((hk l[i] (List.getElem_mem hll)) y_4 (kk + 1 + 1 + 1 + 1) o_4 (by omega) (by omega)) ?_
      have hkb0 : ∃ z : Int, z = kk + 1 + 1 + 1 + 1 + (y_4.ct : Int) := ⟨_, rfl⟩
      obtain ⟨kk0, hkb0⟩ := hkb0
      rw [← hkb0]
      simp (maxSteps := 1000000) -dsimp -implicitDefEqProofs only [go_sem, ↓reduceIte, keep31, ib31, mk31, Tryz.f31, hlen, hi2, gm, eq_self, decide_true, Bool.not_true, bne_self_eq_false, iw0_0, iw0_1, iw0_2, iw0_3]
      repeat' (with_reducible first | intro _ | refine And.intro ?_ ?_)
      all_goals try omega
      all_goals try (exact absurd rfl (by assumption))
      refine ⟨i + 1, ?_⟩
      simp only [t3, hs3]
      repeat' (with_reducible first | intro _ | refine And.intro ?_ ?_)
      all_goals first | rfl | trivial | omega | exact Heap.le_refl _ | (rw [IntWalk.i64_in _ (by omega)]; omega)
    · have hi2 : i = es.length := by omega
      subst hi2
      rw [List.take_length]
      simp (maxSteps := 1000000) -dsimp -implicitDefEqProofs only [go_sem, ↓reduceIte, keep31, ib31, mk31, Tryz.f31, hlen, Int.lt_irrefl, Nat.lt_irrefl]
      first | done | (intro _; rfl) | rfl
theorem held_ExprS (l : List DExpr) : HeldS Tryz.prog 31 (OS DExpr.o 5 l) :=
  held_ExprS_step l fun x hx => held_ExprS x.fKids
termination_by SizeOf.sizeOf l
decreasing_by
  have h1 := List.sizeOf_lt_of_mem hx
  cases x
  simp only [DExpr.mk.sizeOf_spec, DExpr.fKids] at h1 ⊢
  omega

def keep13 : List Nat := [0, 1, 2, 4, 10]
def ib13 : List Nat := [2]
def mk13 : Marks := fun _ => ([], .nil, [])
set_option maxRecDepth 100000 in
theorem held_Expr (x : DExpr) : HeldA Tryz.prog 13 x.o := by
  intro e k he h0 h1
  rw [DExpr.o_iff] at he
  obtain ⟨y_4, rfl, o_4⟩ := he
  simp only [OV.ctTop_cons, OV.ctTop_nil, OV.ctT_v, OV.mkTop_cons, OV.mkTop_nil, OV.mkT_v, Nat.add_zero, Nat.zero_add, zero_cast, Int.add_zero, Int.zero_add, o_4.ctT, o_4.mkT, map_dat_cons, map_dat_nil, dat_v] at h1 ⊢
  refine fn0F 12 keep13 ib13 mk13 mix Tryz.func13 rfl (by kernel_rfl) (by simp) fun h => ?_
  simp (maxSteps := 1000000) -dsimp -implicitDefEqProofs only [go_sem, ↓reduceIte, keep13, ib13, mk13, Tryz.f13, o_4.datflat, o_4.datone]
  repeat' (with_reducible first | intro _ | refine And.intro ?_ ?_)
  all_goals try omega
  refine HFnF.mk (held_ExprS x.fKids y_4 (k) o_4 (by omega) (by omega)) ?_
  simp (maxSteps := 1000000) -dsimp -implicitDefEqProofs only [go_sem, ↓reduceIte, keep13, ib13, mk13, Tryz.f13, o_4.datflat, o_4.datone]
  repeat' (with_reducible first | intro _ | refine And.intro ?_ ?_)
  all_goals try omega
  all_goals first | done | rfl | trivial | (congr 1; omega) | omega | (simp only [go_sem]; omega)


open Go.Proofs
set_option linter.unusedVariables false
set_option linter.unusedSimpArgs false


def keep60 : List Nat := [0, 1, 4, 5, 11, 15, 25]
def ib60 : List Nat := []
def mk60 : Marks := fun _ => ([], .nil, [])
set_option maxRecDepth 100000 in
theorem sz_ExprS (l : List DExpr) (left : Int) (h0 : 0 ≤ left) (h1 : left ≤ 1048576) (hc : ∀ x ∈ l, ∀ left : Int, 0 ≤ left → left ≤ 1048576 → Fn0 Tryz.prog 89 [(.agg (DExpr.c x)), I left] (I (lft left ((DExpr.s x))))) : Fn0 Tryz.prog 60 [sls 5 DExpr.c l, I left] (I (lft left (szs DExpr.s l))) := by
  refine fn0F 27 keep60 ib60 mk60 mix Tryz.func60 rfl (by kernel_rfl) (by simp) fun h => ?_
  simp -dsimp -implicitDefEqProofs only [go_sem, Tryz.f60, ↓reduceIte, keep60, ib60, mk60]
  intro hl
  rw [IntWalk.i64_in _ (by omega)]
  refine ⟨fun hn => ?_, fun hn => ?_⟩
  · exact (lft_neg (by rw [szs_eq]; omega)).symm
  · refine loopF (keep := keep60) (ib := ib60) (mk := mk60) mix (by kernel_rfl) (fun k : Nat => [(0, sls 5 DExpr.c l), (1, I (left - l.length - (((l.take k).map DExpr.s).sum : Int))), (5, I k)]) (fun _ => h) (fun k => k ≤ l.length ∧ 0 ≤ left - l.length - (((l.take k).map DExpr.s).sum : Int)) (fun k => l.length - k) 0 (by simp [SatL, tget, Heap.le_refl]; omega) ?_
    intro k ⟨hk, hb⟩
    rcases Nat.lt_or_ge k l.length with hlt | hge
    · have ea : l[k]? = some l[k] := List.getElem?_eq_getElem hlt
      simp -dsimp -implicitDefEqProofs only [go_sem, ↓reduceIte, keep60, ib60, mk60, Tryz.f60, ea, DExpr.c_eq]
      refine fun _ => ⟨fun _ => ⟨hlt, ?_⟩, fun hn => absurd hlt hn⟩
      have hx := hc l[k] (List.getElem_mem hlt) (left - l.length - (((l.take k).map DExpr.s).sum : Int)) (by omega) (by omega)
      simp only [DExpr.c_eq] at hx
      refine HFnF.mk hx ?_
      have hs := sum_take_succ DExpr.s l k hlt
      have hs' := sum_take_le DExpr.s l (k + 1)
      try dsimp only at hs
      rcases lft_cases (left - l.length - (((l.take k).map DExpr.s).sum : Int)) ((DExpr.s l[k])) with ⟨e, hl1⟩ | ⟨e, hl1⟩
      · simp -dsimp -implicitDefEqProofs only [go_sem, ↓reduceIte, keep60, ib60, mk60, Tryz.f60, e]
        exact (lft_neg (by rw [szs_eq]; omega)).symm
      · have hn1 : (left - l.length - (((l.take k).map DExpr.s).sum : Int) - ((DExpr.s l[k]) : Int) < 0) = False := eq_false (by omega)
        simp -dsimp -implicitDefEqProofs only [go_sem, ↓reduceIte, keep60, ib60, mk60, Tryz.f60, e, hn1]
        refine ⟨k + 1, ⟨?_, ?_⟩, ⟨by omega, by rw [hs]; omega⟩, by omega⟩
        · rw [hs]; omega
        · rw [IntWalk.i64_in _ (by omega)]; rfl
    · have hk' : k = l.length := by omega
      subst hk'
      simp -dsimp -implicitDefEqProofs only [go_sem, ↓reduceIte, keep60, ib60, mk60, Tryz.f60, Nat.lt_irrefl]
      refine fun _ => ?_
      rw [List.take_length] at hb ⊢
      rw [lft_pos (by rw [szs_eq]; omega), szs_eq]
      omega

def keep89 : List Nat := [0, 1, 2, 4, 10]
def ib89 : List Nat := [2]
def mk89 : Marks := fun _ => ([], .nil, [])
set_option maxRecDepth 100000 in
theorem sz_Expr_step (x : DExpr) (left : Int) (h0 : 0 ≤ left) (h1 : left ≤ 1048576) (hk : ∀ left : Int, 0 ≤ left → left ≤ 1048576 → Fn0 Tryz.prog 60 [(sls 5 DExpr.c x.fKids), I left] (I (lft left (szs DExpr.s x.fKids)))) : Fn0 Tryz.prog 89 [.agg x.c, I left] (I (lft left x.s)) := by
  rw [DExpr.s_eq]
  simp only [DExpr.c_eq]
  refine fn0F 12 keep89 ib89 mk89 mix Tryz.func89 rfl (by kernel_rfl) (by simp) fun h => ?_
  simp -dsimp -implicitDefEqProofs only [go_sem, Tryz.f89, ↓reduceIte, keep89, ib89, mk89]
  refine HFnF.mk (hk left (by omega) (by omega)) ?_
  rcases lft_cases left (szs DExpr.s x.fKids) with ⟨e, hl1⟩ | ⟨e, hl1⟩
  · simp -dsimp -implicitDefEqProofs only [go_sem, ↓reduceIte, keep89, ib89, mk89, Tryz.f89, e]
  · have hn1 : (left - ((szs DExpr.s x.fKids) : Int) < 0) = False := eq_false (by omega)
    simp -dsimp -implicitDefEqProofs only [go_sem, ↓reduceIte, keep89, ib89, mk89, Tryz.f89, e, hn1]
  try (rw [lft_pos (by omega)]; omega)
theorem sz_Expr (x : DExpr) (left : Int) (h0 : 0 ≤ left) (h1 : left ≤ 1048576) : Fn0 Tryz.prog 89 [.agg x.c, I left] (I (lft left x.s)) :=
  sz_Expr_step x left h0 h1 fun left h0 h1 => sz_ExprS x.fKids left h0 h1 fun y hy left h0 h1 => sz_Expr y left h0 h1
termination_by SizeOf.sizeOf x
decreasing_by exact DExpr.kid_lt hy

def keep37 : List Nat := [0, 1, 2, 4, 11, 17]
def ib37 : List Nat := [2]
def mk37 : Marks := fun _ => ([], .nil, [])
set_option maxRecDepth 100000 in
theorem sz_Func (x : DFunc) (left : Int) (h0 : 0 ≤ left) (h1 : left ≤ 1048576) : Fn0 Tryz.prog 37 [.agg x.c, I left] (I (lft left x.s)) := by
  rw [DFunc.s_eq]
  simp only [DFunc.c_eq]
  refine fn0F 19 keep37 ib37 mk37 mix Tryz.func37 rfl (by kernel_rfl) (by simp) fun h => ?_
  simp -dsimp -implicitDefEqProofs only [go_sem, Tryz.f37, ↓reduceIte, keep37, ib37, mk37]
  refine fun hl0 => ?_
  rw [IntWalk.i64_in _ (by omega)]
  generalize hL0 : left - ((x.fName.length : Nat) : Int) = L0
  refine ⟨fun hn => (lft_neg (by omega)).symm, fun hn0 => ?_⟩
  refine HFnF.mk (sz_ExprS x.fOuts (L0) (by omega) (by omega) (fun x _ left h0 h1 => sz_Expr x left h0 h1)) ?_
  generalize hL1 : lft (L0) (szs DExpr.s x.fOuts) = L1
  simp -dsimp -implicitDefEqProofs only [go_sem, ↓reduceIte, keep37, ib37, mk37, Tryz.f37]
  have hs1 := lft_step hL1
  refine ⟨fun hn => (lft_neg (by have := hs1.1 hn; omega)).symm, fun hn1 => ?_⟩
  have hp1 := hs1.2 hn1
  clear hs1 hL1
  try (rw [lft_pos (by omega)]; omega)

def keep17 : List Nat := [0, 1, 4, 5, 11, 15, 25]
def ib17 : List Nat := []
def mk17 : Marks := fun _ => ([], .nil, [])
set_option maxRecDepth 100000 in
theorem sz_FuncS (l : List DFunc) (left : Int) (h0 : 0 ≤ left) (h1 : left ≤ 1048576) (hc : ∀ x ∈ l, ∀ left : Int, 0 ≤ left → left ≤ 1048576 → Fn0 Tryz.prog 37 [(.agg (DFunc.c x)), I left] (I (lft left ((DFunc.s x))))) : Fn0 Tryz.prog 17 [sls 3 DFunc.c l, I left] (I (lft left (szs DFunc.s l))) := by
  refine fn0F 27 keep17 ib17 mk17 mix Tryz.func17 rfl (by kernel_rfl) (by simp) fun h => ?_
  simp -dsimp -implicitDefEqProofs only [go_sem, Tryz.f17, ↓reduceIte, keep17, ib17, mk17]
  intro hl
  rw [IntWalk.i64_in _ (by omega)]
  refine ⟨fun hn => ?_, fun hn => ?_⟩
  · exact (lft_neg (by rw [szs_eq]; omega)).symm
  · refine loopF (keep := keep17) (ib := ib17) (mk := mk17) mix (by kernel_rfl) (fun k : Nat => [(0, sls 3 DFunc.c l), (1, I (left - l.length - (((l.take k).map DFunc.s).sum : Int))), (5, I k)]) (fun _ => h) (fun k => k ≤ l.length ∧ 0 ≤ left - l.length - (((l.take k).map DFunc.s).sum : Int)) (fun k => l.length - k) 0 (by simp [SatL, tget, Heap.le_refl]; omega) ?_
    intro k ⟨hk, hb⟩
    rcases Nat.lt_or_ge k l.length with hlt | hge
    · have ea : l[k]? = some l[k] := List.getElem?_eq_getElem hlt
      simp -dsimp -implicitDefEqProofs only [go_sem, ↓reduceIte, keep17, ib17, mk17, Tryz.f17, ea, DFunc.c_eq]
      refine fun _ => ⟨fun _ => ⟨hlt, ?_⟩, fun hn => absurd hlt hn⟩
      have hx := hc l[k] (List.getElem_mem hlt) (left - l.length - (((l.take k).map DFunc.s).sum : Int)) (by omega) (by omega)
      simp only [DFunc.c_eq] at hx
      refine HFnF.mk hx ?_
      have hs := sum_take_succ DFunc.s l k hlt
      have hs' := sum_take_le DFunc.s l (k + 1)
      try dsimp only at hs
      rcases lft_cases (left - l.length - (((l.take k).map DFunc.s).sum : Int)) ((DFunc.s l[k])) with ⟨e, hl1⟩ | ⟨e, hl1⟩
      · simp -dsimp -implicitDefEqProofs only [go_sem, ↓reduceIte, keep17, ib17, mk17, Tryz.f17, e]
        exact (lft_neg (by rw [szs_eq]; omega)).symm
      · have hn1 : (left - l.length - (((l.take k).map DFunc.s).sum : Int) - ((DFunc.s l[k]) : Int) < 0) = False := eq_false (by omega)
        simp -dsimp -implicitDefEqProofs only [go_sem, ↓reduceIte, keep17, ib17, mk17, Tryz.f17, e, hn1]
        refine ⟨k + 1, ⟨?_, ?_⟩, ⟨by omega, by rw [hs]; omega⟩, by omega⟩
        · rw [hs]; omega
        · rw [IntWalk.i64_in _ (by omega)]; rfl
    · have hk' : k = l.length := by omega
      subst hk'
      simp -dsimp -implicitDefEqProofs only [go_sem, ↓reduceIte, keep17, ib17, mk17, Tryz.f17, Nat.lt_irrefl]
      refine fun _ => ?_
      rw [List.take_length] at hb ⊢
      rw [lft_pos (by rw [szs_eq]; omega), szs_eq]
      omega

def keep5 : List Nat := [0, 1, 2, 4, 10]
def ib5 : List Nat := [2]
def mk5 : Marks := fun _ => ([], .nil, [])
set_option maxRecDepth 100000 in
theorem sz_Program (x : DProgram) (left : Int) (h0 : 0 ≤ left) (h1 : left ≤ 1048576) : Fn0 Tryz.prog 5 [.agg x.c, I left] (I (lft left x.s)) := by
  rw [DProgram.s_eq]
  simp only [DProgram.c_eq]
  refine fn0F 12 keep5 ib5 mk5 mix Tryz.func5 rfl (by kernel_rfl) (by simp) fun h => ?_
  simp -dsimp -implicitDefEqProofs only [go_sem, Tryz.f5, ↓reduceIte, keep5, ib5, mk5]
  refine HFnF.mk (sz_FuncS x.fFuncs left (by omega) (by omega) (fun x _ left h0 h1 => sz_Func x left h0 h1)) ?_
  rcases lft_cases left (szs DFunc.s x.fFuncs) with ⟨e, hl1⟩ | ⟨e, hl1⟩
  · simp -dsimp -implicitDefEqProofs only [go_sem, ↓reduceIte, keep5, ib5, mk5, Tryz.f5, e]
  · have hn1 : (left - ((szs DFunc.s x.fFuncs) : Int) < 0) = False := eq_false (by omega)
    simp -dsimp -implicitDefEqProofs only [go_sem, ↓reduceIte, keep5, ib5, mk5, Tryz.f5, e, hn1]
  try (rw [lft_pos (by omega)]; omega)

open Go.Proofs
set_option linter.unusedVariables false
set_option linter.unusedSimpArgs false


def keep27 : List Nat := [0, 1, 4, 5, 10, 14, 26]
def ib27 : List Nat := []
def mk27 : Marks := fun id => match id with | 6 => ([], (.op 0 (.op 1 (.op 2 (.op 3 (.op 4 (.op 5 (.op 6 (.op 7 (.op 8 (.op 9 .nil)))))))))), []) | _ => ([], .nil, [])
set_option maxRecDepth 100000 in
theorem eq_ExprS (a b : List DExpr) (hc : ∀ x ∈ a, ∀ y, Fn0 Tryz.prog 9 [(.agg (DExpr.c x)), (.agg (DExpr.c y))] (.bool (decide (x = y)))) : Fn0 Tryz.prog 27 [(sls 5 DExpr.c a), (sls 5 DExpr.c b)] (.bool (decide (a = b))) := by
  refine fn0F 27 keep27 ib27 mk27 mix Tryz.func27 rfl (by kernel_rfl) (by simp) fun h => ?_
  simp -dsimp -implicitDefEqProofs only [go_sem, Tryz.f27, ↓reduceIte, keep27, ib27, mk27]
  refine fun _ _ => ⟨fun hne => ?_, fun heq => ?_⟩
  · exact (decide_eq_false fun e => hne (by rw [e])).symm
  · refine loopF (keep := keep27) (ib := ib27) (mk := mk27) mix (by kernel_rfl) (fun k : Nat => [(0, (sls 5 DExpr.c a)), (1, (sls 5 DExpr.c b)), (5, I k)]) (fun _ => h) (fun k => k ≤ a.length ∧ a.take k = b.take k) (fun k => a.length - k) 0 (by simp [SatL, tget, Heap.le_refl]) ?_
    intro k ⟨hk, hp⟩
    rcases Nat.lt_or_ge k a.length with hlt | hge
    · have hlb : k < b.length := by omega
      have ea : a[k]? = some a[k] := List.getElem?_eq_getElem hlt
      have eb : b[k]? = some b[k] := List.getElem?_eq_getElem hlb
      simp -dsimp -implicitDefEqProofs only [go_sem, ↓reduceIte, keep27, ib27, mk27, Tryz.f27, ea, eb, DExpr.c_eq]
      refine fun _ => ⟨fun _ => ⟨hlt, hlb, ?_⟩, fun hn => absurd hlt hn⟩
      have hx := hc a[k] (List.getElem_mem hlt) b[k]
      simp only [DExpr.c_eq] at hx
      refine CallSF.mk hx ?_
      by_cases he : a[k] = b[k]
      · have d := decide_eq_true he
        simp -dsimp -implicitDefEqProofs only [go_sem, ↓reduceIte, keep27, ib27, mk27, Tryz.f27, d]
        exact ⟨k + 1, by rw [IntWalk.i64_in _ (by omega)]; rfl, ⟨by omega, take_step hlt hlb hp he⟩, by omega⟩
      · have d := decide_eq_false he
        simp -dsimp -implicitDefEqProofs only [go_sem, ↓reduceIte, keep27, ib27, mk27, Tryz.f27, d]
        exact (decide_eq_false fun e => he (getElem_of_eq e hlt)).symm
    · have hk' : k = a.length := by omega
      subst hk'
      simp -dsimp -implicitDefEqProofs only [go_sem, ↓reduceIte, keep27, ib27, mk27, Tryz.f27, Nat.lt_irrefl]
      exact fun _ => (decide_eq_true (eq_of_take heq hp)).symm

def keep9 : List Nat := [0, 1, 2, 3, 4, 9, 14, 19, 24, 30]
def ib9 : List Nat := [2, 3]
def mk9 : Marks := fun _ => ([], .nil, [])
set_option maxRecDepth 100000 in
theorem eq_Expr_step (a b : DExpr) (hk : Fn0 Tryz.prog 27 [(sls 5 DExpr.c a.fKids), (sls 5 DExpr.c b.fKids)] (.bool (decide (a.fKids = b.fKids)))) : Fn0 Tryz.prog 9 [.agg a.c, .agg b.c] (.bool (decide (a = b))) := by
  simp only [DExpr.c_eq]
  refine fn0F 31 keep9 ib9 mk9 mix Tryz.func9 rfl (by kernel_rfl) (by simp) fun h => ?_
  simp -dsimp -implicitDefEqProofs only [go_sem, Tryz.f9, ↓reduceIte, keep9, ib9, mk9]
  refine ⟨fun hn => (decide_eq_false fun e => hn (by rw [e])).symm, fun efKind => ?_⟩
  refine ⟨fun hn => (decide_eq_false fun e => hn (by rw [e])).symm, fun efNum => ?_⟩
  refine ⟨fun hn => (decide_eq_false fun e => hn (by rw [e])).symm, fun efPick => ?_⟩
  refine ⟨fun hn => (decide_eq_false fun e => hn (by rw [e])).symm, fun efCount => ?_⟩
  refine HFnF.mk hk ?_
  by_cases efKids : a.fKids = b.fKids
  case neg =>
    have d := decide_eq_false efKids
    simp -dsimp -implicitDefEqProofs only [go_sem, ↓reduceIte, keep9, ib9, mk9, Tryz.f9, d]
    exact (decide_eq_false fun e => efKids (by rw [e])).symm
  have dfKids := decide_eq_true efKids
  simp -dsimp -implicitDefEqProofs only [go_sem, ↓reduceIte, keep9, ib9, mk9, Tryz.f9, dfKids]
  exact (decide_eq_true (DExpr.eq_iff.2 ⟨efKind, efNum, efPick, efCount, efKids⟩)).symm
theorem eq_Expr (a b : DExpr) : Fn0 Tryz.prog 9 [.agg a.c, .agg b.c] (.bool (decide (a = b))) :=
  eq_Expr_step a b (eq_ExprS a.fKids b.fKids fun x hx y => eq_Expr x y)
termination_by SizeOf.sizeOf a
decreasing_by exact DExpr.kid_lt hx

def keep50 : List Nat := [0, 1, 2, 3, 4, 9, 14, 20]
def ib50 : List Nat := [2, 3]
def mk50 : Marks := fun _ => ([], .nil, [])
set_option maxRecDepth 100000 in
theorem eq_Func (a b : DFunc) : Fn0 Tryz.prog 50 [.agg a.c, .agg b.c] (.bool (decide (a = b))) := by
  simp only [DFunc.c_eq]
  refine fn0F 21 keep50 ib50 mk50 mix Tryz.func50 rfl (by kernel_rfl) (by simp) fun h => ?_
  simp -dsimp -implicitDefEqProofs only [go_sem, Tryz.f50, ↓reduceIte, keep50, ib50, mk50]
  refine ⟨fun hn => (decide_eq_false fun e => hn (by rw [e])).symm, fun efName => ?_⟩
  refine ⟨fun hn => (decide_eq_false fun e => hn (by rw [e])).symm, fun efParams => ?_⟩
  refine HFnF.mk (eq_ExprS a.fOuts b.fOuts (fun x _ y => (eq_Expr x y))) ?_
  by_cases efOuts : a.fOuts = b.fOuts
  case neg =>
    have d := decide_eq_false efOuts
    simp -dsimp -implicitDefEqProofs only [go_sem, ↓reduceIte, keep50, ib50, mk50, Tryz.f50, d]
    exact (decide_eq_false fun e => efOuts (by rw [e])).symm
  have dfOuts := decide_eq_true efOuts
  simp -dsimp -implicitDefEqProofs only [go_sem, ↓reduceIte, keep50, ib50, mk50, Tryz.f50, dfOuts]
  exact (decide_eq_true (DFunc.eq_iff.2 ⟨efName, efParams, efOuts⟩)).symm

def keep28 : List Nat := [0, 1, 4, 5, 10, 14, 26]
def ib28 : List Nat := []
def mk28 : Marks := fun id => match id with | 6 => ([], (.op 0 (.op 1 (.op 2 (.op 3 (.op 4 (.op 5 (.op 6 (.op 7 (.op 8 (.op 9 .nil)))))))))), []) | _ => ([], .nil, [])
set_option maxRecDepth 100000 in
theorem eq_FuncS (a b : List DFunc) (hc : ∀ x ∈ a, ∀ y, Fn0 Tryz.prog 50 [(.agg (DFunc.c x)), (.agg (DFunc.c y))] (.bool (decide (x = y)))) : Fn0 Tryz.prog 28 [(sls 3 DFunc.c a), (sls 3 DFunc.c b)] (.bool (decide (a = b))) := by
  refine fn0F 27 keep28 ib28 mk28 mix Tryz.func28 rfl (by kernel_rfl) (by simp) fun h => ?_
  simp -dsimp -implicitDefEqProofs only [go_sem, Tryz.f28, ↓reduceIte, keep28, ib28, mk28]
  refine fun _ _ => ⟨fun hne => ?_, fun heq => ?_⟩
  · exact (decide_eq_false fun e => hne (by rw [e])).symm
  · refine loopF (keep := keep28) (ib := ib28) (mk := mk28) mix (by kernel_rfl) (fun k : Nat => [(0, (sls 3 DFunc.c a)), (1, (sls 3 DFunc.c b)), (5, I k)]) (fun _ => h) (fun k => k ≤ a.length ∧ a.take k = b.take k) (fun k => a.length - k) 0 (by simp [SatL, tget, Heap.le_refl]) ?_
    intro k ⟨hk, hp⟩
    rcases Nat.lt_or_ge k a.length with hlt | hge
    · have hlb : k < b.length := by omega
      have ea : a[k]? = some a[k] := List.getElem?_eq_getElem hlt
      have eb : b[k]? = some b[k] := List.getElem?_eq_getElem hlb
      simp -dsimp -implicitDefEqProofs only [go_sem, ↓reduceIte, keep28, ib28, mk28, Tryz.f28, ea, eb, DFunc.c_eq]
      refine fun _ => ⟨fun _ => ⟨hlt, hlb, ?_⟩, fun hn => absurd hlt hn⟩
      have hx := hc a[k] (List.getElem_mem hlt) b[k]
      simp only [DFunc.c_eq] at hx
      refine CallSF.mk hx ?_
      by_cases he : a[k] = b[k]
      · have d := decide_eq_true he
        simp -dsimp -implicitDefEqProofs only [go_sem, ↓reduceIte, keep28, ib28, mk28, Tryz.f28, d]
        exact ⟨k + 1, by rw [IntWalk.i64_in _ (by omega)]; rfl, ⟨by omega, take_step hlt hlb hp he⟩, by omega⟩
      · have d := decide_eq_false he
        simp -dsimp -implicitDefEqProofs only [go_sem, ↓reduceIte, keep28, ib28, mk28, Tryz.f28, d]
        exact (decide_eq_false fun e => he (getElem_of_eq e hlt)).symm
    · have hk' : k = a.length := by omega
      subst hk'
      simp -dsimp -implicitDefEqProofs only [go_sem, ↓reduceIte, keep28, ib28, mk28, Tryz.f28, Nat.lt_irrefl]
      exact fun _ => (decide_eq_true (eq_of_take heq hp)).symm

def keep10 : List Nat := [0, 1, 2, 3, 4, 10]
def ib10 : List Nat := [2, 3]
def mk10 : Marks := fun _ => ([], .nil, [])
set_option maxRecDepth 100000 in
theorem eq_Program (a b : DProgram) : Fn0 Tryz.prog 10 [.agg a.c, .agg b.c] (.bool (decide (a = b))) := by
  simp only [DProgram.c_eq]
  refine fn0F 11 keep10 ib10 mk10 mix Tryz.func10 rfl (by kernel_rfl) (by simp) fun h => ?_
  simp -dsimp -implicitDefEqProofs only [go_sem, Tryz.f10, ↓reduceIte, keep10, ib10, mk10]
  refine HFnF.mk (eq_FuncS a.fFuncs b.fFuncs (fun x _ y => (eq_Func x y))) ?_
  by_cases efFuncs : a.fFuncs = b.fFuncs
  case neg =>
    have d := decide_eq_false efFuncs
    simp -dsimp -implicitDefEqProofs only [go_sem, ↓reduceIte, keep10, ib10, mk10, Tryz.f10, d]
    exact (decide_eq_false fun e => efFuncs (by rw [e])).symm
  have dfFuncs := decide_eq_true efFuncs
  simp -dsimp -implicitDefEqProofs only [go_sem, ↓reduceIte, keep10, ib10, mk10, Tryz.f10, dfFuncs]
  exact (decide_eq_true (DProgram.eq_iff.2 efFuncs)).symm

open Go.Proofs
set_option linter.unusedVariables false
set_option linter.unusedSimpArgs false
def keep20 : List Nat := [0, 1, 2, 6]
def ib20 : List Nat := []
def mk20 : Marks := fun _ => ([], .nil, [])
theorem l00In (n a b : Int) : Fn0 Tryz.prog 20 [I n, I a, I b] (.bool (decide (a ≤ n ∧ n ≤ b))) := by
  refine fn0F 15 keep20 ib20 mk20 mix Tryz.func20 rfl (by kernel_rfl) (by simp) fun h => ?_
  simp (maxSteps := 1000000) -dsimp -implicitDefEqProofs only [go_sem, ↓reduceIte, keep20, ib20, mk20, Tryz.f20]
  repeat' (with_reducible first | intro _ | refine And.intro ?_ ?_)
  all_goals try (first | (simp [*]; done) | omega | grind)
def keep25 : List Nat := [0, 1, 2, 6]
def ib25 : List Nat := []
def mk25 : Marks := fun _ => ([], .nil, [])
theorem within (n a b : Int) : Fn0 Tryz.prog 25 [I n, I a, I b] (.bool (decide (a ≤ n ∧ n ≤ b))) := by
  refine fn0F 15 keep25 ib25 mk25 mix Tryz.func25 rfl (by kernel_rfl) (by simp) fun h => ?_
  simp (maxSteps := 1000000) -dsimp -implicitDefEqProofs only [go_sem, ↓reduceIte, keep25, ib25, mk25, Tryz.f25]
  repeat' (with_reducible first | intro _ | refine And.intro ?_ ?_)
  all_goals try (first | (simp [*]; done) | omega | grind)
def keep111 : List Nat := [0, 2]
def ib111 : List Nat := []
def mk111 : Marks := fun _ => ([], .nil, [])
theorem l01Number (n : Int) : Fn0 Tryz.prog 111 [I n] (.bool (decide (Num n))) := by
  refine fn0F 5 keep111 ib111 mk111 mix Tryz.func111 rfl (by kernel_rfl) (by simp) fun h => ?_
  simp (maxSteps := 1000000) -dsimp -implicitDefEqProofs only [go_sem, ↓reduceIte, keep111, ib111, mk111, Tryz.f111]
  first | refine HFnF.mk (l00In n 0 1000002) ?_ | refine CallSF.mk (l00In n 0 1000002) ?_ | refine HFnF.mkAt (l00In n 0 1000002) ?_ | refine CallSF.mk (FnAt.fn0 (l00In n 0 1000002)) ?_
  simp (maxSteps := 1000000) -dsimp -implicitDefEqProofs only [go_sem, ↓reduceIte, keep111, ib111, mk111, Tryz.f111]
  all_goals rfl
def keep96 : List Nat := [0, 2]
def ib96 : List Nat := []
def mk96 : Marks := fun _ => ([], .nil, [])
theorem isNumber (n : Int) : Fn0 Tryz.prog 96 [I n] (.bool (decide (Num n))) := by
  refine fn0F 5 keep96 ib96 mk96 mix Tryz.func96 rfl (by kernel_rfl) (by simp) fun h => ?_
  simp (maxSteps := 1000000) -dsimp -implicitDefEqProofs only [go_sem, ↓reduceIte, keep96, ib96, mk96, Tryz.f96]
  first | refine HFnF.mk (within n 0 1000002) ?_ | refine CallSF.mk (within n 0 1000002) ?_ | refine HFnF.mkAt (within n 0 1000002) ?_ | refine CallSF.mk (FnAt.fn0 (within n 0 1000002)) ?_
  simp (maxSteps := 1000000) -dsimp -implicitDefEqProofs only [go_sem, ↓reduceIte, keep96, ib96, mk96, Tryz.f96]
  all_goals rfl
open Go.Proofs
set_option linter.unusedVariables false
set_option linter.unusedSimpArgs false
def Low (c : UInt8) : Prop := 97 ≤ c.toNat ∧ c.toNat ≤ 122
def Dig (c : UInt8) : Prop := 48 ≤ c.toNat ∧ c.toNat ≤ 57
instance (c : UInt8) : Decidable (Low c) := inferInstanceAs (Decidable (_ ∧ _))
instance (c : UInt8) : Decidable (Dig c) := inferInstanceAs (Decidable (_ ∧ _))
def IsNm (s : List UInt8) : Prop := 1 ≤ s.length ∧ s.length ≤ 12 ∧ (∀ c, s[0]? = some c → Low c) ∧ ∀ c ∈ s, Low c ∨ Dig c
noncomputable instance (s : List UInt8) : Decidable (IsNm s) := Classical.propDecidable _
theorem isNm_step {s : List UInt8} {k : Nat} {c : UInt8} (h : k < s.length) (ec : s[k] = c) (hp : ∀ x ∈ s.take k, Low x ∨ Dig x) (he : Low c ∨ Dig c) : ∀ x ∈ s.take (k + 1), Low x ∨ Dig x :=
  all_step (P := fun x => Low x ∨ Dig x) h hp (by rw [ec]; exact he)
theorem not_isNm {s : List UInt8} {k : Nat} {c : UInt8} (h : k < s.length) (ec : s[k] = c) (he : ¬ (Low c ∨ Dig c)) : false = decide (IsNm s) :=
  (decide_eq_false fun e => he (ec ▸ e.2.2.2 _ (List.getElem_mem h))).symm
theorem not_isNm0 {s : List UInt8} {k : Nat} {c : UInt8} (h : k < s.length) (h0 : (k : Int) = 0) (ec : s[k] = c) (he : ¬ Low c) : false = decide (IsNm s) :=
  (decide_eq_false fun e => he (e.2.2.1 c (by have : k = 0 := by omega
                                              subst this; rw [List.getElem?_eq_getElem h, ec]))).symm
def keep61 : List Nat := [0, 2, 3, 17, 21, 45]
def ib61 : List Nat := []
def mk61 : Marks := fun _ => ([], .nil, [])
set_option maxRecDepth 100000 in
theorem specIsName (s : List UInt8) : Fn0 Tryz.prog 61 [.str s] (.bool (decide (IsNm s))) := by
  cases s with
  | nil =>
    refine fn0F 46 keep61 ib61 mk61 mix Tryz.func61 rfl (by kernel_rfl) (by simp) fun h => ?_
    simp (maxSteps := 1000000) -dsimp -implicitDefEqProofs only [go_sem, ↓reduceIte, keep61, ib61, mk61, Tryz.f61]
    first | refine HFnF.mk (l00In 0 1 12) ?_ | refine CallSF.mk (l00In 0 1 12) ?_ | refine HFnF.mkAt (l00In 0 1 12) ?_ | refine CallSF.mk (FnAt.fn0 (l00In 0 1 12)) ?_
    simp (maxSteps := 1000000) -dsimp -implicitDefEqProofs only [go_sem, ↓reduceIte, keep61, ib61, mk61, Tryz.f61]
    repeat' (with_reducible first | intro _ | refine And.intro ?_ ?_)
    all_goals try (first | (simp [IsNm, *]; done) | omega | (grind [IsNm]) | (simp [IsNm]; omega))
  | cons c t =>
    refine fn0F 46 keep61 ib61 mk61 mix Tryz.func61 rfl (by kernel_rfl) (by simp) fun h => ?_
    simp (maxSteps := 1000000) -dsimp -implicitDefEqProofs only [go_sem, ↓reduceIte, keep61, ib61, mk61, Tryz.f61, List.getElem?_cons_zero, Int.toNat_zero]
    intro _
    first | refine HFnF.mk (l00In (c :: t).length 1 12) ?_ | refine CallSF.mk (l00In (c :: t).length 1 12) ?_ | refine HFnF.mkAt (l00In (c :: t).length 1 12) ?_ | refine CallSF.mk (FnAt.fn0 (l00In (c :: t).length 1 12)) ?_
    simp (maxSteps := 1000000) -dsimp -implicitDefEqProofs only [go_sem, ↓reduceIte, keep61, ib61, mk61, Tryz.f61, List.getElem?_cons_zero, Int.toNat_zero]
    repeat' (with_reducible first | intro _ | refine And.intro ?_ ?_)
    all_goals try (first | (simp [IsNm, Low, Dig, *]; done) | omega | (grind [IsNm, Low, Dig]) | (simp [IsNm, Low, Dig]; omega))
    rename_i h0 h1 h2 h3
    generalize hs : c :: t = s at *
    refine loopF (keep := keep61) (ib := ib61) (mk := mk61) mix (by kernel_rfl) (fun k : Nat => [(0, .str s), (3, I k)]) (fun _ => h) (fun k => k ≤ s.length ∧ ∀ x ∈ s.take k, Low x ∨ Dig x) (fun k => s.length - k) 0 (by simp [SatL, tget, Heap.le_refl]) ?_
    intro k ⟨hk, hp⟩
    rcases Nat.lt_or_ge k s.length with hlt | hge
    · generalize ec : s[k] = d
      have ea : s[k]? = some d := by rw [← ec]; exact List.getElem?_eq_getElem hlt
      simp (maxSteps := 1000000) -dsimp -implicitDefEqProofs only [go_sem, ↓reduceIte, keep61, ib61, mk61, Tryz.f61, ea, Int.toNat_natCast]
      repeat' (with_reducible first | intro _ | refine And.intro ?_ ?_)
      all_goals try omega
      all_goals try exact not_isNm hlt ec (by simp only [Low, Dig]; omega)
      all_goals
        refine ⟨k + 1, ?_⟩
        repeat' (with_reducible refine And.intro ?_ ?_)
        all_goals try (rw [IntWalk.i64_in _ (by omega)]; first | rfl | omega)
        all_goals try omega
        all_goals try (repeat' (with_reducible first | exact Heap.le_refl _ | refine (le_upd (by first | assumption | exact And.right (by assumption) | exact upd_none.2 (by assumption))).2 ?_))
        exact isNm_step hlt ec hp (by simp only [Low, Dig]; omega)
    · have hk' : k = s.length := by omega
      subst hk'
      rw [List.take_length] at hp
      simp (maxSteps := 1000000) -dsimp -implicitDefEqProofs only [go_sem, ↓reduceIte, keep61, ib61, mk61, Tryz.f61, Nat.lt_irrefl]
      have : s.length = t.length + 1 := by rw [← hs]; rfl
      exact fun _ => (decide_eq_true ⟨by omega, by omega, fun x hx => by rw [← hs] at hx; simp at hx; subst hx; simp only [Low]; omega, hp⟩).symm
def keep43 : List Nat := [0, 2, 3, 5, 6, 7, 34]
def ib43 : List Nat := []
def mk43 : Marks := fun _ => ([], .nil, [])
set_option maxRecDepth 100000 in
theorem IsName (s : List UInt8) : Fn0 Tryz.prog 43 [.str s] (.bool (decide (IsNm s))) := by
  refine fn0F 44 keep43 ib43 mk43 mix Tryz.func43 rfl (by kernel_rfl) (by simp) fun h => ?_
  simp (maxSteps := 1000000) -dsimp -implicitDefEqProofs only [go_sem, ↓reduceIte, keep43, ib43, mk43, Tryz.f43]
  repeat' (with_reducible first | intro _ | refine And.intro ?_ ?_)
  refine loopF (keep := keep43) (ib := ib43) (mk := mk43) mix (by kernel_rfl) (fun k : Nat => [(0, .str s), (5, I s.length), (6, I k)]) (fun _ => h) (fun k => k ≤ s.length ∧ (∀ x ∈ s.take k, Low x ∨ Dig x) ∧ (0 < k → ∀ c, s[0]? = some c → Low c)) (fun k => s.length - k) 0 (by simp [SatL, tget, Heap.le_refl]) ?_
  intro k ⟨hk, hp, hz⟩
  rcases Nat.lt_or_ge k s.length with hlt | hge
  · generalize ec : s[k] = d
    have ea : s[k]? = some d := by rw [← ec]; exact List.getElem?_eq_getElem hlt
    have hz' : Low d ∨ ¬ ((k : Int) = 0) → ∀ c, s[0]? = some c → Low c := by
      intro q c hc
      by_cases h0 : k = 0
      · subst h0
        rw [ea] at hc
        obtain rfl := Option.some.inj hc
        exact q.resolve_right (by simp)
      · exact hz (by omega) c hc
    simp (maxSteps := 1000000) -dsimp -implicitDefEqProofs only [go_sem, ↓reduceIte, keep43, ib43, mk43, Tryz.f43, ea, Int.toNat_natCast]
    repeat' (with_reducible first | intro _ | refine And.intro ?_ ?_)
    all_goals try omega
    all_goals try exact not_isNm hlt ec (by simp only [Low, Dig]; omega)
    all_goals try exact not_isNm0 hlt (by omega) ec (by simp only [Low]; omega)
    all_goals
      refine ⟨k + 1, ?_⟩
      repeat' (with_reducible refine And.intro ?_ ?_)
      all_goals try (rw [IntWalk.i64_in _ (by omega)]; first | rfl | omega)
      all_goals try omega
      all_goals try (repeat' (with_reducible first | exact Heap.le_refl _ | refine (le_upd (by first | assumption | exact And.right (by assumption) | exact upd_none.2 (by assumption))).2 ?_))
      all_goals first | exact isNm_step hlt ec hp (by simp only [Low, Dig]; omega) | exact fun _ => hz' (by simp only [Low]; omega)
  · have hk' : k = s.length := by omega
    subst hk'
    rw [List.take_length] at hp
    simp (maxSteps := 1000000) -dsimp -implicitDefEqProofs only [go_sem, ↓reduceIte, keep43, ib43, mk43, Tryz.f43, Nat.lt_irrefl]
    repeat' (with_reducible first | intro _ | refine And.intro ?_ ?_)
    all_goals simp only [IsNm, decide_eq_decide, eq_comm (a := false), decide_eq_false_iff_not]
    all_goals grind
end Go.Hl

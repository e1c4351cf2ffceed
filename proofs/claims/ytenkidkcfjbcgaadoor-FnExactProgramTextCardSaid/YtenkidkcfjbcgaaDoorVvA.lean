/-
  Contracts of functions and laws of the layer over the walk.
-/
import Derived.Test.YtenkidkcfjbcgaaDoorHlD
import Derived.Test.YtenkidkcfjbcgaaDoorProg
import Derived.KernelRfl
namespace Go.Hl
open Go.Proofs
set_option linter.unusedVariables false
set_option linter.unusedSimpArgs false
@[go_sem] theorem ty2 : tyR Tryd.prog 2 = some ⟨1, false, 8, [.int .i64 0], .int .i64⟩ := by kernel_rfl
@[go_sem] theorem ty3 : tyR Tryd.prog 3 = some ⟨1, false, 8, [.int .i64 0], .int .i64⟩ := by kernel_rfl
@[go_sem] theorem ty4 : tyR Tryd.prog 4 = some ⟨1, false, 1, [.bool false], .bool⟩ := by kernel_rfl
@[go_sem] theorem ty5 : tyR Tryd.prog 5 = some ⟨1, false, 1, [.int .u8 0], .int .u8⟩ := by kernel_rfl
@[go_sem] theorem ty9 : tyR Tryd.prog 9 = some ⟨1, false, 16, [.str []], .str⟩ := by kernel_rfl
@[go_sem] theorem ty21 : tyR Tryd.prog 21 = some ⟨1, false, 4, [.int .i32 0], .int .i32⟩ := by kernel_rfl
@[go_sem] theorem ty22 : tyR Tryd.prog 22 = some ⟨1, false, 24, [.nilsl], .slice 103⟩ := by kernel_rfl
@[go_sem] theorem ty24 : tyR Tryd.prog 24 = some ⟨1, true, 24, [.nilsl], .st [(0, 22, 1)]⟩ := by kernel_rfl
@[go_sem] theorem ty25 : tyR Tryd.prog 25 = some ⟨1, false, 24, [.nilsl], .slice 27⟩ := by kernel_rfl
@[go_sem] theorem ty27 : tyR Tryd.prog 27 = some ⟨5, true, 56, [.int .i64 0, .int .i64 0, .int .i64 0, .int .i64 0, .nilsl], .st [(0, 2, 1), (1, 2, 1), (2, 2, 1), (3, 2, 1), (4, 25, 1)]⟩ := by kernel_rfl
@[go_sem] theorem ty31 : tyR Tryd.prog 31 = some ⟨1, false, 24, [.nilsl], .slice 74⟩ := by kernel_rfl
@[go_sem] theorem ty33 : tyR Tryd.prog 33 = some ⟨1, true, 24, [.nilsl], .st [(0, 31, 1)]⟩ := by kernel_rfl
@[go_sem] theorem ty35 : tyR Tryd.prog 35 = some ⟨1, false, 24, [.nilsl], .slice 37⟩ := by kernel_rfl
@[go_sem] theorem ty37 : tyR Tryd.prog 37 = some ⟨5, true, 56, [.int .i64 0, .int .i64 0, .int .i64 0, .int .i64 0, .nilsl], .st [(0, 2, 1), (1, 2, 1), (2, 2, 1), (3, 2, 1), (4, 35, 1)]⟩ := by kernel_rfl
@[go_sem] theorem ty44 : tyR Tryd.prog 44 = some ⟨1, false, 24, [.nilsl], .slice 128⟩ := by kernel_rfl
@[go_sem] theorem ty45 : tyR Tryd.prog 45 = some ⟨1, false, 24, [.nilsl], .slice 124⟩ := by kernel_rfl
@[go_sem] theorem ty46 : tyR Tryd.prog 46 = some ⟨1, false, 24, [.nilsl], .slice 2⟩ := by kernel_rfl
@[go_sem] theorem ty48 : tyR Tryd.prog 48 = some ⟨4, true, 80, [.int .i64 0, .nilsl, .nilsl, .nilsl], .st [(0, 2, 1), (1, 44, 1), (2, 45, 1), (3, 46, 1)]⟩ := by kernel_rfl
@[go_sem] theorem ty69 : tyR Tryd.prog 69 = some ⟨1, false, 8, [.nilptr], .ptr 72⟩ := by kernel_rfl
@[go_sem] theorem ty70 : tyR Tryd.prog 70 = some ⟨1, false, 24, [.nilsl], .slice 5⟩ := by kernel_rfl
@[go_sem] theorem ty72 : tyR Tryd.prog 72 = some ⟨2, true, 32, [.nilptr, .nilsl], .st [(0, 69, 1), (1, 70, 1)]⟩ := by kernel_rfl
@[go_sem] theorem ty74 : tyR Tryd.prog 74 = some ⟨3, true, 48, [.str [], .int .i64 0, .nilsl], .st [(0, 9, 1), (1, 2, 1), (2, 35, 1)]⟩ := by kernel_rfl
@[go_sem] theorem ty76 : tyR Tryd.prog 76 = some ⟨1, false, 16, [.nilif], .other⟩ := by kernel_rfl
@[go_sem] theorem ty85 : tyR Tryd.prog 85 = some ⟨5, true, 88, [.int .i64 0, .nilsl, .nilsl, .nilsl, .int .i64 0], .st [(0, 48, 4), (4, 2, 1)]⟩ := by kernel_rfl
@[go_sem] theorem ty86 : tyR Tryd.prog 86 = some ⟨1, false, 24, [.nilsl], .slice 9⟩ := by kernel_rfl
@[go_sem] theorem ty93 : tyR Tryd.prog 93 = some ⟨6, true, 88, [.int .i64 0, .nilsl, .nilsl, .nilsl, .bool false, .bool false], .st [(0, 48, 4), (4, 4, 1), (5, 4, 1)]⟩ := by kernel_rfl
@[go_sem] theorem ty103 : tyR Tryd.prog 103 = some ⟨3, true, 48, [.str [], .int .i64 0, .nilsl], .st [(0, 9, 1), (1, 2, 1), (2, 25, 1)]⟩ := by kernel_rfl
@[go_sem] theorem ty114 : tyR Tryd.prog 114 = some ⟨2, true, 32, [.nilsl, .int .i64 0], .st [(0, 33, 1), (1, 2, 1)]⟩ := by kernel_rfl
@[go_sem] theorem ty120 : tyR Tryd.prog 120 = some ⟨1, false, 8, [.nilptr], .ptr 5⟩ := by kernel_rfl
@[go_sem] theorem ty124 : tyR Tryd.prog 124 = some ⟨2, true, 16, [.int .i64 0, .bool false], .st [(0, 2, 1), (1, 4, 1)]⟩ := by kernel_rfl
@[go_sem] theorem ty128 : tyR Tryd.prog 128 = some ⟨4, true, 32, [.int .i64 0, .int .i64 0, .int .i64 0, .int .i64 0], .st [(0, 2, 1), (1, 2, 1), (2, 2, 1), (3, 2, 1)]⟩ := by kernel_rfl
@[go_sem] theorem ty151 : tyR Tryd.prog 151 = some ⟨24, true, 24, [.int .u8 0, .int .u8 0, .int .u8 0, .int .u8 0, .int .u8 0, .int .u8 0, .int .u8 0, .int .u8 0, .int .u8 0, .int .u8 0, .int .u8 0, .int .u8 0, .int .u8 0, .int .u8 0, .int .u8 0, .int .u8 0, .int .u8 0, .int .u8 0, .int .u8 0, .int .u8 0, .int .u8 0, .int .u8 0, .int .u8 0, .int .u8 0], .arr 24 5⟩ := by kernel_rfl
@[go_sem] theorem ty152 : tyR Tryd.prog 152 = some ⟨1, false, 8, [.int .u64 0], .int .u64⟩ := by kernel_rfl
@[go_sem] theorem ty165 : tyR Tryd.prog 165 = some ⟨20, true, 160, [.int .u64 0, .int .u64 0, .int .u64 0, .int .u64 0, .int .u64 0, .int .u64 0, .int .u64 0, .int .u64 0, .int .u64 0, .int .u64 0, .int .u64 0, .int .u64 0, .int .u64 0, .int .u64 0, .int .u64 0, .int .u64 0, .int .u64 0, .int .u64 0, .int .u64 0, .int .u64 0], .arr 20 152⟩ := by kernel_rfl
@[go_sem] theorem ty166 : tyR Tryd.prog 166 = some ⟨1, false, 4, [.int .u32 0], .int .u32⟩ := by kernel_rfl
@[go_sem] theorem ty167 : tyR Tryd.prog 167 = some ⟨65, true, 65, [.int .u8 0, .int .u8 0, .int .u8 0, .int .u8 0, .int .u8 0, .int .u8 0, .int .u8 0, .int .u8 0, .int .u8 0, .int .u8 0, .int .u8 0, .int .u8 0, .int .u8 0, .int .u8 0, .int .u8 0, .int .u8 0, .int .u8 0, .int .u8 0, .int .u8 0, .int .u8 0, .int .u8 0, .int .u8 0, .int .u8 0, .int .u8 0, .int .u8 0, .int .u8 0, .int .u8 0, .int .u8 0, .int .u8 0, .int .u8 0, .int .u8 0, .int .u8 0, .int .u8 0, .int .u8 0, .int .u8 0, .int .u8 0, .int .u8 0, .int .u8 0, .int .u8 0, .int .u8 0, .int .u8 0, .int .u8 0, .int .u8 0, .int .u8 0, .int .u8 0, .int .u8 0, .int .u8 0, .int .u8 0, .int .u8 0, .int .u8 0, .int .u8 0, .int .u8 0, .int .u8 0, .int .u8 0, .int .u8 0, .int .u8 0, .int .u8 0, .int .u8 0, .int .u8 0, .int .u8 0, .int .u8 0, .int .u8 0, .int .u8 0, .int .u8 0, .int .u8 0], .arr 65 5⟩ := by kernel_rfl
@[go_sem] theorem ty169 : tyR Tryd.prog 169 = some ⟨1, false, 8, [.int .u64 0], .int .u64⟩ := by kernel_rfl
@[go_sem] theorem ty173 : tyR Tryd.prog 173 = some ⟨256, true, 256, [.int .u8 0, .int .u8 0, .int .u8 0, .int .u8 0, .int .u8 0, .int .u8 0, .int .u8 0, .int .u8 0, .int .u8 0, .int .u8 0, .int .u8 0, .int .u8 0, .int .u8 0, .int .u8 0, .int .u8 0, .int .u8 0, .int .u8 0, .int .u8 0, .int .u8 0, .int .u8 0, .int .u8 0, .int .u8 0, .int .u8 0, .int .u8 0, .int .u8 0, .int .u8 0, .int .u8 0, .int .u8 0, .int .u8 0, .int .u8 0, .int .u8 0, .int .u8 0, .int .u8 0, .int .u8 0, .int .u8 0, .int .u8 0, .int .u8 0, .int .u8 0, .int .u8 0, .int .u8 0, .int .u8 0, .int .u8 0, .int .u8 0, .int .u8 0, .int .u8 0, .int .u8 0, .int .u8 0, .int .u8 0, .int .u8 0, .int .u8 0, .int .u8 0, .int .u8 0, .int .u8 0, .int .u8 0, .int .u8 0, .int .u8 0, .int .u8 0, .int .u8 0, .int .u8 0, .int .u8 0, .int .u8 0, .int .u8 0, .int .u8 0, .int .u8 0, .int .u8 0, .int .u8 0, .int .u8 0, .int .u8 0, .int .u8 0, .int .u8 0, .int .u8 0, .int .u8 0, .int .u8 0, .int .u8 0, .int .u8 0, .int .u8 0, .int .u8 0, .int .u8 0, .int .u8 0, .int .u8 0, .int .u8 0, .int .u8 0, .int .u8 0, .int .u8 0, .int .u8 0, .int .u8 0, .int .u8 0, .int .u8 0, .int .u8 0, .int .u8 0, .int .u8 0, .int .u8 0, .int .u8 0, .int .u8 0, .int .u8 0, .int .u8 0, .int .u8 0, .int .u8 0, .int .u8 0, .int .u8 0, .int .u8 0, .int .u8 0, .int .u8 0, .int .u8 0, .int .u8 0, .int .u8 0, .int .u8 0, .int .u8 0, .int .u8 0, .int .u8 0, .int .u8 0, .int .u8 0, .int .u8 0, .int .u8 0, .int .u8 0, .int .u8 0, .int .u8 0, .int .u8 0, .int .u8 0, .int .u8 0, .int .u8 0, .int .u8 0, .int .u8 0, .int .u8 0, .int .u8 0, .int .u8 0, .int .u8 0, .int .u8 0, .int .u8 0, .int .u8 0, .int .u8 0, .int .u8 0, .int .u8 0, .int .u8 0, .int .u8 0, .int .u8 0, .int .u8 0, .int .u8 0, .int .u8 0, .int .u8 0, .int .u8 0, .int .u8 0, .int .u8 0, .int .u8 0, .int .u8 0, .int .u8 0, .int .u8 0, .int .u8 0, .int .u8 0, .int .u8 0, .int .u8 0, .int .u8 0, .int .u8 0, .int .u8 0, .int .u8 0, .int .u8 0, .int .u8 0, .int .u8 0, .int .u8 0, .int .u8 0, .int .u8 0, .int .u8 0, .int .u8 0, .int .u8 0, .int .u8 0, .int .u8 0, .int .u8 0, .int .u8 0, .int .u8 0, .int .u8 0, .int .u8 0, .int .u8 0, .int .u8 0, .int .u8 0, .int .u8 0, .int .u8 0, .int .u8 0, .int .u8 0, .int .u8 0, .int .u8 0, .int .u8 0, .int .u8 0, .int .u8 0, .int .u8 0, .int .u8 0, .int .u8 0, .int .u8 0, .int .u8 0, .int .u8 0, .int .u8 0, .int .u8 0, .int .u8 0, .int .u8 0, .int .u8 0, .int .u8 0, .int .u8 0, .int .u8 0, .int .u8 0, .int .u8 0, .int .u8 0, .int .u8 0, .int .u8 0, .int .u8 0, .int .u8 0, .int .u8 0, .int .u8 0, .int .u8 0, .int .u8 0, .int .u8 0, .int .u8 0, .int .u8 0, .int .u8 0, .int .u8 0, .int .u8 0, .int .u8 0, .int .u8 0, .int .u8 0, .int .u8 0, .int .u8 0, .int .u8 0, .int .u8 0, .int .u8 0, .int .u8 0, .int .u8 0, .int .u8 0, .int .u8 0, .int .u8 0, .int .u8 0, .int .u8 0, .int .u8 0, .int .u8 0, .int .u8 0, .int .u8 0, .int .u8 0, .int .u8 0, .int .u8 0, .int .u8 0, .int .u8 0, .int .u8 0, .int .u8 0, .int .u8 0, .int .u8 0, .int .u8 0, .int .u8 0, .int .u8 0, .int .u8 0, .int .u8 0, .int .u8 0, .int .u8 0, .int .u8 0, .int .u8 0, .int .u8 0, .int .u8 0, .int .u8 0, .int .u8 0, .int .u8 0], .arr 256 5⟩ := by kernel_rfl
@[go_sem] theorem ty175 : tyR Tryd.prog 175 = some ⟨2, true, 2, [.int .u8 0, .int .u8 0], .st [(0, 5, 1), (1, 5, 1)]⟩ := by kernel_rfl
@[go_sem] theorem ty176 : tyR Tryd.prog 176 = some ⟨32, true, 32, [.int .u8 0, .int .u8 0, .int .u8 0, .int .u8 0, .int .u8 0, .int .u8 0, .int .u8 0, .int .u8 0, .int .u8 0, .int .u8 0, .int .u8 0, .int .u8 0, .int .u8 0, .int .u8 0, .int .u8 0, .int .u8 0, .int .u8 0, .int .u8 0, .int .u8 0, .int .u8 0, .int .u8 0, .int .u8 0, .int .u8 0, .int .u8 0, .int .u8 0, .int .u8 0, .int .u8 0, .int .u8 0, .int .u8 0, .int .u8 0, .int .u8 0, .int .u8 0], .arr 16 175⟩ := by kernel_rfl
@[go_sem] theorem ty185 : tyR Tryd.prog 185 = some ⟨32, true, 32, [.int .u8 0, .int .u8 0, .int .u8 0, .int .u8 0, .int .u8 0, .int .u8 0, .int .u8 0, .int .u8 0, .int .u8 0, .int .u8 0, .int .u8 0, .int .u8 0, .int .u8 0, .int .u8 0, .int .u8 0, .int .u8 0, .int .u8 0, .int .u8 0, .int .u8 0, .int .u8 0, .int .u8 0, .int .u8 0, .int .u8 0, .int .u8 0, .int .u8 0, .int .u8 0, .int .u8 0, .int .u8 0, .int .u8 0, .int .u8 0, .int .u8 0, .int .u8 0], .arr 32 5⟩ := by kernel_rfl
@[go_sem] theorem ty186 : tyR Tryd.prog 186 = some ⟨64, true, 64, [.int .u8 0, .int .u8 0, .int .u8 0, .int .u8 0, .int .u8 0, .int .u8 0, .int .u8 0, .int .u8 0, .int .u8 0, .int .u8 0, .int .u8 0, .int .u8 0, .int .u8 0, .int .u8 0, .int .u8 0, .int .u8 0, .int .u8 0, .int .u8 0, .int .u8 0, .int .u8 0, .int .u8 0, .int .u8 0, .int .u8 0, .int .u8 0, .int .u8 0, .int .u8 0, .int .u8 0, .int .u8 0, .int .u8 0, .int .u8 0, .int .u8 0, .int .u8 0, .int .u8 0, .int .u8 0, .int .u8 0, .int .u8 0, .int .u8 0, .int .u8 0, .int .u8 0, .int .u8 0, .int .u8 0, .int .u8 0, .int .u8 0, .int .u8 0, .int .u8 0, .int .u8 0, .int .u8 0, .int .u8 0, .int .u8 0, .int .u8 0, .int .u8 0, .int .u8 0, .int .u8 0, .int .u8 0, .int .u8 0, .int .u8 0, .int .u8 0, .int .u8 0, .int .u8 0, .int .u8 0, .int .u8 0, .int .u8 0, .int .u8 0, .int .u8 0], .arr 64 5⟩ := by kernel_rfl
@[go_sem] theorem ty190 : tyR Tryd.prog 190 = some ⟨3, true, 48, [.str [], .str [], .nilif], .st [(0, 9, 1), (1, 9, 1), (2, 76, 1)]⟩ := by kernel_rfl
@[go_sem] theorem ty194 : tyR Tryd.prog 194 = some ⟨1, true, 16, [.str []], .st [(0, 9, 1)]⟩ := by kernel_rfl
theorem mix : Tryd.prog.follows .mixedOrders = true := by kernel_rfl
open Go.Proofs
set_option linter.unusedVariables false
set_option linter.unusedSimpArgs false
abbrev I (n : Int) : HVal := .int .i64 n
abbrev sls {α : Type} (sz : Nat) (c : α → List HVal) (l : List α) : HVal := .sl sz (l.map c) false

def InI (n : Int) : Prop := -9223372036854775808 ≤ n ∧ n ≤ 9223372036854775807
/-- What is left of a budget; -1 where it does not last. -/
def lft (left : Int) (n : Nat) : Int := if left - n < 0 then -1 else left - n


theorem lft_cases (left : Int) (n : Nat) : (lft left n = -1 ∧ left - n < 0) ∨ (lft left n = left - n ∧ 0 ≤ left - n) := by
  unfold lft; split
  · exact .inl ⟨rfl, by assumption⟩
  · exact .inr ⟨rfl, by omega⟩
theorem lft_neg {left : Int} {n : Nat} (h : left - n < 0) : lft left n = -1 := if_pos h
theorem lft_pos {left : Int} {n : Nat} (h : 0 ≤ left - n) : lft left n = left - n := if_neg (by omega)

theorem lft_step {left L : Int} {n : Nat} (h : lft left n = L) : (L < 0 → left - n < 0) ∧ (¬ L < 0 → L = left - n) := by
  subst h; unfold lft; split <;> constructor <;> intros <;> omega

theorem sum_take_succ {α : Type} (s : α → Nat) (l : List α) (k : Nat) (h : k < l.length) : ((l.take (k + 1)).map s).sum = ((l.take k).map s).sum + s l[k] := by
  rw [List.take_succ_eq_append_getElem h, List.map_append, List.sum_append]; simp only [List.map_cons, List.map_nil, List.sum_cons, List.sum_nil, Nat.add_zero]
theorem sum_take_le {α : Type} (s : α → Nat) : ∀ (l : List α) (k : Nat), ((l.take k).map s).sum ≤ (l.map s).sum
  | [], k => by simp
  | a :: l, 0 => by simp
  | a :: l, k + 1 => by have := sum_take_le s l k; simp only [List.take_succ_cons, List.map_cons, List.sum_cons]; omega

theorem sum_mem {α : Type} (s : α → Nat) {l : List α} {x : α} (h : x ∈ l) : s x ≤ (l.map s).sum := by
  induction l with
  | nil => simp at h
  | cons a l ih =>
    simp only [List.map_cons, List.sum_cons]
    rcases List.mem_cons.1 h with rfl | h
    · omega
    · have := ih h; omega

/-- A row that is being filled from the left. -/
def fillUp {α : Type} (f : α → List HVal) (z : List HVal) (a : List α) (k : Nat) : List (List Cell) := ((a.take k).map f ++ List.replicate (a.length - k) z).map (List.map .v)
theorem fillUp_zero {α : Type} (f : α → List HVal) (z : List HVal) (a : List α) : fillUp f z a 0 = List.map (List.map .v) (List.replicate a.length z) := by simp [fillUp]
theorem fillUp_all {α : Type} (f : α → List HVal) (z : List HVal) (a : List α) : fillUp f z a a.length = (a.map f).map (List.map .v) := by simp [fillUp]
theorem fillUp_get {α : Type} (f : α → List HVal) (z : List HVal) (a : List α) (k : Nat) (h : k < a.length) : (fillUp f z a k)[k]? = some (z.map .v) := by
  have : ((a.take k).map f).length = k := by simp; omega
  simp only [fillUp, List.getElem?_map]
  rw [List.getElem?_append_right (by omega), this]
  have h0 : 0 < a.length - k := by omega
  simp [h0]
theorem fillUp_set {α : Type} (f : α → List HVal) (z : List HVal) (a : List α) (k : Nat) (h : k < a.length) (e : List Cell) (he : e = (f a[k]).map .v) : (fillUp f z a k).set k e = fillUp f z a (k + 1) := by
  subst he
  have h1 : ((a.take k).map f).length = k := by simp; omega
  simp only [fillUp]
  rw [← List.map_set, List.set_append_right _ _ (by omega), h1, Nat.sub_self, List.take_succ_eq_append_getElem h, show a.length - k = (a.length - (k + 1)) + 1 by omega, List.replicate_succ, List.set_cons_zero]
  simp only [List.map_append, List.map_cons, List.map_nil, List.append_assoc, List.cons_append, List.nil_append]
theorem le_fill {α : Type} {f : α → List HVal} {z : List HVal} {a : List α} {k : Nat} {h : Heap} {n sz : Nat} {e : List Cell} (hk : k < a.length) (he : e = (f a[k]).map .v) :
    (upd h n (.row sz (fillUp f z a (k + 1)))).le (upd (upd h n (.row sz (fillUp f z a k))) n (.row sz ((fillUp f z a k).set k e))) := by
  rw [fillUp_set f z a k hk e he, upd_upd]
  exact Heap.le_refl _
theorem upd_get (h : Heap) (n m : Nat) (o : HObj) : upd h n o m = if m = n then some o else h m := rfl
theorem getElem_of_eq {α : Type} {a b : List α} (e : a = b) {k : Nat} (ha : k < a.length) {hb : k < b.length} : a[k] = b[k] := by subst e; rfl
theorem take_step {α : Type} {a b : List α} {k : Nat} (ha : k < a.length) (hb : k < b.length) (hp : a.take k = b.take k) (he : a[k] = b[k]) : a.take (k + 1) = b.take (k + 1) := by
  rw [List.take_succ_eq_append_getElem ha, List.take_succ_eq_append_getElem hb, hp, he]
theorem eq_of_take {α : Type} {a b : List α} (hl : a.length = b.length) (h : a.take a.length = b.take a.length) : a = b := by
  rw [List.take_length, hl, List.take_length] at h; exact h
theorem valRows_map (l : List (List HVal)) : valRows (l.map (List.map .v)) = l := by
  induction l with
  | nil => rfl
  | cons e l ih =>
    have : valRow (e.map Cell.v) = e := by
      induction e with
      | nil => rfl
      | cons x e ih => simp only [List.map_cons, valRow, Cell.val, ih]
    simp only [valRows, List.map_cons] at ih ⊢
    rw [ih, this]
/-- A row of this function's own, handed back. -/
theorem shift_row {h h' : Heap} {n sz : Nat} (es : List (List HVal)) (h0 : h n = none) (hl : (upd h n (.row sz (es.map (List.map .v)))).le h') (len : Nat) (e : len = es.length) : Shift (.os n sz 0 len) h' (.sl sz es false) h := by
  subst e
  refine (Shift.of (Sub.refl _) hl).trans ((Shift.sealUp (upd_same _ _ _) (by simp [sealOK])).trans ?_)
  have : HVal.sealUp n (valRows (es.map (List.map .v))) (.os n sz 0 es.length) = .sl sz es false := by simp [HVal.sealUp, valRows_map]
  rw [this]
  exact shift_le ((le_upd h0).2 ((le_upd h0).2 (Heap.le_refl h)))

theorem map_get {α β : Type} {f : α → β} {l : List α} {k : Nat} (h : k < l.length) : (l.map f)[k]? = some (f l[k]) := by
  rw [List.getElem?_map, List.getElem?_eq_getElem h]; rfl
theorem all_step {α : Type} {P : α → Prop} {l : List α} {k : Nat} (h : k < l.length) (hp : ∀ x ∈ l.take k, P x) (he : P l[k]) : ∀ x ∈ l.take (k + 1), P x := by
  rw [List.take_succ_eq_append_getElem h]
  intro x hx
  rcases List.mem_append.1 hx with hx | hx
  · exact hp x hx
  · rw [List.mem_singleton.1 hx]; exact he
/-- The first place where p holds, or -1. -/
def idxOf {α : Type} (p : α → Bool) (l : List α) : Int := match l.findIdx? p with | some i => i | none => -1
theorem idxOf_none {α : Type} {p : α → Bool} {l : List α} (h : ∀ x ∈ l, p x = false) : idxOf p l = -1 := by
  have : l.findIdx? p = none := List.findIdx?_eq_none_iff.2 h
  simp only [idxOf, this]
theorem idxOf_some {α : Type} {p : α → Bool} {l : List α} {k : Nat} (hk : k < l.length) (h : ∀ x ∈ l.take k, p x = false) (he : p l[k] = true) : idxOf p l = k := by
  have : l.findIdx? p = some k := by
    rw [List.findIdx?_eq_some_iff_getElem]
    refine ⟨hk, he, fun j hj => ?_⟩
    have := h l[j] (List.mem_take_iff_getElem.2 ⟨j, by omega, rfl⟩)
    simp [this]
  simp only [idxOf, this]
theorem idxOf_nonneg {α : Type} {p : α → Bool} {l : List α} : decide (0 ≤ idxOf p l) = l.any p := by
  unfold idxOf
  cases h : l.findIdx? p with
  | none =>
    have := List.findIdx?_eq_none_iff.1 h
    simp only
    rw [Bool.eq_false_iff.2 (show l.any p ≠ true from ?_)]
    · simp
    · intro hx
      obtain ⟨x, hx, hp⟩ := List.any_eq_true.1 hx
      rw [this x hx] at hp; cases hp
  | some i =>
    obtain ⟨hi, hp, _⟩ := List.findIdx?_eq_some_iff_getElem.1 h
    have : l.any p = true := List.any_eq_true.2 ⟨_, List.getElem_mem hi, hp⟩
    rw [this]; simp
/-- A number of the field. -/
def Num (n : Int) : Prop := 0 ≤ n ∧ n ≤ 1000002
instance (n : Int) : Decidable (Num n) := inferInstanceAs (Decidable (0 ≤ n ∧ n ≤ 1000002))
inductive DExpr where
  | mk (fKind : Int) (fNum : Int) (fPick : Int) (fCount : Int) (fKids : (List DExpr))
def DExpr.fKind : DExpr → Int
  | .mk fKind fNum fPick fCount fKids => fKind
def DExpr.fNum : DExpr → Int
  | .mk fKind fNum fPick fCount fKids => fNum
def DExpr.fPick : DExpr → Int
  | .mk fKind fNum fPick fCount fKids => fPick
def DExpr.fCount : DExpr → Int
  | .mk fKind fNum fPick fCount fKids => fCount
def DExpr.fKids : DExpr → (List DExpr)
  | .mk fKind fNum fPick fCount fKids => fKids
mutual
def DExpr.c : DExpr → List HVal
  | .mk fKind fNum fPick fCount fKids => [(.int .i64 fKind), (.int .i64 fNum), (.int .i64 fPick), (.int .i64 fCount), .sl 5 (DExpr.cL fKids) false]
def DExpr.cL : List DExpr → List (List HVal)
  | [] => []
  | x :: l => x.c :: DExpr.cL l
end
mutual
def DExpr.s : DExpr → Nat
  | .mk fKind fNum fPick fCount fKids => (fKids.length + DExpr.sL fKids)
def DExpr.sL : List DExpr → Nat
  | [] => 0
  | x :: l => x.s + DExpr.sL l
end
theorem DExpr.cL_map : ∀ l, DExpr.cL l = l.map DExpr.c
  | [] => rfl
  | x :: l => by simp only [DExpr.cL, List.map_cons, DExpr.cL_map l]
theorem DExpr.sL_map : ∀ l, DExpr.sL l = (l.map DExpr.s).sum
  | [] => rfl
  | x :: l => by simp only [DExpr.sL, List.map_cons, List.sum_cons, DExpr.sL_map l]
theorem DExpr.c_eq (x : DExpr) : x.c = [(.int .i64 x.fKind), (.int .i64 x.fNum), (.int .i64 x.fPick), (.int .i64 x.fCount), (sls 5 DExpr.c x.fKids)] := by cases x; simp only [DExpr.c, DExpr.cL_map, sls]; rfl
theorem DExpr.s_eq (x : DExpr) : x.s = (szs DExpr.s x.fKids) := by cases x; simp only [DExpr.s, DExpr.sL_map, szs]; rfl
theorem DExpr.kid_lt {x y : DExpr} (h : y ∈ x.fKids) : SizeOf.sizeOf y < SizeOf.sizeOf x := by
  cases x
  have := List.sizeOf_lt_of_mem h
  simp only [DExpr.fKids] at this
  simp only [DExpr.mk.sizeOf_spec]; omega
@[simp] theorem DExpr.c_len (x : DExpr) : x.c.length = 5 := by rw [DExpr.c_eq]; rfl
inductive DExpr.wf : DExpr → Prop
  | mk (x : DExpr) (h0 : InI x.fKind) (h1 : InI x.fNum) (h2 : InI x.fPick) (h3 : InI x.fCount) (hk : ∀ y ∈ x.fKids, y.wf) : x.wf
theorem DExpr.eq_iff {a b : DExpr} : a = b ↔ a.fKind = b.fKind ∧ a.fNum = b.fNum ∧ a.fPick = b.fPick ∧ a.fCount = b.fCount ∧ a.fKids = b.fKids := by cases a; cases b; simp [DExpr.fKind, DExpr.fNum, DExpr.fPick, DExpr.fCount, DExpr.fKids]
noncomputable instance : DecidableEq DExpr := fun a b => Classical.propDecidable (a = b)

structure DFunc where
  fName : (List UInt8)
  fParams : Int
  fOuts : (List DExpr)
def DFunc.c (x : DFunc) : List HVal := [(.str x.fName), (.int .i64 x.fParams), (sls 5 DExpr.c x.fOuts)]
def DFunc.s (x : DFunc) : Nat := x.fName.length + (szs DExpr.s x.fOuts)
theorem DFunc.c_eq (x : DFunc) : x.c = [(.str x.fName), (.int .i64 x.fParams), (sls 5 DExpr.c x.fOuts)] := rfl
theorem DFunc.s_eq (x : DFunc) : x.s = x.fName.length + (szs DExpr.s x.fOuts) := rfl
@[simp] theorem DFunc.c_len (x : DFunc) : x.c.length = 3 := by rw [DFunc.c_eq]; rfl
def DFunc.wf (x : DFunc) : Prop := InI x.fParams ∧ (∀ y ∈ x.fOuts, y.wf)
theorem DFunc.eq_iff {a b : DFunc} : a = b ↔ a.fName = b.fName ∧ a.fParams = b.fParams ∧ a.fOuts = b.fOuts := by cases a; cases b; simp
noncomputable instance : DecidableEq DFunc := fun a b => Classical.propDecidable (a = b)

structure DProgram where
  fFuncs : (List DFunc)
def DProgram.c (x : DProgram) : List HVal := [(sls 3 DFunc.c x.fFuncs)]
def DProgram.s (x : DProgram) : Nat := (szs DFunc.s x.fFuncs)
theorem DProgram.c_eq (x : DProgram) : x.c = [(sls 3 DFunc.c x.fFuncs)] := rfl
theorem DProgram.s_eq (x : DProgram) : x.s = (szs DFunc.s x.fFuncs) := rfl
@[simp] theorem DProgram.c_len (x : DProgram) : x.c.length = 1 := by rw [DProgram.c_eq]; rfl
def DProgram.wf (x : DProgram) : Prop := (∀ y ∈ x.fFuncs, y.wf)
theorem DProgram.eq_iff {a b : DProgram} : a = b ↔ a.fFuncs = b.fFuncs := by cases a; cases b; simp
noncomputable instance : DecidableEq DProgram := fun a b => Classical.propDecidable (a = b)


open Go.Proofs
set_option linter.unusedVariables false
set_option linter.unusedSimpArgs false
theorem dat_i64 {P : Program} {n : Nat} {t : TypeId} {xs : List HVal} (hu : P.underlying t = some (.int .i64)) (h : Dat P n t xs) : ∃ i : Int, xs = [I i] ∧ InI i := by
  match n, h with
  | 0, h => exact h.elim
  | n + 1, h =>
    simp only [Dat, hu] at h
    obtain ⟨i, rfl, hw⟩ := h
    refine ⟨i, rfl, ?_⟩
    have h1 : IntKind.min .i64 = -9223372036854775808 := by decide
    have h2 : IntKind.max .i64 = 9223372036854775807 := by decide
    simp [Lit.wf, IntKind.has, h1, h2] at hw
    unfold InI
    omega
theorem dat_str {P : Program} {n : Nat} {t : TypeId} {xs : List HVal} (hu : P.underlying t = some .string) (h : Dat P n t xs) : ∃ s : List UInt8, xs = [.str s] ∧ True := by
  match n, h with
  | 0, h => exact h.elim
  | n + 1, h =>
    simp only [Dat, hu] at h
    obtain ⟨b, rfl⟩ := h
    exact ⟨b, rfl, trivial⟩
theorem list_of {α : Type} {c : α → List HVal} {w : α → Prop} : ∀ {es : List (List HVal)}, (∀ y ∈ es, ∃ x, y = c x ∧ w x) → ∃ l : List α, es = l.map c ∧ ∀ x ∈ l, w x
  | [], _ => ⟨[], rfl, by simp⟩
  | e :: es, h => by
    obtain ⟨x, rfl, hx⟩ := h _ List.mem_cons_self
    obtain ⟨l, rfl, hl⟩ := list_of fun y hy => h y (List.mem_cons_of_mem _ hy)
    refine ⟨x :: l, rfl, fun y hy => ?_⟩
    rcases List.mem_cons.1 hy with rfl | hy
    · exact hx
    · exact hl y hy
theorem dat_slice {P : Program} {n sz : Nat} {t e : TypeId} {α : Type} {c : α → List HVal} {w : α → Prop} {xs : List HVal} (hu : P.underlying t = some (.slice e)) (hc : P.cellsOf e = sz) (h : Dat P n t xs)
    (hx : ∀ m y, m < n → Dat P m e y → ∃ x, y = c x ∧ w x) : ∃ l : List α, xs = [sls sz c l] ∧ ∀ x ∈ l, w x := by
  match n, h with
  | 0, h => exact h.elim
  | n + 1, h =>
    simp only [Dat, hu] at h
    obtain ⟨es, rfl, hes⟩ := h
    obtain ⟨l, rfl, hl⟩ := list_of fun y hy => hx n y (by omega) (hes y hy)
    exact ⟨l, by rw [hc], hl⟩
theorem drop_split {α : Type} {xs c r : List α} {o n o' : Nat} (h : (xs.drop o).take n = c) (hr : xs.drop o' = r) (ho : o + n = o') : xs.drop o = c ++ r := by
  rw [← hr, ← ho, ← List.drop_drop, ← h, List.take_append_drop]
theorem cells9 : Tryd.prog.cellsOf 9 = 1 := by kernel_rfl
theorem cells24 : Tryd.prog.cellsOf 24 = 1 := by kernel_rfl
theorem cells2 : Tryd.prog.cellsOf 2 = 1 := by kernel_rfl
theorem cells25 : Tryd.prog.cellsOf 25 = 1 := by kernel_rfl
theorem cells27 : Tryd.prog.cellsOf 27 = 5 := by kernel_rfl
theorem cells103 : Tryd.prog.cellsOf 103 = 3 := by kernel_rfl
theorem cells22 : Tryd.prog.cellsOf 22 = 1 := by kernel_rfl
set_option maxRecDepth 100000 in
theorem dat_27 : ∀ {n : Nat} {xs : List HVal}, Dat Tryd.prog n 27 xs → ∃ x : DExpr, xs = x.c ∧ x.wf
  | 0, _, h => h.elim
  | n + 1, xs, h => by
    simp only [Dat, Tryd.underlying27] at h
    obtain ⟨hl, hf⟩ := h
    rw [cells27] at hl
    have f0 : Dat Tryd.prog n 2 ((xs.drop 0).take (Tryd.prog.cellsOf 2)) := hf 0 _ rfl
    rw [cells2] at f0
    obtain ⟨x0, e0, w0⟩ := (dat_i64 Tryd.underlying2 f0)
    have f1 : Dat Tryd.prog n 2 ((xs.drop 1).take (Tryd.prog.cellsOf 2)) := hf 1 _ rfl
    rw [cells2] at f1
    obtain ⟨x1, e1, w1⟩ := (dat_i64 Tryd.underlying2 f1)
    have f2 : Dat Tryd.prog n 2 ((xs.drop 2).take (Tryd.prog.cellsOf 2)) := hf 2 _ rfl
    rw [cells2] at f2
    obtain ⟨x2, e2, w2⟩ := (dat_i64 Tryd.underlying2 f2)
    have f3 : Dat Tryd.prog n 2 ((xs.drop 3).take (Tryd.prog.cellsOf 2)) := hf 3 _ rfl
    rw [cells2] at f3
    obtain ⟨x3, e3, w3⟩ := (dat_i64 Tryd.underlying2 f3)
    have f4 : Dat Tryd.prog n 25 ((xs.drop 4).take (Tryd.prog.cellsOf 25)) := hf 4 _ rfl
    rw [cells25] at f4
    obtain ⟨x4, e4, w4⟩ := (dat_slice (c := DExpr.c) (w := (fun x => x.wf)) Tryd.underlying25 cells27 f4 (fun m y hm hy => (dat_27 hy)))
    have r5 : xs.drop 5 = [] := List.drop_eq_nil_of_le (by omega)
    have r4 := drop_split e4 r5 rfl
    have r3 := drop_split e3 r4 rfl
    have r2 := drop_split e2 r3 rfl
    have r1 := drop_split e1 r2 rfl
    have r0 := drop_split e0 r1 rfl
    exact ⟨.mk x0 x1 x2 x3 x4, by rw [DExpr.c_eq]; exact r0, .mk _ w0 w1 w2 w3 w4⟩
termination_by n => n
decreasing_by all_goals omega
set_option maxRecDepth 100000 in
theorem dat_103 : ∀ {n : Nat} {xs : List HVal}, Dat Tryd.prog n 103 xs → ∃ x : DFunc, xs = x.c ∧ x.wf
  | 0, _, h => h.elim
  | n + 1, xs, h => by
    simp only [Dat, Tryd.underlying103] at h
    obtain ⟨hl, hf⟩ := h
    rw [cells103] at hl
    have f0 : Dat Tryd.prog n 9 ((xs.drop 0).take (Tryd.prog.cellsOf 9)) := hf 0 _ rfl
    rw [cells9] at f0
    obtain ⟨x0, e0, w0⟩ := (dat_str Tryd.underlying9 f0)
    have f1 : Dat Tryd.prog n 2 ((xs.drop 1).take (Tryd.prog.cellsOf 2)) := hf 1 _ rfl
    rw [cells2] at f1
    obtain ⟨x1, e1, w1⟩ := (dat_i64 Tryd.underlying2 f1)
    have f2 : Dat Tryd.prog n 25 ((xs.drop 2).take (Tryd.prog.cellsOf 25)) := hf 2 _ rfl
    rw [cells25] at f2
    obtain ⟨x2, e2, w2⟩ := (dat_slice (c := DExpr.c) (w := (fun x => x.wf)) Tryd.underlying25 cells27 f2 (fun m y hm hy => (dat_27 hy)))
    have r3 : xs.drop 3 = [] := List.drop_eq_nil_of_le (by omega)
    have r2 := drop_split e2 r3 rfl
    have r1 := drop_split e1 r2 rfl
    have r0 := drop_split e0 r1 rfl
    exact ⟨⟨x0, x1, x2⟩, r0, ⟨w1, w2⟩⟩
set_option maxRecDepth 100000 in
theorem dat_24 : ∀ {n : Nat} {xs : List HVal}, Dat Tryd.prog n 24 xs → ∃ x : DProgram, xs = x.c ∧ x.wf
  | 0, _, h => h.elim
  | n + 1, xs, h => by
    simp only [Dat, Tryd.underlying24] at h
    obtain ⟨hl, hf⟩ := h
    rw [cells24] at hl
    have f0 : Dat Tryd.prog n 22 ((xs.drop 0).take (Tryd.prog.cellsOf 22)) := hf 0 _ rfl
    rw [cells22] at f0
    obtain ⟨x0, e0, w0⟩ := (dat_slice (c := DFunc.c) (w := (fun x => x.wf)) Tryd.underlying22 cells103 f0 (fun m y hm hy => (dat_103 hy)))
    have r1 : xs.drop 1 = [] := List.drop_eq_nil_of_le (by omega)
    have r0 := drop_split e0 r1 rfl
    exact ⟨⟨x0⟩, r0, w0⟩
def datT : List TypeId := [2, 9, 22, 24, 25, 27, 103]
theorem datT_ok : datB Tryd.prog datT = true := by kernel_rfl

open Go.Proofs
set_option linter.unusedVariables false
set_option linter.unusedSimpArgs false


def keep22 : List Nat := [0, 1, 4, 5, 11, 15, 25]
def ib22 : List Nat := []
def mk22 : Marks := fun _ => ([], .nil, [])
set_option maxRecDepth 100000 in
theorem sz_ExprS (l : List DExpr) (left : Int) (h0 : 0 ≤ left) (h1 : left ≤ 1048576) (hc : ∀ x ∈ l, ∀ left : Int, 0 ≤ left → left ≤ 1048576 → Fn0 Tryd.prog 7 [(.agg (DExpr.c x)), I left] (I (lft left ((DExpr.s x))))) : Fn0 Tryd.prog 22 [sls 5 DExpr.c l, I left] (I (lft left (szs DExpr.s l))) := by
  refine fn0F 27 keep22 ib22 mk22 mix Tryd.func22 rfl (by kernel_rfl) (by simp) fun h => ?_
  simp -dsimp -implicitDefEqProofs only [go_sem, Tryd.f22, ↓reduceIte, keep22, ib22, mk22]
  intro hl
  rw [IntWalk.i64_in _ (by omega)]
  refine ⟨fun hn => ?_, fun hn => ?_⟩
  · exact (lft_neg (by rw [szs_eq]; omega)).symm
  · refine loopF (keep := keep22) (ib := ib22) (mk := mk22) mix (by kernel_rfl) (fun k : Nat => [(0, sls 5 DExpr.c l), (1, I (left - l.length - (((l.take k).map DExpr.s).sum : Int))), (5, I k)]) (fun _ => h) (fun k => k ≤ l.length ∧ 0 ≤ left - l.length - (((l.take k).map DExpr.s).sum : Int)) (fun k => l.length - k) 0 (by simp [SatL, tget, Heap.le_refl]; omega) ?_
    intro k ⟨hk, hb⟩
    rcases Nat.lt_or_ge k l.length with hlt | hge
    · have ea : l[k]? = some l[k] := List.getElem?_eq_getElem hlt
      simp -dsimp -implicitDefEqProofs only [go_sem, ↓reduceIte, keep22, ib22, mk22, Tryd.f22, ea, DExpr.c_eq]
      refine fun _ => ⟨fun _ => ⟨hlt, ?_⟩, fun hn => absurd hlt hn⟩
      have hx := hc l[k] (List.getElem_mem hlt) (left - l.length - (((l.take k).map DExpr.s).sum : Int)) (by omega) (by omega)
      simp only [DExpr.c_eq] at hx
      refine HFnF.mk hx ?_
      have hs := sum_take_succ DExpr.s l k hlt
      have hs' := sum_take_le DExpr.s l (k + 1)
      try dsimp only at hs
      rcases lft_cases (left - l.length - (((l.take k).map DExpr.s).sum : Int)) ((DExpr.s l[k])) with ⟨e, hl1⟩ | ⟨e, hl1⟩
      · simp -dsimp -implicitDefEqProofs only [go_sem, ↓reduceIte, keep22, ib22, mk22, Tryd.f22, e]
        exact (lft_neg (by rw [szs_eq]; omega)).symm
      · have hn1 : (left - l.length - (((l.take k).map DExpr.s).sum : Int) - ((DExpr.s l[k]) : Int) < 0) = False := eq_false (by omega)
        simp -dsimp -implicitDefEqProofs only [go_sem, ↓reduceIte, keep22, ib22, mk22, Tryd.f22, e, hn1]
        refine ⟨k + 1, ⟨?_, ?_⟩, ⟨by omega, by rw [hs]; omega⟩, by omega⟩
        · rw [hs]; omega
        · rw [IntWalk.i64_in _ (by omega)]; rfl
    · have hk' : k = l.length := by omega
      subst hk'
      simp -dsimp -implicitDefEqProofs only [go_sem, ↓reduceIte, keep22, ib22, mk22, Tryd.f22, Nat.lt_irrefl]
      refine fun _ => ?_
      rw [List.take_length] at hb ⊢
      rw [lft_pos (by rw [szs_eq]; omega), szs_eq]
      omega

def keep7 : List Nat := [0, 1, 2, 4, 10]
def ib7 : List Nat := [2]
def mk7 : Marks := fun _ => ([], .nil, [])
set_option maxRecDepth 100000 in
theorem sz_Expr_step (x : DExpr) (left : Int) (h0 : 0 ≤ left) (h1 : left ≤ 1048576) (hk : ∀ left : Int, 0 ≤ left → left ≤ 1048576 → Fn0 Tryd.prog 22 [(sls 5 DExpr.c x.fKids), I left] (I (lft left (szs DExpr.s x.fKids)))) : Fn0 Tryd.prog 7 [.agg x.c, I left] (I (lft left x.s)) := by
  rw [DExpr.s_eq]
  simp only [DExpr.c_eq]
  refine fn0F 12 keep7 ib7 mk7 mix Tryd.func7 rfl (by kernel_rfl) (by simp) fun h => ?_
  simp -dsimp -implicitDefEqProofs only [go_sem, Tryd.f7, ↓reduceIte, keep7, ib7, mk7]
  refine HFnF.mk (hk left (by omega) (by omega)) ?_
  rcases lft_cases left (szs DExpr.s x.fKids) with ⟨e, hl1⟩ | ⟨e, hl1⟩
  · simp -dsimp -implicitDefEqProofs only [go_sem, ↓reduceIte, keep7, ib7, mk7, Tryd.f7, e]
  · have hn1 : (left - ((szs DExpr.s x.fKids) : Int) < 0) = False := eq_false (by omega)
    simp -dsimp -implicitDefEqProofs only [go_sem, ↓reduceIte, keep7, ib7, mk7, Tryd.f7, e, hn1]
  try (rw [lft_pos (by omega)]; omega)
theorem sz_Expr (x : DExpr) (left : Int) (h0 : 0 ≤ left) (h1 : left ≤ 1048576) : Fn0 Tryd.prog 7 [.agg x.c, I left] (I (lft left x.s)) :=
  sz_Expr_step x left h0 h1 fun left h0 h1 => sz_ExprS x.fKids left h0 h1 fun y hy left h0 h1 => sz_Expr y left h0 h1
termination_by SizeOf.sizeOf x
decreasing_by exact DExpr.kid_lt hy

def keep54 : List Nat := [0, 1, 2, 4, 11, 17]
def ib54 : List Nat := [2]
def mk54 : Marks := fun _ => ([], .nil, [])
set_option maxRecDepth 100000 in
theorem sz_Func (x : DFunc) (left : Int) (h0 : 0 ≤ left) (h1 : left ≤ 1048576) : Fn0 Tryd.prog 54 [.agg x.c, I left] (I (lft left x.s)) := by
  rw [DFunc.s_eq]
  simp only [DFunc.c_eq]
  refine fn0F 19 keep54 ib54 mk54 mix Tryd.func54 rfl (by kernel_rfl) (by simp) fun h => ?_
  simp -dsimp -implicitDefEqProofs only [go_sem, Tryd.f54, ↓reduceIte, keep54, ib54, mk54]
  refine fun hl0 => ?_
  rw [IntWalk.i64_in _ (by omega)]
  generalize hL0 : left - ((x.fName.length : Nat) : Int) = L0
  refine ⟨fun hn => (lft_neg (by omega)).symm, fun hn0 => ?_⟩
  refine HFnF.mk (sz_ExprS x.fOuts (L0) (by omega) (by omega) (fun x _ left h0 h1 => sz_Expr x left h0 h1)) ?_
  generalize hL1 : lft (L0) (szs DExpr.s x.fOuts) = L1
  simp -dsimp -implicitDefEqProofs only [go_sem, ↓reduceIte, keep54, ib54, mk54, Tryd.f54]
  have hs1 := lft_step hL1
  refine ⟨fun hn => (lft_neg (by have := hs1.1 hn; omega)).symm, fun hn1 => ?_⟩
  have hp1 := hs1.2 hn1
  clear hs1 hL1
  try (rw [lft_pos (by omega)]; omega)

def keep21 : List Nat := [0, 1, 4, 5, 11, 15, 25]
def ib21 : List Nat := []
def mk21 : Marks := fun _ => ([], .nil, [])
set_option maxRecDepth 100000 in
theorem sz_FuncS (l : List DFunc) (left : Int) (h0 : 0 ≤ left) (h1 : left ≤ 1048576) (hc : ∀ x ∈ l, ∀ left : Int, 0 ≤ left → left ≤ 1048576 → Fn0 Tryd.prog 54 [(.agg (DFunc.c x)), I left] (I (lft left ((DFunc.s x))))) : Fn0 Tryd.prog 21 [sls 3 DFunc.c l, I left] (I (lft left (szs DFunc.s l))) := by
  refine fn0F 27 keep21 ib21 mk21 mix Tryd.func21 rfl (by kernel_rfl) (by simp) fun h => ?_
  simp -dsimp -implicitDefEqProofs only [go_sem, Tryd.f21, ↓reduceIte, keep21, ib21, mk21]
  intro hl
  rw [IntWalk.i64_in _ (by omega)]
  refine ⟨fun hn => ?_, fun hn => ?_⟩
  · exact (lft_neg (by rw [szs_eq]; omega)).symm
  · refine loopF (keep := keep21) (ib := ib21) (mk := mk21) mix (by kernel_rfl) (fun k : Nat => [(0, sls 3 DFunc.c l), (1, I (left - l.length - (((l.take k).map DFunc.s).sum : Int))), (5, I k)]) (fun _ => h) (fun k => k ≤ l.length ∧ 0 ≤ left - l.length - (((l.take k).map DFunc.s).sum : Int)) (fun k => l.length - k) 0 (by simp [SatL, tget, Heap.le_refl]; omega) ?_
    intro k ⟨hk, hb⟩
    rcases Nat.lt_or_ge k l.length with hlt | hge
    · have ea : l[k]? = some l[k] := List.getElem?_eq_getElem hlt
      simp -dsimp -implicitDefEqProofs only [go_sem, ↓reduceIte, keep21, ib21, mk21, Tryd.f21, ea, DFunc.c_eq]
      refine fun _ => ⟨fun _ => ⟨hlt, ?_⟩, fun hn => absurd hlt hn⟩
      have hx := hc l[k] (List.getElem_mem hlt) (left - l.length - (((l.take k).map DFunc.s).sum : Int)) (by omega) (by omega)
      simp only [DFunc.c_eq] at hx
      refine HFnF.mk hx ?_
      have hs := sum_take_succ DFunc.s l k hlt
      have hs' := sum_take_le DFunc.s l (k + 1)
      try dsimp only at hs
      rcases lft_cases (left - l.length - (((l.take k).map DFunc.s).sum : Int)) ((DFunc.s l[k])) with ⟨e, hl1⟩ | ⟨e, hl1⟩
      · simp -dsimp -implicitDefEqProofs only [go_sem, ↓reduceIte, keep21, ib21, mk21, Tryd.f21, e]
        exact (lft_neg (by rw [szs_eq]; omega)).symm
      · have hn1 : (left - l.length - (((l.take k).map DFunc.s).sum : Int) - ((DFunc.s l[k]) : Int) < 0) = False := eq_false (by omega)
        simp -dsimp -implicitDefEqProofs only [go_sem, ↓reduceIte, keep21, ib21, mk21, Tryd.f21, e, hn1]
        refine ⟨k + 1, ⟨?_, ?_⟩, ⟨by omega, by rw [hs]; omega⟩, by omega⟩
        · rw [hs]; omega
        · rw [IntWalk.i64_in _ (by omega)]; rfl
    · have hk' : k = l.length := by omega
      subst hk'
      simp -dsimp -implicitDefEqProofs only [go_sem, ↓reduceIte, keep21, ib21, mk21, Tryd.f21, Nat.lt_irrefl]
      refine fun _ => ?_
      rw [List.take_length] at hb ⊢
      rw [lft_pos (by rw [szs_eq]; omega), szs_eq]
      omega

def keep6 : List Nat := [0, 1, 2, 4, 10]
def ib6 : List Nat := [2]
def mk6 : Marks := fun _ => ([], .nil, [])
set_option maxRecDepth 100000 in
theorem sz_Program (x : DProgram) (left : Int) (h0 : 0 ≤ left) (h1 : left ≤ 1048576) : Fn0 Tryd.prog 6 [.agg x.c, I left] (I (lft left x.s)) := by
  rw [DProgram.s_eq]
  simp only [DProgram.c_eq]
  refine fn0F 12 keep6 ib6 mk6 mix Tryd.func6 rfl (by kernel_rfl) (by simp) fun h => ?_
  simp -dsimp -implicitDefEqProofs only [go_sem, Tryd.f6, ↓reduceIte, keep6, ib6, mk6]
  refine HFnF.mk (sz_FuncS x.fFuncs left (by omega) (by omega) (fun x _ left h0 h1 => sz_Func x left h0 h1)) ?_
  rcases lft_cases left (szs DFunc.s x.fFuncs) with ⟨e, hl1⟩ | ⟨e, hl1⟩
  · simp -dsimp -implicitDefEqProofs only [go_sem, ↓reduceIte, keep6, ib6, mk6, Tryd.f6, e]
  · have hn1 : (left - ((szs DFunc.s x.fFuncs) : Int) < 0) = False := eq_false (by omega)
    simp -dsimp -implicitDefEqProofs only [go_sem, ↓reduceIte, keep6, ib6, mk6, Tryd.f6, e, hn1]
  try (rw [lft_pos (by omega)]; omega)

open Go.Proofs
set_option linter.unusedVariables false
set_option linter.unusedSimpArgs false


def keep27 : List Nat := [0, 2, 3, 4, 11]
def ib27 : List Nat := []
def mk27 : Marks := fun _ => ([], .nil, [])
set_option maxRecDepth 100000 in
theorem to_ExprS (l : List DExpr) (h1 : l.length ≤ 1048576) (hc : ∀ x ∈ l, Fn0 Tryd.prog 10 [(.agg (DExpr.c x))] (.agg (DExpr.c x))) : Fn0 Tryd.prog 27 [(sls 5 DExpr.c l)] (sls 5 DExpr.c l) := by
  refine fn0S 23 keep27 ib27 mk27 mix Tryd.func27 rfl (by kernel_rfl) (by simp) fun h => ?_
  simp -dsimp -implicitDefEqProofs only [go_sem, Tryd.f27, ↓reduceIte, keep27, ib27, mk27]
  refine fun _ => ⟨by omega, by omega, by omega, by omega, fun n hn => ?_⟩
  refine loopF (keep := keep27) (ib := ib27) (mk := mk27) mix (by kernel_rfl) (fun k : Nat => [(0, (sls 5 DExpr.c l)), (3, .os n 5 0 l.length), (4, I k)]) (fun k => upd h n (.row 5 (fillUp DExpr.c [.int .i64 0, .int .i64 0, .int .i64 0, .int .i64 0, .nilsl] l k))) (fun k => k ≤ l.length) (fun k => l.length - k) 0 (by simp [SatL, tget, Heap.le_refl, fillUp_zero]) ?_
  intro k hk
  rcases Nat.lt_or_ge k l.length with hlt | hge
  · have ea : l[k]? = some l[k] := List.getElem?_eq_getElem hlt
    simp -dsimp -implicitDefEqProofs only [go_sem, ↓reduceIte, keep27, ib27, mk27, Tryd.f27, ea, fillUp_get _ _ _ _ hlt, DExpr.c_eq]
    refine fun _ => ⟨fun _ => ⟨hlt, ?_⟩, fun hn => absurd hlt hn⟩
    have hx := hc l[k] (List.getElem_mem hlt)
    simp only [DExpr.c_eq] at hx
    refine HFnF.mk hx ?_
    simp -dsimp -implicitDefEqProofs only [go_sem, ↓reduceIte, keep27, ib27, mk27, Tryd.f27, fillUp_get _ _ _ _ hlt]
    refine ⟨hlt, k + 1, by rw [IntWalk.i64_in _ (by omega)]; rfl, ?_, by omega, by omega⟩
    exact le_fill hlt (by first | rfl | (simp only [List.map_cons, List.map_nil, DExpr.c_eq]))
  · have hk' : k = l.length := by omega
    subst hk'
    simp -dsimp -implicitDefEqProofs only [go_sem, ↓reduceIte, keep27, ib27, mk27, Tryd.f27, Nat.lt_irrefl]
    rw [fillUp_all]
    exact fun _ => shift_row _ hn (Heap.le_refl _) _ (by simp)

def keep10 : List Nat := [0, 1, 2, 3]
def ib10 : List Nat := [1]
def mk10 : Marks := fun _ => ([], .nil, [])
set_option maxRecDepth 100000 in
theorem to_Expr_step (x : DExpr) (hs : x.s ≤ 1048576) (hk : Fn0 Tryd.prog 27 [(sls 5 DExpr.c x.fKids)] (sls 5 DExpr.c x.fKids)) : Fn0 Tryd.prog 10 [.agg x.c] (.agg x.c) := by
  rw [DExpr.s_eq] at hs
  simp only [DExpr.c_eq]
  refine fn0S 21 keep10 ib10 mk10 mix Tryd.func10 rfl (by kernel_rfl) (by simp) fun h => ?_
  simp -dsimp -implicitDefEqProofs only [go_sem, Tryd.f10, ↓reduceIte, keep10, ib10, mk10]
  intro n2 h2 n3 h3
  have e1 : (n2 = n3) = False := eq_false fun e => h3.1 e.symm
  have e2 : (n3 = n2) = False := eq_false h3.1
  have hzfKids : (x.fKids).length + ((x.fKids).map DExpr.s).sum = (szs DExpr.s x.fKids) := rfl
  refine HFnF.mk hk ?_
  simp -dsimp -implicitDefEqProofs only [go_sem, ↓reduceIte, keep10, ib10, mk10, Tryd.f10, upd_upd, upd_get, e1, e2]
  exact shift_le (by simp -dsimp -implicitDefEqProofs only [go_sem, h2, h3, e1, e2, upd_get])
theorem to_Expr (x : DExpr) (hs : x.s ≤ 1048576) : Fn0 Tryd.prog 10 [.agg x.c] (.agg x.c) :=
  to_Expr_step x hs (to_ExprS x.fKids (by rw [DExpr.s_eq] at hs; rw [szs_eq] at hs; omega) fun y hy => to_Expr y (by rw [DExpr.s_eq] at hs; have := sum_mem DExpr.s hy; rw [szs_eq] at hs; omega))
termination_by SizeOf.sizeOf x
decreasing_by exact DExpr.kid_lt hy

def keep63 : List Nat := [0, 1, 2, 3]
def ib63 : List Nat := [1]
def mk63 : Marks := fun _ => ([], .nil, [])
set_option maxRecDepth 100000 in
theorem to_Func (x : DFunc) (hs : x.s ≤ 1048576) : Fn0 Tryd.prog 63 [.agg x.c] (.agg x.c) := by
  rw [DFunc.s_eq] at hs
  simp only [DFunc.c_eq]
  refine fn0S 15 keep63 ib63 mk63 mix Tryd.func63 rfl (by kernel_rfl) (by simp) fun h => ?_
  simp -dsimp -implicitDefEqProofs only [go_sem, Tryd.f63, ↓reduceIte, keep63, ib63, mk63]
  intro n2 h2 n3 h3
  have e1 : (n2 = n3) = False := eq_false fun e => h3.1 e.symm
  have e2 : (n3 = n2) = False := eq_false h3.1
  have hzfOuts : (x.fOuts).length + ((x.fOuts).map DExpr.s).sum = (szs DExpr.s x.fOuts) := rfl
  refine HFnF.mk (to_ExprS x.fOuts (by omega) (fun y hy => to_Expr y (by have hq : (DExpr.s y) ≤ ((x.fOuts).map DExpr.s).sum := sum_mem DExpr.s hy; omega))) ?_
  simp -dsimp -implicitDefEqProofs only [go_sem, ↓reduceIte, keep63, ib63, mk63, Tryd.f63, upd_upd, upd_get, e1, e2]
  exact shift_le (by simp -dsimp -implicitDefEqProofs only [go_sem, h2, h3, e1, e2, upd_get])

def keep26 : List Nat := [0, 2, 3, 4, 11]
def ib26 : List Nat := []
def mk26 : Marks := fun _ => ([], .nil, [])
set_option maxRecDepth 100000 in
theorem to_FuncS (l : List DFunc) (h1 : l.length ≤ 1048576) (hc : ∀ x ∈ l, Fn0 Tryd.prog 63 [(.agg (DFunc.c x))] (.agg (DFunc.c x))) : Fn0 Tryd.prog 26 [(sls 3 DFunc.c l)] (sls 3 DFunc.c l) := by
  refine fn0S 23 keep26 ib26 mk26 mix Tryd.func26 rfl (by kernel_rfl) (by simp) fun h => ?_
  simp -dsimp -implicitDefEqProofs only [go_sem, Tryd.f26, ↓reduceIte, keep26, ib26, mk26]
  refine fun _ => ⟨by omega, by omega, by omega, by omega, fun n hn => ?_⟩
  refine loopF (keep := keep26) (ib := ib26) (mk := mk26) mix (by kernel_rfl) (fun k : Nat => [(0, (sls 3 DFunc.c l)), (3, .os n 3 0 l.length), (4, I k)]) (fun k => upd h n (.row 3 (fillUp DFunc.c [.str [], .int .i64 0, .nilsl] l k))) (fun k => k ≤ l.length) (fun k => l.length - k) 0 (by simp [SatL, tget, Heap.le_refl, fillUp_zero]) ?_
  intro k hk
  rcases Nat.lt_or_ge k l.length with hlt | hge
  · have ea : l[k]? = some l[k] := List.getElem?_eq_getElem hlt
    simp -dsimp -implicitDefEqProofs only [go_sem, ↓reduceIte, keep26, ib26, mk26, Tryd.f26, ea, fillUp_get _ _ _ _ hlt, DFunc.c_eq]
    refine fun _ => ⟨fun _ => ⟨hlt, ?_⟩, fun hn => absurd hlt hn⟩
    have hx := hc l[k] (List.getElem_mem hlt)
    simp only [DFunc.c_eq] at hx
    refine HFnF.mk hx ?_
    simp -dsimp -implicitDefEqProofs only [go_sem, ↓reduceIte, keep26, ib26, mk26, Tryd.f26, fillUp_get _ _ _ _ hlt]
    refine ⟨hlt, k + 1, by rw [IntWalk.i64_in _ (by omega)]; rfl, ?_, by omega, by omega⟩
    exact le_fill hlt (by first | rfl | (simp only [List.map_cons, List.map_nil, DFunc.c_eq]))
  · have hk' : k = l.length := by omega
    subst hk'
    simp -dsimp -implicitDefEqProofs only [go_sem, ↓reduceIte, keep26, ib26, mk26, Tryd.f26, Nat.lt_irrefl]
    rw [fillUp_all]
    exact fun _ => shift_row _ hn (Heap.le_refl _) _ (by simp)

def keep9 : List Nat := [0, 1, 2, 3]
def ib9 : List Nat := [1]
def mk9 : Marks := fun _ => ([], .nil, [])
set_option maxRecDepth 100000 in
theorem to_Program (x : DProgram) (hs : x.s ≤ 1048576) : Fn0 Tryd.prog 9 [.agg x.c] (.agg x.c) := by
  rw [DProgram.s_eq] at hs
  simp only [DProgram.c_eq]
  refine fn0S 9 keep9 ib9 mk9 mix Tryd.func9 rfl (by kernel_rfl) (by simp) fun h => ?_
  simp -dsimp -implicitDefEqProofs only [go_sem, Tryd.f9, ↓reduceIte, keep9, ib9, mk9]
  intro n2 h2 n3 h3
  have e1 : (n2 = n3) = False := eq_false fun e => h3.1 e.symm
  have e2 : (n3 = n2) = False := eq_false h3.1
  have hzfFuncs : (x.fFuncs).length + ((x.fFuncs).map DFunc.s).sum = (szs DFunc.s x.fFuncs) := rfl
  refine HFnF.mk (to_FuncS x.fFuncs (by omega) (fun y hy => to_Func y (by have hq : (DFunc.s y) ≤ ((x.fFuncs).map DFunc.s).sum := sum_mem DFunc.s hy; omega))) ?_
  simp -dsimp -implicitDefEqProofs only [go_sem, ↓reduceIte, keep9, ib9, mk9, Tryd.f9, upd_upd, upd_get, e1, e2]
  exact shift_le (by simp -dsimp -implicitDefEqProofs only [go_sem, h2, h3, e1, e2, upd_get])

open Go.Proofs
set_option linter.unusedVariables false
set_option linter.unusedSimpArgs false


def keep32 : List Nat := [0, 1, 4, 5, 10, 14, 26]
def ib32 : List Nat := []
def mk32 : Marks := fun id => match id with | 6 => ([], (.op 0 (.op 1 (.op 2 (.op 3 (.op 4 (.op 5 (.op 6 (.op 7 (.op 8 (.op 9 .nil)))))))))), []) | _ => ([], .nil, [])
set_option maxRecDepth 100000 in
theorem eq_ExprS (a b : List DExpr) (hc : ∀ x ∈ a, ∀ y, Fn0 Tryd.prog 13 [(.agg (DExpr.c x)), (.agg (DExpr.c y))] (.bool (decide (x = y)))) : Fn0 Tryd.prog 32 [(sls 5 DExpr.c a), (sls 5 DExpr.c b)] (.bool (decide (a = b))) := by
  refine fn0F 27 keep32 ib32 mk32 mix Tryd.func32 rfl (by kernel_rfl) (by simp) fun h => ?_
  simp -dsimp -implicitDefEqProofs only [go_sem, Tryd.f32, ↓reduceIte, keep32, ib32, mk32]
  refine fun _ _ => ⟨fun hne => ?_, fun heq => ?_⟩
  · exact (decide_eq_false fun e => hne (by rw [e])).symm
  · refine loopF (keep := keep32) (ib := ib32) (mk := mk32) mix (by kernel_rfl) (fun k : Nat => [(0, (sls 5 DExpr.c a)), (1, (sls 5 DExpr.c b)), (5, I k)]) (fun _ => h) (fun k => k ≤ a.length ∧ a.take k = b.take k) (fun k => a.length - k) 0 (by simp [SatL, tget, Heap.le_refl]) ?_
    intro k ⟨hk, hp⟩
    rcases Nat.lt_or_ge k a.length with hlt | hge
    · have hlb : k < b.length := by omega
      have ea : a[k]? = some a[k] := List.getElem?_eq_getElem hlt
      have eb : b[k]? = some b[k] := List.getElem?_eq_getElem hlb
      simp -dsimp -implicitDefEqProofs only [go_sem, ↓reduceIte, keep32, ib32, mk32, Tryd.f32, ea, eb, DExpr.c_eq]
      refine fun _ => ⟨fun _ => ⟨hlt, hlb, ?_⟩, fun hn => absurd hlt hn⟩
      have hx := hc a[k] (List.getElem_mem hlt) b[k]
      simp only [DExpr.c_eq] at hx
      refine CallSF.mk hx ?_
      by_cases he : a[k] = b[k]
      · have d := decide_eq_true he
        simp -dsimp -implicitDefEqProofs only [go_sem, ↓reduceIte, keep32, ib32, mk32, Tryd.f32, d]
        exact ⟨k + 1, by rw [IntWalk.i64_in _ (by omega)]; rfl, ⟨by omega, take_step hlt hlb hp he⟩, by omega⟩
      · have d := decide_eq_false he
        simp -dsimp -implicitDefEqProofs only [go_sem, ↓reduceIte, keep32, ib32, mk32, Tryd.f32, d]
        exact (decide_eq_false fun e => he (getElem_of_eq e hlt)).symm
    · have hk' : k = a.length := by omega
      subst hk'
      simp -dsimp -implicitDefEqProofs only [go_sem, ↓reduceIte, keep32, ib32, mk32, Tryd.f32, Nat.lt_irrefl]
      exact fun _ => (decide_eq_true (eq_of_take heq hp)).symm

def keep13 : List Nat := [0, 1, 2, 3, 4, 9, 14, 19, 24, 30]
def ib13 : List Nat := [2, 3]
def mk13 : Marks := fun _ => ([], .nil, [])
set_option maxRecDepth 100000 in
theorem eq_Expr_step (a b : DExpr) (hk : Fn0 Tryd.prog 32 [(sls 5 DExpr.c a.fKids), (sls 5 DExpr.c b.fKids)] (.bool (decide (a.fKids = b.fKids)))) : Fn0 Tryd.prog 13 [.agg a.c, .agg b.c] (.bool (decide (a = b))) := by
  simp only [DExpr.c_eq]
  refine fn0F 31 keep13 ib13 mk13 mix Tryd.func13 rfl (by kernel_rfl) (by simp) fun h => ?_
  simp -dsimp -implicitDefEqProofs only [go_sem, Tryd.f13, ↓reduceIte, keep13, ib13, mk13]
  refine ⟨fun hn => (decide_eq_false fun e => hn (by rw [e])).symm, fun efKind => ?_⟩
  refine ⟨fun hn => (decide_eq_false fun e => hn (by rw [e])).symm, fun efNum => ?_⟩
  refine ⟨fun hn => (decide_eq_false fun e => hn (by rw [e])).symm, fun efPick => ?_⟩
  refine ⟨fun hn => (decide_eq_false fun e => hn (by rw [e])).symm, fun efCount => ?_⟩
  refine HFnF.mk hk ?_
  by_cases efKids : a.fKids = b.fKids
  case neg =>
    have d := decide_eq_false efKids
    simp -dsimp -implicitDefEqProofs only [go_sem, ↓reduceIte, keep13, ib13, mk13, Tryd.f13, d]
    exact (decide_eq_false fun e => efKids (by rw [e])).symm
  have dfKids := decide_eq_true efKids
  simp -dsimp -implicitDefEqProofs only [go_sem, ↓reduceIte, keep13, ib13, mk13, Tryd.f13, dfKids]
  exact (decide_eq_true (DExpr.eq_iff.2 ⟨efKind, efNum, efPick, efCount, efKids⟩)).symm
theorem eq_Expr (a b : DExpr) : Fn0 Tryd.prog 13 [.agg a.c, .agg b.c] (.bool (decide (a = b))) :=
  eq_Expr_step a b (eq_ExprS a.fKids b.fKids fun x hx y => eq_Expr x y)
termination_by SizeOf.sizeOf a
decreasing_by exact DExpr.kid_lt hx

def keep72 : List Nat := [0, 1, 2, 3, 4, 9, 14, 20]
def ib72 : List Nat := [2, 3]
def mk72 : Marks := fun _ => ([], .nil, [])
set_option maxRecDepth 100000 in
theorem eq_Func (a b : DFunc) : Fn0 Tryd.prog 72 [.agg a.c, .agg b.c] (.bool (decide (a = b))) := by
  simp only [DFunc.c_eq]
  refine fn0F 21 keep72 ib72 mk72 mix Tryd.func72 rfl (by kernel_rfl) (by simp) fun h => ?_
  simp -dsimp -implicitDefEqProofs only [go_sem, Tryd.f72, ↓reduceIte, keep72, ib72, mk72]
  refine ⟨fun hn => (decide_eq_false fun e => hn (by rw [e])).symm, fun efName => ?_⟩
  refine ⟨fun hn => (decide_eq_false fun e => hn (by rw [e])).symm, fun efParams => ?_⟩
  refine HFnF.mk (eq_ExprS a.fOuts b.fOuts (fun x _ y => (eq_Expr x y))) ?_
  by_cases efOuts : a.fOuts = b.fOuts
  case neg =>
    have d := decide_eq_false efOuts
    simp -dsimp -implicitDefEqProofs only [go_sem, ↓reduceIte, keep72, ib72, mk72, Tryd.f72, d]
    exact (decide_eq_false fun e => efOuts (by rw [e])).symm
  have dfOuts := decide_eq_true efOuts
  simp -dsimp -implicitDefEqProofs only [go_sem, ↓reduceIte, keep72, ib72, mk72, Tryd.f72, dfOuts]
  exact (decide_eq_true (DFunc.eq_iff.2 ⟨efName, efParams, efOuts⟩)).symm

def keep31 : List Nat := [0, 1, 4, 5, 10, 14, 26]
def ib31 : List Nat := []
def mk31 : Marks := fun id => match id with | 6 => ([], (.op 0 (.op 1 (.op 2 (.op 3 (.op 4 (.op 5 (.op 6 (.op 7 (.op 8 (.op 9 .nil)))))))))), []) | _ => ([], .nil, [])
set_option maxRecDepth 100000 in
theorem eq_FuncS (a b : List DFunc) (hc : ∀ x ∈ a, ∀ y, Fn0 Tryd.prog 72 [(.agg (DFunc.c x)), (.agg (DFunc.c y))] (.bool (decide (x = y)))) : Fn0 Tryd.prog 31 [(sls 3 DFunc.c a), (sls 3 DFunc.c b)] (.bool (decide (a = b))) := by
  refine fn0F 27 keep31 ib31 mk31 mix Tryd.func31 rfl (by kernel_rfl) (by simp) fun h => ?_
  simp -dsimp -implicitDefEqProofs only [go_sem, Tryd.f31, ↓reduceIte, keep31, ib31, mk31]
  refine fun _ _ => ⟨fun hne => ?_, fun heq => ?_⟩
  · exact (decide_eq_false fun e => hne (by rw [e])).symm
  · refine loopF (keep := keep31) (ib := ib31) (mk := mk31) mix (by kernel_rfl) (fun k : Nat => [(0, (sls 3 DFunc.c a)), (1, (sls 3 DFunc.c b)), (5, I k)]) (fun _ => h) (fun k => k ≤ a.length ∧ a.take k = b.take k) (fun k => a.length - k) 0 (by simp [SatL, tget, Heap.le_refl]) ?_
    intro k ⟨hk, hp⟩
    rcases Nat.lt_or_ge k a.length with hlt | hge
    · have hlb : k < b.length := by omega
      have ea : a[k]? = some a[k] := List.getElem?_eq_getElem hlt
      have eb : b[k]? = some b[k] := List.getElem?_eq_getElem hlb
      simp -dsimp -implicitDefEqProofs only [go_sem, ↓reduceIte, keep31, ib31, mk31, Tryd.f31, ea, eb, DFunc.c_eq]
      refine fun _ => ⟨fun _ => ⟨hlt, hlb, ?_⟩, fun hn => absurd hlt hn⟩
      have hx := hc a[k] (List.getElem_mem hlt) b[k]
      simp only [DFunc.c_eq] at hx
      refine CallSF.mk hx ?_
      by_cases he : a[k] = b[k]
      · have d := decide_eq_true he
        simp -dsimp -implicitDefEqProofs only [go_sem, ↓reduceIte, keep31, ib31, mk31, Tryd.f31, d]
        exact ⟨k + 1, by rw [IntWalk.i64_in _ (by omega)]; rfl, ⟨by omega, take_step hlt hlb hp he⟩, by omega⟩
      · have d := decide_eq_false he
        simp -dsimp -implicitDefEqProofs only [go_sem, ↓reduceIte, keep31, ib31, mk31, Tryd.f31, d]
        exact (decide_eq_false fun e => he (getElem_of_eq e hlt)).symm
    · have hk' : k = a.length := by omega
      subst hk'
      simp -dsimp -implicitDefEqProofs only [go_sem, ↓reduceIte, keep31, ib31, mk31, Tryd.f31, Nat.lt_irrefl]
      exact fun _ => (decide_eq_true (eq_of_take heq hp)).symm

def keep12 : List Nat := [0, 1, 2, 3, 4, 10]
def ib12 : List Nat := [2, 3]
def mk12 : Marks := fun _ => ([], .nil, [])
set_option maxRecDepth 100000 in
theorem eq_Program (a b : DProgram) : Fn0 Tryd.prog 12 [.agg a.c, .agg b.c] (.bool (decide (a = b))) := by
  simp only [DProgram.c_eq]
  refine fn0F 11 keep12 ib12 mk12 mix Tryd.func12 rfl (by kernel_rfl) (by simp) fun h => ?_
  simp -dsimp -implicitDefEqProofs only [go_sem, Tryd.f12, ↓reduceIte, keep12, ib12, mk12]
  refine HFnF.mk (eq_FuncS a.fFuncs b.fFuncs (fun x _ y => (eq_Func x y))) ?_
  by_cases efFuncs : a.fFuncs = b.fFuncs
  case neg =>
    have d := decide_eq_false efFuncs
    simp -dsimp -implicitDefEqProofs only [go_sem, ↓reduceIte, keep12, ib12, mk12, Tryd.f12, d]
    exact (decide_eq_false fun e => efFuncs (by rw [e])).symm
  have dfFuncs := decide_eq_true efFuncs
  simp -dsimp -implicitDefEqProofs only [go_sem, ↓reduceIte, keep12, ib12, mk12, Tryd.f12, dfFuncs]
  exact (decide_eq_true (DProgram.eq_iff.2 efFuncs)).symm

open Go.Proofs
set_option linter.unusedVariables false
set_option linter.unusedSimpArgs false
def keep57 : List Nat := [0, 1, 2, 6]
def ib57 : List Nat := []
def mk57 : Marks := fun _ => ([], .nil, [])
theorem l00In (n a b : Int) : Fn0 Tryd.prog 57 [I n, I a, I b] (.bool (decide (a ≤ n ∧ n ≤ b))) := by
  refine fn0F 15 keep57 ib57 mk57 mix Tryd.func57 rfl (by kernel_rfl) (by simp) fun h => ?_
  simp (maxSteps := 1000000) -dsimp -implicitDefEqProofs only [go_sem, ↓reduceIte, keep57, ib57, mk57, Tryd.f57]
  repeat' (with_reducible first | intro _ | refine And.intro ?_ ?_)
  all_goals try (first | (simp [*]; done) | omega | grind)
def keep67 : List Nat := [0, 1, 2, 6]
def ib67 : List Nat := []
def mk67 : Marks := fun _ => ([], .nil, [])
theorem within (n a b : Int) : Fn0 Tryd.prog 67 [I n, I a, I b] (.bool (decide (a ≤ n ∧ n ≤ b))) := by
  refine fn0F 15 keep67 ib67 mk67 mix Tryd.func67 rfl (by kernel_rfl) (by simp) fun h => ?_
  simp (maxSteps := 1000000) -dsimp -implicitDefEqProofs only [go_sem, ↓reduceIte, keep67, ib67, mk67, Tryd.f67]
  repeat' (with_reducible first | intro _ | refine And.intro ?_ ?_)
  all_goals try (first | (simp [*]; done) | omega | grind)
def keep99 : List Nat := [0, 2]
def ib99 : List Nat := []
def mk99 : Marks := fun _ => ([], .nil, [])
theorem l01Number (n : Int) : Fn0 Tryd.prog 99 [I n] (.bool (decide (Num n))) := by
  refine fn0F 5 keep99 ib99 mk99 mix Tryd.func99 rfl (by kernel_rfl) (by simp) fun h => ?_
  simp (maxSteps := 1000000) -dsimp -implicitDefEqProofs only [go_sem, ↓reduceIte, keep99, ib99, mk99, Tryd.f99]
  first | refine HFnF.mk (l00In n 0 1000002) ?_ | refine CallSF.mk (l00In n 0 1000002) ?_ | refine HFnF.mkAt (l00In n 0 1000002) ?_ | refine CallSF.mk (FnAt.fn0 (l00In n 0 1000002)) ?_
  simp (maxSteps := 1000000) -dsimp -implicitDefEqProofs only [go_sem, ↓reduceIte, keep99, ib99, mk99, Tryd.f99]
  all_goals rfl
def keep94 : List Nat := [0, 2]
def ib94 : List Nat := []
def mk94 : Marks := fun _ => ([], .nil, [])
theorem isNumber (n : Int) : Fn0 Tryd.prog 94 [I n] (.bool (decide (Num n))) := by
  refine fn0F 5 keep94 ib94 mk94 mix Tryd.func94 rfl (by kernel_rfl) (by simp) fun h => ?_
  simp (maxSteps := 1000000) -dsimp -implicitDefEqProofs only [go_sem, ↓reduceIte, keep94, ib94, mk94, Tryd.f94]
  first | refine HFnF.mk (within n 0 1000002) ?_ | refine CallSF.mk (within n 0 1000002) ?_ | refine HFnF.mkAt (within n 0 1000002) ?_ | refine CallSF.mk (FnAt.fn0 (within n 0 1000002)) ?_
  simp (maxSteps := 1000000) -dsimp -implicitDefEqProofs only [go_sem, ↓reduceIte, keep94, ib94, mk94, Tryd.f94]
  all_goals rfl
open Go.Proofs
set_option linter.unusedVariables false
set_option linter.unusedSimpArgs false
def Low (c : UInt8) : Prop := 97 ≤ c.toNat ∧ c.toNat ≤ 122
def Dig (c : UInt8) : Prop := 48 ≤ c.toNat ∧ c.toNat ≤ 57
instance (c : UInt8) : Decidable (Low c) := inferInstanceAs (Decidable (_ ∧ _))
instance (c : UInt8) : Decidable (Dig c) := inferInstanceAs (Decidable (_ ∧ _))
def IsNm (s : List UInt8) : Prop := 1 ≤ s.length ∧ s.length ≤ 12 ∧ (∀ c, s[0]? = some c → Low c) ∧ ∀ c ∈ s, Low c ∨ Dig c
noncomputable instance (s : List UInt8) : Decidable (IsNm s) := Classical.propDecidable _
theorem isNm_step {s : List UInt8} {k : Nat} {c : UInt8} (h : k < s.length) (ec : s[k] = c) (hp : ∀ x ∈ s.take k, Low x ∨ Dig x) (he : Low c ∨ Dig c) : ∀ x ∈ s.take (k + 1), Low x ∨ Dig x :=
  all_step (P := fun x => Low x ∨ Dig x) h hp (by rw [ec]; exact he)
theorem not_isNm {s : List UInt8} {k : Nat} {c : UInt8} (h : k < s.length) (ec : s[k] = c) (he : ¬ (Low c ∨ Dig c)) : false = decide (IsNm s) :=
  (decide_eq_false fun e => he (ec ▸ e.2.2.2 _ (List.getElem_mem h))).symm
theorem not_isNm0 {s : List UInt8} {k : Nat} {c : UInt8} (h : k < s.length) (h0 : (k : Int) = 0) (ec : s[k] = c) (he : ¬ Low c) : false = decide (IsNm s) :=
  (decide_eq_false fun e => he (e.2.2.1 c (by have : k = 0 := by omega
                                              subst this; rw [List.getElem?_eq_getElem h, ec]))).symm
def keep90 : List Nat := [0, 2, 3, 17, 21, 45]
def ib90 : List Nat := []
def mk90 : Marks := fun _ => ([], .nil, [])
set_option maxRecDepth 100000 in
theorem specIsName (s : List UInt8) : Fn0 Tryd.prog 90 [.str s] (.bool (decide (IsNm s))) := by
  cases s with
  | nil =>
    refine fn0F 46 keep90 ib90 mk90 mix Tryd.func90 rfl (by kernel_rfl) (by simp) fun h => ?_
    simp (maxSteps := 1000000) -dsimp -implicitDefEqProofs only [go_sem, ↓reduceIte, keep90, ib90, mk90, Tryd.f90]
    first | refine HFnF.mk (l00In 0 1 12) ?_ | refine CallSF.mk (l00In 0 1 12) ?_ | refine HFnF.mkAt (l00In 0 1 12) ?_ | refine CallSF.mk (FnAt.fn0 (l00In 0 1 12)) ?_
    simp (maxSteps := 1000000) -dsimp -implicitDefEqProofs only [go_sem, ↓reduceIte, keep90, ib90, mk90, Tryd.f90]
    repeat' (with_reducible first | intro _ | refine And.intro ?_ ?_)
    all_goals try (first | (simp [IsNm, *]; done) | omega | (grind [IsNm]) | (simp [IsNm]; omega))
  | cons c t =>
    refine fn0F 46 keep90 ib90 mk90 mix Tryd.func90 rfl (by kernel_rfl) (by simp) fun h => ?_
    simp (maxSteps := 1000000) -dsimp -implicitDefEqProofs only [go_sem, ↓reduceIte, keep90, ib90, mk90, Tryd.f90, List.getElem?_cons_zero, Int.toNat_zero]
    intro _
    first | refine HFnF.mk (l00In (c :: t).length 1 12) ?_ | refine CallSF.mk (l00In (c :: t).length 1 12) ?_ | refine HFnF.mkAt (l00In (c :: t).length 1 12) ?_ | refine CallSF.mk (FnAt.fn0 (l00In (c :: t).length 1 12)) ?_
    simp (maxSteps := 1000000) -dsimp -implicitDefEqProofs only [go_sem, ↓reduceIte, keep90, ib90, mk90, Tryd.f90, List.getElem?_cons_zero, Int.toNat_zero]
    repeat' (with_reducible first | intro _ | refine And.intro ?_ ?_)
    all_goals try (first | (simp [IsNm, Low, Dig, *]; done) | omega | (grind [IsNm, Low, Dig]) | (simp [IsNm, Low, Dig]; omega))
    rename_i h0 h1 h2 h3
    generalize hs : c :: t = s at *
    refine loopF (keep := keep90) (ib := ib90) (mk := mk90) mix (by kernel_rfl) (fun k : Nat => [(0, .str s), (3, I k)]) (fun _ => h) (fun k => k ≤ s.length ∧ ∀ x ∈ s.take k, Low x ∨ Dig x) (fun k => s.length - k) 0 (by simp [SatL, tget, Heap.le_refl]) ?_
    intro k ⟨hk, hp⟩
    rcases Nat.lt_or_ge k s.length with hlt | hge
    · generalize ec : s[k] = d
      have ea : s[k]? = some d := by rw [← ec]; exact List.getElem?_eq_getElem hlt
      simp (maxSteps := 1000000) -dsimp -implicitDefEqProofs only [go_sem, ↓reduceIte, keep90, ib90, mk90, Tryd.f90, ea, Int.toNat_natCast]
      repeat' (with_reducible first | intro _ | refine And.intro ?_ ?_)
      all_goals try omega
      all_goals try exact not_isNm hlt ec (by simp only [Low, Dig]; omega)
      all_goals
        refine ⟨k + 1, ?_⟩
        repeat' (with_reducible refine And.intro ?_ ?_)
        all_goals try (rw [IntWalk.i64_in _ (by omega)]; first | rfl | omega)
        all_goals try omega
        all_goals try (repeat' (with_reducible first | exact Heap.le_refl _ | refine (le_upd (by first | assumption | exact And.right (by assumption) | exact upd_none.2 (by assumption))).2 ?_))
        exact isNm_step hlt ec hp (by simp only [Low, Dig]; omega)
    · have hk' : k = s.length := by omega
      subst hk'
      rw [List.take_length] at hp
      simp (maxSteps := 1000000) -dsimp -implicitDefEqProofs only [go_sem, ↓reduceIte, keep90, ib90, mk90, Tryd.f90, Nat.lt_irrefl]
      have : s.length = t.length + 1 := by rw [← hs]; rfl
      exact fun _ => (decide_eq_true ⟨by omega, by omega, fun x hx => by rw [← hs] at hx; simp at hx; subst hx; simp only [Low]; omega, hp⟩).symm
def keep64 : List Nat := [0, 2, 3, 5, 6, 7, 34]
def ib64 : List Nat := []
def mk64 : Marks := fun _ => ([], .nil, [])
set_option maxRecDepth 100000 in
theorem IsName (s : List UInt8) : Fn0 Tryd.prog 64 [.str s] (.bool (decide (IsNm s))) := by
  refine fn0F 44 keep64 ib64 mk64 mix Tryd.func64 rfl (by kernel_rfl) (by simp) fun h => ?_
  simp (maxSteps := 1000000) -dsimp -implicitDefEqProofs only [go_sem, ↓reduceIte, keep64, ib64, mk64, Tryd.f64]
  repeat' (with_reducible first | intro _ | refine And.intro ?_ ?_)
  refine loopF (keep := keep64) (ib := ib64) (mk := mk64) mix (by kernel_rfl) (fun k : Nat => [(0, .str s), (5, I s.length), (6, I k)]) (fun _ => h) (fun k => k ≤ s.length ∧ (∀ x ∈ s.take k, Low x ∨ Dig x) ∧ (0 < k → ∀ c, s[0]? = some c → Low c)) (fun k => s.length - k) 0 (by simp [SatL, tget, Heap.le_refl]) ?_
  intro k ⟨hk, hp, hz⟩
  rcases Nat.lt_or_ge k s.length with hlt | hge
  · generalize ec : s[k] = d
    have ea : s[k]? = some d := by rw [← ec]; exact List.getElem?_eq_getElem hlt
    have hz' : Low d ∨ ¬ ((k : Int) = 0) → ∀ c, s[0]? = some c → Low c := by
      intro q c hc
      by_cases h0 : k = 0
      · subst h0
        rw [ea] at hc
        obtain rfl := Option.some.inj hc
        exact q.resolve_right (by simp)
      · exact hz (by omega) c hc
    simp (maxSteps := 1000000) -dsimp -implicitDefEqProofs only [go_sem, ↓reduceIte, keep64, ib64, mk64, Tryd.f64, ea, Int.toNat_natCast]
    repeat' (with_reducible first | intro _ | refine And.intro ?_ ?_)
    all_goals try omega
    all_goals try exact not_isNm hlt ec (by simp only [Low, Dig]; omega)
    all_goals try exact not_isNm0 hlt (by omega) ec (by simp only [Low]; omega)
    all_goals
      refine ⟨k + 1, ?_⟩
      repeat' (with_reducible refine And.intro ?_ ?_)
      all_goals try (rw [IntWalk.i64_in _ (by omega)]; first | rfl | omega)
      all_goals try omega
      all_goals try (repeat' (with_reducible first | exact Heap.le_refl _ | refine (le_upd (by first | assumption | exact And.right (by assumption) | exact upd_none.2 (by assumption))).2 ?_))
      all_goals first | exact isNm_step hlt ec hp (by simp only [Low, Dig]; omega) | exact fun _ => hz' (by simp only [Low]; omega)
  · have hk' : k = s.length := by omega
    subst hk'
    rw [List.take_length] at hp
    simp (maxSteps := 1000000) -dsimp -implicitDefEqProofs only [go_sem, ↓reduceIte, keep64, ib64, mk64, Tryd.f64, Nat.lt_irrefl]
    repeat' (with_reducible first | intro _ | refine And.intro ?_ ?_)
    all_goals simp only [IsNm, decide_eq_decide, eq_comm (a := false), decide_eq_false_iff_not]
    all_goals grind
open Go.Proofs
set_option linter.unusedVariables false
set_option linter.unusedSimpArgs false
mutual
def DExpr.d : DExpr → Nat
  | .mk _ _ _ _ kids => DExpr.dL kids + 1
def DExpr.dL : List DExpr → Nat
  | [] => 0
  | x :: l => max x.d (DExpr.dL l)
end
theorem DExpr.d_eq (x : DExpr) : x.d = DExpr.dL x.fKids + 1 := by cases x; rfl
theorem DExpr.dL_take : ∀ {l : List DExpr} {k : Nat} (h : k < l.length), DExpr.dL (l.take (k + 1)) = max (DExpr.dL (l.take k)) l[k].d
  | x :: l, 0, _ => by simp [DExpr.dL]
  | x :: l, k + 1, h => by
    have := DExpr.dL_take (l := l) (k := k) (by simpa using h)
    simp only [List.take_succ_cons, DExpr.dL, this, List.getElem_cons_succ]
    omega
mutual
theorem DExpr.d_le : ∀ x : DExpr, x.d ≤ x.s + 1
  | .mk _ _ _ _ kids => by
    have := DExpr.dL_le kids
    simp only [DExpr.d, DExpr.s]; omega
theorem DExpr.dL_le : ∀ l : List DExpr, DExpr.dL l ≤ l.length + DExpr.sL l
  | [] => by simp [DExpr.dL]
  | x :: l => by
    have h1 := DExpr.d_le x
    have h2 := DExpr.dL_le l
    simp only [DExpr.dL, DExpr.sL, List.length_cons]; omega
end
theorem DExpr.kid_s {x y : DExpr} (h : y ∈ x.fKids) : y.s < x.s := by
  have h1 := sum_mem DExpr.s h
  have h2 := List.length_pos_of_mem h
  rw [x.s_eq, szs_eq]; omega
theorem DExpr.part_s (x : DExpr) {k : Nat} (h : k < x.fKids.length) : k + ((x.fKids.take k).map DExpr.s).sum + x.fKids[k].s + 1 ≤ x.s := by
  have h1 := sum_take_succ DExpr.s x.fKids k h
  have h2 := sum_take_le DExpr.s x.fKids (k + 1)
  rw [x.s_eq, szs_eq]; omega
theorem DExpr.all_s (x : DExpr) : x.fKids.length + ((x.fKids.take x.fKids.length).map DExpr.s).sum = x.s := by
  rw [List.take_length, x.s_eq, szs_eq]
def keep68 : List Nat := [0, 1, 2, 3, 5, 7, 8, 9, 10]
def ib68 : List Nat := [1]
def mk68 : Marks := fun _ => ([], .nil, [])
set_option maxRecDepth 100000 in
theorem ExprSize_step (x : DExpr) (hs : x.s ≤ 4294967296) (hc : ∀ y ∈ x.fKids, Fn0 Tryd.prog 68 [.agg y.c] (I ((y.s : Int) + 1))) : Fn0 Tryd.prog 68 [.agg x.c] (I ((x.s : Int) + 1)) := by
  have hx := x.all_s
  rw [DExpr.c_eq x]
  refine fn0F 19 keep68 ib68 mk68 mix Tryd.func68 rfl (by kernel_rfl) (by simp) fun h => ?_
  simp (maxSteps := 1000000) -dsimp -implicitDefEqProofs only [go_sem, ↓reduceIte, keep68, ib68, mk68, Tryd.f68]
  repeat' (with_reducible first | intro _ | refine And.intro ?_ ?_)
  refine loopF (keep := keep68) (ib := ib68) (mk := mk68) mix (by kernel_rfl) (fun k : Nat => [(1, .ip 5 [x.c] 0 0), (3, I (1 + k + (((x.fKids.take k).map DExpr.s).sum : Int))), (7, sls 5 DExpr.c x.fKids), (8, I x.fKids.length), (9, I k)]) (fun _ => h) (fun k => k ≤ x.fKids.length) (fun k => x.fKids.length - k) 0 (by simp [SatL, tget, Heap.le_refl, DExpr.c_eq]) ?_
  intro k hk
  rcases Nat.lt_or_ge k x.fKids.length with hlt | hge
  · have ea : x.fKids[k]? = some x.fKids[k] := List.getElem?_eq_getElem hlt
    have hp := x.part_s hlt
    have h1 := sum_take_succ DExpr.s x.fKids k hlt
    have hcy := hc x.fKids[k] (List.getElem_mem hlt)
    simp only [DExpr.c_eq] at hcy
    simp (maxSteps := 1000000) -dsimp -implicitDefEqProofs only [go_sem, ↓reduceIte, keep68, ib68, mk68, Tryd.f68, ea, DExpr.c_eq, upd_upd]
    repeat' (with_reducible first | intro _ | refine And.intro ?_ ?_)
    all_goals try omega
    first | refine HFnF.mk (hcy) ?_ | refine CallSF.mk (hcy) ?_ | refine HFnF.mkAt (hcy) ?_ | refine CallSF.mk (FnAt.fn0 (hcy)) ?_
    simp (maxSteps := 1000000) -dsimp -implicitDefEqProofs only [go_sem, ↓reduceIte, keep68, ib68, mk68, Tryd.f68]
    rename_i n hn
    refine ⟨k + 1, ?_⟩
    repeat' (with_reducible refine And.intro ?_ ?_)
    all_goals try (rw [IntWalk.i64_in _ (by omega)]; first | rfl | omega)
    all_goals try omega
    all_goals try (repeat' (with_reducible first | exact Heap.le_refl _ | refine (le_upd (by first | assumption | exact And.right (by assumption) | exact upd_none.2 (by assumption))).2 ?_))
    all_goals try (simp only [DExpr.c_eq]; done)
  · have hk' : k = x.fKids.length := by omega
    subst hk'
    simp (maxSteps := 1000000) -dsimp -implicitDefEqProofs only [go_sem, ↓reduceIte, keep68, ib68, mk68, Tryd.f68, Nat.lt_irrefl]
    omega
theorem ExprSize (x : DExpr) (hs : x.s ≤ 4294967296) : Fn0 Tryd.prog 68 [.agg x.c] (I ((x.s : Int) + 1)) :=
  ExprSize_step x hs fun y hy => ExprSize y (by have := DExpr.kid_s hy; omega)
termination_by SizeOf.sizeOf x
decreasing_by exact DExpr.kid_lt hy
def keep70 : List Nat := [0, 1, 2, 3, 5, 7, 8, 9, 10]
def ib70 : List Nat := [1]
def mk70 : Marks := fun _ => ([], .nil, [])
set_option maxRecDepth 100000 in
theorem ExprDepth_step (x : DExpr) (hs : x.s ≤ 4294967296) (hc : ∀ y ∈ x.fKids, Fn0 Tryd.prog 70 [.agg y.c] (I (y.d : Int))) : Fn0 Tryd.prog 70 [.agg x.c] (I (x.d : Int)) := by
  have hd := x.d_le
  rw [DExpr.d_eq] at hd ⊢
  rw [DExpr.c_eq x]
  refine fn0F 20 keep70 ib70 mk70 mix Tryd.func70 rfl (by kernel_rfl) (by simp) fun h => ?_
  simp (maxSteps := 1000000) -dsimp -implicitDefEqProofs only [go_sem, ↓reduceIte, keep70, ib70, mk70, Tryd.f70]
  repeat' (with_reducible first | intro _ | refine And.intro ?_ ?_)
  refine loopF (keep := keep70) (ib := ib70) (mk := mk70) mix (by kernel_rfl) (fun k : Nat => [(1, .ip 5 [x.c] 0 0), (3, I (DExpr.dL (x.fKids.take k) : Int)), (7, sls 5 DExpr.c x.fKids), (8, I x.fKids.length), (9, I k)]) (fun _ => h) (fun k => k ≤ x.fKids.length) (fun k => x.fKids.length - k) 0 (by simp [SatL, tget, Heap.le_refl, DExpr.c_eq, DExpr.dL]) ?_
  intro k hk
  rcases Nat.lt_or_ge k x.fKids.length with hlt | hge
  · have ea : x.fKids[k]? = some x.fKids[k] := List.getElem?_eq_getElem hlt
    have h1 := DExpr.dL_take hlt
    have hcy := hc x.fKids[k] (List.getElem_mem hlt)
    simp only [DExpr.c_eq] at hcy
    simp (maxSteps := 1000000) -dsimp -implicitDefEqProofs only [go_sem, ↓reduceIte, keep70, ib70, mk70, Tryd.f70, ea, DExpr.c_eq, upd_upd]
    repeat' (with_reducible first | intro _ | refine And.intro ?_ ?_)
    all_goals try omega
    first | refine HFnF.mk (hcy) ?_ | refine CallSF.mk (hcy) ?_ | refine HFnF.mkAt (hcy) ?_ | refine CallSF.mk (FnAt.fn0 (hcy)) ?_
    simp (maxSteps := 1000000) -dsimp -implicitDefEqProofs only [go_sem, ↓reduceIte, keep70, ib70, mk70, Tryd.f70]
    repeat' (with_reducible first | intro _ | refine And.intro ?_ ?_)
    all_goals try rfl
    rename_i n hn
    refine ⟨k + 1, ?_⟩
    repeat' (with_reducible refine And.intro ?_ ?_)
    all_goals try (rw [IntWalk.i64_in _ (by omega)]; first | rfl | omega)
    all_goals try omega
    all_goals try (repeat' (with_reducible first | exact Heap.le_refl _ | refine (le_upd (by first | assumption | exact And.right (by assumption) | exact upd_none.2 (by assumption))).2 ?_))
    all_goals try (simp only [DExpr.c_eq]; done)
  · have hk' : k = x.fKids.length := by omega
    subst hk'
    simp (maxSteps := 1000000) -dsimp -implicitDefEqProofs only [go_sem, ↓reduceIte, keep70, ib70, mk70, Tryd.f70, Nat.lt_irrefl]
    rw [List.take_length, IntWalk.i64_in _ (by omega)]; omega
theorem ExprDepth (x : DExpr) (hs : x.s ≤ 4294967296) : Fn0 Tryd.prog 70 [.agg x.c] (I (x.d : Int)) :=
  ExprDepth_step x hs fun y hy => ExprDepth y (by have := DExpr.kid_s hy; omega)
termination_by SizeOf.sizeOf x
decreasing_by exact DExpr.kid_lt hy
def keep58 : List Nat := [0, 1, 4, 5, 18]
def ib58 : List Nat := []
def mk58 : Marks := fun _ => ([], .nil, [])
set_option maxRecDepth 100000 in
theorem l02Left_step (x : DExpr) (left : Int) (h0 : 0 ≤ left) (h9 : left ≤ 4294967296) (hs : x.s ≤ 4294967296) (hc : ∀ y ∈ x.fKids, ∀ left : Int, 0 ≤ left → left ≤ 4294967296 → Fn0 Tryd.prog 58 [.ip 5 [y.c] 0 0, I left] (I (lft left (y.s + 1)))) : Fn0 Tryd.prog 58 [.ip 5 [x.c] 0 0, I left] (I (lft left (x.s + 1))) := by
  have hx := x.all_s
  rw [DExpr.c_eq x]
  refine fn0F 30 keep58 ib58 mk58 mix Tryd.func58 rfl (by kernel_rfl) (by simp) fun h => ?_
  simp (maxSteps := 1000000) -dsimp -implicitDefEqProofs only [go_sem, ↓reduceIte, keep58, ib58, mk58, Tryd.f58]
  repeat' (with_reducible first | intro _ | refine And.intro ?_ ?_)
  refine loopF (keep := keep58) (ib := ib58) (mk := mk58) mix (by kernel_rfl) (fun k : Nat => [(0, .ip 5 [x.c] 0 0), (1, I (lft left (1 + k + ((x.fKids.take k).map DExpr.s).sum))), (5, I k)]) (fun _ => h) (fun k => k ≤ x.fKids.length) (fun k => x.fKids.length - k) 0 (by simp [SatL, tget, Heap.le_refl, DExpr.c_eq]; rw [IntWalk.i64_in _ (by omega)]; unfold lft; split <;> omega) ?_
  intro k hk
  rcases Nat.lt_or_ge k x.fKids.length with hlt | hge
  · have hp := x.part_s hlt
    have h1 := sum_take_succ DExpr.s x.fKids k hlt
    rcases lft_cases left (1 + k + ((x.fKids.take k).map DExpr.s).sum) with ⟨e, hl⟩ | ⟨e, hl⟩
    · rw [e, DExpr.c_eq x]
      simp (maxSteps := 1000000) -dsimp -implicitDefEqProofs only [go_sem, ↓reduceIte, keep58, ib58, mk58, Tryd.f58]
      repeat' (with_reducible first | intro _ | refine And.intro ?_ ?_)
      all_goals try omega
      exact (lft_neg (by omega)).symm
    · rw [e, DExpr.c_eq x]
      simp (maxSteps := 1000000) -dsimp -implicitDefEqProofs only [go_sem, ↓reduceIte, keep58, ib58, mk58, Tryd.f58]
      repeat' (with_reducible first | intro _ | refine And.intro ?_ ?_)
      all_goals try omega
      first | refine CallSF.mk ((hc x.fKids[k] (List.getElem_mem hlt) _ hl (by omega)).sub (by repeat' (first | exact SubL.nil | refine SubL.cons ?_ ?_ | exact Sub.refl _ | (rw [DExpr.c_eq]; exact Sub.refl _) | exact Sub.ipAt rfl rfl rfl | exact Sub.ip (map_get (by omega)) (by simp) | exact Sub.ipAt (map_get (by omega)) rfl rfl | exact Sub.ip (by simp [*]) (by simp) | exact Sub.ipAt (by simp [*]) (by rfl) (by rfl)))) ?_ | refine HFnF.mk ((hc x.fKids[k] (List.getElem_mem hlt) _ hl (by omega)).sub (by repeat' (first | exact SubL.nil | refine SubL.cons ?_ ?_ | exact Sub.refl _ | (rw [DExpr.c_eq]; exact Sub.refl _) | exact Sub.ipAt rfl rfl rfl | exact Sub.ip (map_get (by omega)) (by simp) | exact Sub.ipAt (map_get (by omega)) rfl rfl | exact Sub.ip (by simp [*]) (by simp) | exact Sub.ipAt (by simp [*]) (by rfl) (by rfl)))) ?_
      simp (maxSteps := 1000000) -dsimp -implicitDefEqProofs only [go_sem, ↓reduceIte, keep58, ib58, mk58, Tryd.f58]
      refine ⟨k + 1, ?_⟩
      repeat' (with_reducible refine And.intro ?_ ?_)
      all_goals try (rw [IntWalk.i64_in _ (by omega)]; first | rfl | omega)
      all_goals try omega
      all_goals try (repeat' (with_reducible first | exact Heap.le_refl _ | refine (le_upd (by first | assumption | exact And.right (by assumption) | exact upd_none.2 (by assumption))).2 ?_))
      all_goals try (simp only [DExpr.c_eq]; done)
      all_goals (rw [h1]; unfold lft; split <;> split <;> omega)
  · have hk' : k = x.fKids.length := by omega
    subst hk'
    rw [DExpr.c_eq x]
    simp (maxSteps := 1000000) -dsimp -implicitDefEqProofs only [go_sem, ↓reduceIte, keep58, ib58, mk58, Tryd.f58, Nat.lt_irrefl]
    rw [show 1 + x.fKids.length + ((x.fKids.take x.fKids.length).map DExpr.s).sum = x.s + 1 by omega]
    exact fun _ => rfl
theorem l02Left (x : DExpr) (left : Int) (h0 : 0 ≤ left) (h9 : left ≤ 4294967296) (hs : x.s ≤ 4294967296) : Fn0 Tryd.prog 58 [.ip 5 [x.c] 0 0, I left] (I (lft left (x.s + 1))) :=
  l02Left_step x left h0 h9 hs fun y hy left h0 h9 => l02Left y left h0 h9 (by have := DExpr.kid_s hy; omega)
termination_by SizeOf.sizeOf x
decreasing_by exact DExpr.kid_lt hy
def keep91 : List Nat := [0, 1, 4, 7]
def ib91 : List Nat := []
def mk91 : Marks := fun _ => ([], .nil, [])
theorem l00Max (a b : Int) : Fn0 Tryd.prog 91 [I a, I b] (I (max a b)) := by
  refine fn0F 10 keep91 ib91 mk91 mix Tryd.func91 rfl (by kernel_rfl) (by simp) fun h => ?_
  simp (maxSteps := 1000000) -dsimp -implicitDefEqProofs only [go_sem, ↓reduceIte, keep91, ib91, mk91, Tryd.f91]
  repeat' (with_reducible first | intro _ | refine And.intro ?_ ?_)
  all_goals omega
def keep59 : List Nat := [0, 2, 3, 4, 11]
def ib59 : List Nat := []
def mk59 : Marks := fun _ => ([], .nil, [])
set_option maxRecDepth 100000 in
theorem l02Depth_step (x : DExpr) (hs : x.s ≤ 4294967296) (hc : ∀ y ∈ x.fKids, Fn0 Tryd.prog 59 [.ip 5 [y.c] 0 0] (I (y.d : Int))) : Fn0 Tryd.prog 59 [.ip 5 [x.c] 0 0] (I (x.d : Int)) := by
  have hd := x.d_le
  rw [DExpr.d_eq] at hd ⊢
  rw [DExpr.c_eq x]
  refine fn0F 25 keep59 ib59 mk59 mix Tryd.func59 rfl (by kernel_rfl) (by simp) fun h => ?_
  simp (maxSteps := 1000000) -dsimp -implicitDefEqProofs only [go_sem, ↓reduceIte, keep59, ib59, mk59, Tryd.f59]
  repeat' (with_reducible first | intro _ | refine And.intro ?_ ?_)
  refine loopF (keep := keep59) (ib := ib59) (mk := mk59) mix (by kernel_rfl) (fun k : Nat => [(0, .ip 5 [x.c] 0 0), (3, I (DExpr.dL (x.fKids.take k) : Int)), (4, I k)]) (fun _ => h) (fun k => k ≤ x.fKids.length) (fun k => x.fKids.length - k) 0 (by simp [SatL, tget, Heap.le_refl, DExpr.c_eq, DExpr.dL]) ?_
  intro k hk
  rw [DExpr.c_eq x]
  rcases Nat.lt_or_ge k x.fKids.length with hlt | hge
  · have h1 := DExpr.dL_take hlt
    simp (maxSteps := 1000000) -dsimp -implicitDefEqProofs only [go_sem, ↓reduceIte, keep59, ib59, mk59, Tryd.f59]
    repeat' (with_reducible first | intro _ | refine And.intro ?_ ?_)
    all_goals try omega
    first | refine CallSF.mk ((hc x.fKids[k] (List.getElem_mem hlt)).sub (by repeat' (first | exact SubL.nil | refine SubL.cons ?_ ?_ | exact Sub.refl _ | (rw [DExpr.c_eq]; exact Sub.refl _) | exact Sub.ipAt rfl rfl rfl | exact Sub.ip (map_get (by omega)) (by simp) | exact Sub.ipAt (map_get (by omega)) rfl rfl | exact Sub.ip (by simp [*]) (by simp) | exact Sub.ipAt (by simp [*]) (by rfl) (by rfl)))) ?_ | refine HFnF.mk ((hc x.fKids[k] (List.getElem_mem hlt)).sub (by repeat' (first | exact SubL.nil | refine SubL.cons ?_ ?_ | exact Sub.refl _ | (rw [DExpr.c_eq]; exact Sub.refl _) | exact Sub.ipAt rfl rfl rfl | exact Sub.ip (map_get (by omega)) (by simp) | exact Sub.ipAt (map_get (by omega)) rfl rfl | exact Sub.ip (by simp [*]) (by simp) | exact Sub.ipAt (by simp [*]) (by rfl) (by rfl)))) ?_
    simp (maxSteps := 1000000) -dsimp -implicitDefEqProofs only [go_sem, ↓reduceIte, keep59, ib59, mk59, Tryd.f59]
    first | refine HFnF.mk (l00Max _ _) ?_ | refine CallSF.mk (l00Max _ _) ?_ | refine HFnF.mkAt (l00Max _ _) ?_ | refine CallSF.mk (FnAt.fn0 (l00Max _ _)) ?_
    simp (maxSteps := 1000000) -dsimp -implicitDefEqProofs only [go_sem, ↓reduceIte, keep59, ib59, mk59, Tryd.f59]
    refine ⟨k + 1, ?_⟩
    repeat' (with_reducible refine And.intro ?_ ?_)
    all_goals try (rw [IntWalk.i64_in _ (by omega)]; first | rfl | omega)
    all_goals try omega
    all_goals try (repeat' (with_reducible first | exact Heap.le_refl _ | refine (le_upd (by first | assumption | exact And.right (by assumption) | exact upd_none.2 (by assumption))).2 ?_))
    all_goals try (simp only [DExpr.c_eq]; done)
  · have hk' : k = x.fKids.length := by omega
    subst hk'
    simp (maxSteps := 1000000) -dsimp -implicitDefEqProofs only [go_sem, ↓reduceIte, keep59, ib59, mk59, Tryd.f59, Nat.lt_irrefl]
    intro _
    rw [List.take_length, IntWalk.i64_in _ (by omega)]; omega
theorem l02Depth (x : DExpr) (hs : x.s ≤ 4294967296) : Fn0 Tryd.prog 59 [.ip 5 [x.c] 0 0] (I (x.d : Int)) :=
  l02Depth_step x hs fun y hy => l02Depth y (by have := DExpr.kid_s hy; omega)
termination_by SizeOf.sizeOf x
decreasing_by exact DExpr.kid_lt hy

open Go.Proofs
set_option linter.unusedVariables false
set_option linter.unusedSimpArgs false
def kidsN (k : Int) : Int := if k = 1 ∨ k = 2 then 0 else if k = 3 ∨ k = 4 ∨ k = 5 ∨ k = 6 ∨ k = 9 then 2 else if k = 7 then 1 else if k = 8 then 3 else -1
/-- What is asked of one node. -/
def nodeOK (p : DProgram) (e : DExpr) (vars funcs : Int) : Prop :=
  if e.fKind = 10 ∨ e.fKind = 11 then
    0 ≤ e.fNum ∧ e.fNum ≤ funcs - 1 ∧ ∀ f, p.fFuncs[e.fNum.toNat]? = some f →
      0 ≤ e.fPick ∧ e.fPick ≤ (f.fOuts.length : Int) - 1 ∧ (e.fKids.length : Int) = f.fParams ∧ (e.fKind = 10 → e.fCount = 0) ∧ (e.fKind = 11 → 0 ≤ e.fCount ∧ e.fCount ≤ 8 ∧ (f.fOuts.length : Int) = f.fParams)
  else kidsN e.fKind = e.fKids.length ∧ e.fPick = 0 ∧ e.fCount = 0 ∧ (e.fKind = 1 → Num e.fNum) ∧ (e.fKind = 2 → 0 ≤ e.fNum ∧ e.fNum ≤ vars - 1) ∧ (e.fKind ≠ 1 → e.fKind ≠ 2 → e.fNum = 0)
noncomputable instance (p : DProgram) (e : DExpr) (vars funcs : Int) : Decidable (nodeOK p e vars funcs) := Classical.propDecidable _
def moreV (kind : Int) (i : Nat) (vars : Int) : Int := if kind = 9 ∧ i = 1 then vars + 1 else vars
mutual
def DExpr.ok (p : DProgram) (funcs : Int) : DExpr → Int → Prop
  | .mk a b c d kids, vars => nodeOK p (.mk a b c d kids) vars funcs ∧ DExpr.okL p funcs a kids 0 vars
def DExpr.okL (p : DProgram) (funcs : Int) (kind : Int) : List DExpr → Nat → Int → Prop
  | [], _, _ => True
  | x :: l, i, vars => x.ok p funcs (moreV kind i vars) ∧ DExpr.okL p funcs kind l (i + 1) vars
end
noncomputable instance (p : DProgram) (funcs : Int) (e : DExpr) (vars : Int) : Decidable (e.ok p funcs vars) := Classical.propDecidable _
theorem DExpr.okL_iff (p : DProgram) (funcs kind : Int) : ∀ (l : List DExpr) (i : Nat) (vars : Int), DExpr.okL p funcs kind l i vars ↔ ∀ (k : Nat) (h : k < l.length), l[k].ok p funcs (moreV kind (i + k) vars)
  | [], i, vars => by simp [DExpr.okL]
  | x :: l, i, vars => by
    rw [DExpr.okL, DExpr.okL_iff p funcs kind l (i + 1) vars]
    constructor
    · rintro ⟨h1, h2⟩ k hk
      cases k with
      | zero => exact h1
      | succ k => have := h2 k (by simpa using hk); rw [show i + 1 + k = i + (k + 1) by omega] at this; exact this
    · intro h
      refine ⟨h 0 (by simp), fun k hk => ?_⟩
      have := h (k + 1) (by simpa using hk)
      rw [show i + 1 + k = i + (k + 1) by omega]; exact this
theorem DExpr.ok_iff (p : DProgram) (funcs : Int) (x : DExpr) (vars : Int) : x.ok p funcs vars ↔ nodeOK p x vars funcs ∧ ∀ (k : Nat) (h : k < x.fKids.length), x.fKids[k].ok p funcs (moreV x.fKind k vars) := by
  cases x with
  | mk a b c d kids =>
    rw [DExpr.ok, DExpr.okL_iff]
    simp only [Nat.zero_add, DExpr.fKids, DExpr.fKind]
theorem DProgram.len_s (p : DProgram) : p.fFuncs.length ≤ p.s := by rw [p.s_eq, szs_eq]; omega
theorem DProgram.func_s {p : DProgram} {f : DFunc} (h : f ∈ p.fFuncs) : f.s + p.fFuncs.length ≤ p.s := by
  have := sum_mem DFunc.s h
  rw [p.s_eq, szs_eq]; omega
theorem DFunc.outs_s (f : DFunc) : f.fOuts.length ≤ f.s := by rw [f.s_eq, szs_eq]; omega
theorem DFunc.out_s {f : DFunc} {e : DExpr} (h : e ∈ f.fOuts) : e.s < f.s := by
  have := sum_mem DExpr.s h
  have := List.length_pos_of_mem h
  rw [f.s_eq, szs_eq]; omega
def keep106 : List Nat := [0, 2, 3, 4, 7, 13, 15]
def ib106 : List Nat := []
def mk106 : Marks := fun _ => ([], .nil, [])
theorem l02Kids (k : Int) : Fn0 Tryd.prog 106 [I k] (I (kidsN k)) := by
  refine fn0F 17 keep106 ib106 mk106 mix Tryd.func106 rfl (by kernel_rfl) (by simp) fun h => ?_
  simp (maxSteps := 1000000) -dsimp -implicitDefEqProofs only [go_sem, ↓reduceIte, keep106, ib106, mk106, Tryd.f106]
  repeat' (with_reducible first | intro _ | refine And.intro ?_ ?_)
  all_goals try (first | (simp [kidsN, *]; done) | omega | (grind [kidsN]) | (simp [kidsN]; omega))
theorem nodeOK_call {p : DProgram} {e : DExpr} {vars funcs : Int} (hk : e.fKind = 10 ∨ e.fKind = 11) {f : DFunc} (ef : p.fFuncs[e.fNum.toNat]? = some f) : nodeOK p e vars funcs ↔
    0 ≤ e.fNum ∧ e.fNum ≤ funcs - 1 ∧ 0 ≤ e.fPick ∧ e.fPick ≤ (f.fOuts.length : Int) - 1 ∧ (e.fKids.length : Int) = f.fParams ∧ (e.fKind = 10 → e.fCount = 0) ∧ (e.fKind = 11 → 0 ≤ e.fCount ∧ e.fCount ≤ 8 ∧ (f.fOuts.length : Int) = f.fParams) := by
  unfold nodeOK
  rw [if_pos hk]
  simp [ef]
theorem nodeOK_range {p : DProgram} {e : DExpr} {vars funcs : Int} (hk : e.fKind = 10 ∨ e.fKind = 11) (hr : ¬ (0 ≤ e.fNum ∧ e.fNum ≤ funcs - 1)) : ¬ nodeOK p e vars funcs := by
  unfold nodeOK
  rw [if_pos hk]
  intro h
  exact hr ⟨h.1, h.2.1⟩
theorem nodeOK_plain {p : DProgram} {e : DExpr} {vars funcs : Int} (hk : ¬ (e.fKind = 10 ∨ e.fKind = 11)) : nodeOK p e vars funcs ↔
    kidsN e.fKind = e.fKids.length ∧ e.fPick = 0 ∧ e.fCount = 0 ∧ (e.fKind = 1 → Num e.fNum) ∧ (e.fKind = 2 → 0 ≤ e.fNum ∧ e.fNum ≤ vars - 1) ∧ (e.fKind ≠ 1 → e.fKind ≠ 2 → e.fNum = 0) := by
  unfold nodeOK
  rw [if_neg hk]
def keep92 : List Nat := [0, 1, 2, 3, 8, 9, 21, 29, 62, 67, 114, 118, 119, 126]
def ib92 : List Nat := []
def mk92 : Marks := fun id => match id with | 4 => ([], (.op 0 (.op 1 (.op 2 (.op 3 (.op 4 (.op 5 (.op 6 (.op 7 (.op 8 (.op 9 .nil)))))))))), []) | 5 => ([], (.op 0 (.op 1 (.op 2 (.op 3 (.op 4 (.op 5 (.op 6 (.op 7 (.op 8 (.op 9 (.op 10 (.op 11 (.op 12 (.op 13 (.op 14 (.op 15 (.op 16 (.op 17 (.op 18 (.op 19 (.op 20 (.op 21 (.op 22 (.op 23 .nil)))))))))))))))))))))))), []) | 9 => ([], (.op 0 (.op 1 (.op 2 (.op 3 (.op 4 (.op 5 (.op 6 (.op 7 (.op 8 (.op 9 (.op 10 (.op 11 (.op 12 (.op 13 (.op 14 (.op 15 (.op 16 (.op 17 .nil)))))))))))))))))), []) | 10 => ([], (.op 0 (.op 1 (.op 2 (.op 3 (.op 4 (.op 5 (.op 6 (.op 7 (.op 8 (.op 9 (.op 10 (.op 11 (.op 12 (.op 13 (.op 14 (.op 15 (.op 16 (.op 17 (.op 18 (.op 19 (.op 20 (.op 21 (.op 22 (.op 23 (.op 24 .nil))))))))))))))))))))))))), []) | _ => ([], .nil, [])
set_option maxRecDepth 100000 in
theorem l02Node (p : DProgram) (e : DExpr) (vars funcs : Int) (hv : 0 ≤ vars) (hv2 : vars ≤ 4294967296) (hf0 : 0 ≤ funcs) (hf : funcs ≤ p.fFuncs.length) (hps : p.s ≤ 4294967296) : Fn0 Tryd.prog 92 [.ip 1 [p.c] 0 0, .ip 5 [e.c] 0 0, I vars, I funcs] (.bool (decide (nodeOK p e vars funcs))) := by
  have hl := p.len_s
  have e1 : IntKind.i64.wrap (funcs - 1) = funcs - 1 := IntWalk.i64_in _ (by omega)
  have e2 : IntKind.i64.wrap (vars - 1) = vars - 1 := IntWalk.i64_in _ (by omega)
  rw [DExpr.c_eq]
  simp only [DProgram.c_eq]
  by_cases hk : e.fKind = 10 ∨ e.fKind = 11
  · by_cases hr : 0 ≤ e.fNum ∧ e.fNum ≤ funcs - 1
    · obtain ⟨f, ef⟩ : ∃ f, p.fFuncs[e.fNum.toNat]? = some f := ⟨_, List.getElem?_eq_getElem (by omega)⟩
      have hn := nodeOK_call (vars := vars) (funcs := funcs) hk ef
      have hfs := DProgram.func_s (List.mem_of_getElem? ef)
      have hos := f.outs_s
      refine fn0F 140 keep92 ib92 mk92 mix Tryd.func92 rfl (by kernel_rfl) (by simp) fun h => ?_
      simp (maxSteps := 1000000) -dsimp -implicitDefEqProofs only [go_sem, ↓reduceIte, keep92, ib92, mk92, Tryd.f92, e1, e2]
      repeat' (with_reducible first | intro _ | refine And.intro ?_ ?_)
      all_goals try omega
      all_goals (first | refine HFnF.mk (l00In e.fNum 0 (funcs - 1)) ?_ | refine CallSF.mk (l00In e.fNum 0 (funcs - 1)) ?_)
      all_goals simp (maxSteps := 1000000) -dsimp -implicitDefEqProofs only [go_sem, ↓reduceIte, keep92, ib92, mk92, Tryd.f92, ef, DFunc.c_eq]
      all_goals repeat' (with_reducible first | intro _ | refine And.intro ?_ ?_)
      all_goals try omega
      all_goals try simp (disch := omega) only [IntWalk.i64_in]
      all_goals (first | refine HFnF.mk (l00In e.fPick 0 (f.fOuts.length - 1)) ?_ | refine CallSF.mk (l00In e.fPick 0 (f.fOuts.length - 1)) ?_)
      all_goals simp (maxSteps := 1000000) -dsimp -implicitDefEqProofs only [go_sem, ↓reduceIte, keep92, ib92, mk92, Tryd.f92, ef, DFunc.c_eq]
      all_goals repeat' (with_reducible first | intro _ | refine And.intro ?_ ?_)
      all_goals try omega
      all_goals try (first | (simp [*]; done) | omega | grind)
      first | refine HFnF.mk (l00In e.fCount 0 8) ?_ | refine CallSF.mk (l00In e.fCount 0 8) ?_ | refine HFnF.mkAt (l00In e.fCount 0 8) ?_ | refine CallSF.mk (FnAt.fn0 (l00In e.fCount 0 8)) ?_
      simp (maxSteps := 1000000) -dsimp -implicitDefEqProofs only [go_sem, ↓reduceIte, keep92, ib92, mk92, Tryd.f92, ef, DFunc.c_eq]
      repeat' (with_reducible first | intro _ | refine And.intro ?_ ?_)
      all_goals try (first | (simp [*]; done) | omega | grind)
    · have hn := nodeOK_range (p := p) (vars := vars) hk hr
      refine fn0F 140 keep92 ib92 mk92 mix Tryd.func92 rfl (by kernel_rfl) (by simp) fun h => ?_
      simp (maxSteps := 1000000) -dsimp -implicitDefEqProofs only [go_sem, ↓reduceIte, keep92, ib92, mk92, Tryd.f92, e1, e2]
      repeat' (with_reducible first | intro _ | refine And.intro ?_ ?_)
      all_goals try omega
      all_goals (first | refine HFnF.mk (l00In e.fNum 0 (funcs - 1)) ?_ | refine CallSF.mk (l00In e.fNum 0 (funcs - 1)) ?_)
      all_goals simp (maxSteps := 1000000) -dsimp -implicitDefEqProofs only [go_sem, ↓reduceIte, keep92, ib92, mk92, Tryd.f92]
      all_goals repeat' (with_reducible first | intro _ | refine And.intro ?_ ?_)
      all_goals try (first | (simp [*]; done) | omega | grind)
  · have hn := nodeOK_plain (p := p) (vars := vars) (funcs := funcs) hk
    refine fn0F 140 keep92 ib92 mk92 mix Tryd.func92 rfl (by kernel_rfl) (by simp) fun h => ?_
    simp (maxSteps := 1000000) -dsimp -implicitDefEqProofs only [go_sem, ↓reduceIte, keep92, ib92, mk92, Tryd.f92, e1, e2]
    repeat' (with_reducible first | intro _ | refine And.intro ?_ ?_)
    all_goals try omega
    first | refine HFnF.mk (l02Kids e.fKind) ?_ | refine CallSF.mk (l02Kids e.fKind) ?_ | refine HFnF.mkAt (l02Kids e.fKind) ?_ | refine CallSF.mk (FnAt.fn0 (l02Kids e.fKind)) ?_
    simp (maxSteps := 1000000) -dsimp -implicitDefEqProofs only [go_sem, ↓reduceIte, keep92, ib92, mk92, Tryd.f92]
    repeat' (with_reducible first | intro _ | refine And.intro ?_ ?_)
    all_goals try (first | (simp [*]; done) | omega | grind)
    · first | refine HFnF.mk (l01Number e.fNum) ?_ | refine CallSF.mk (l01Number e.fNum) ?_ | refine HFnF.mkAt (l01Number e.fNum) ?_ | refine CallSF.mk (FnAt.fn0 (l01Number e.fNum)) ?_
      simp (maxSteps := 1000000) -dsimp -implicitDefEqProofs only [go_sem, ↓reduceIte, keep92, ib92, mk92, Tryd.f92]
      all_goals try (first | (simp [*]; done) | omega | grind)
    · all_goals try simp (disch := omega) only [IntWalk.i64_in]
      first | refine HFnF.mk (l00In e.fNum 0 (vars - 1)) ?_ | refine CallSF.mk (l00In e.fNum 0 (vars - 1)) ?_ | refine HFnF.mkAt (l00In e.fNum 0 (vars - 1)) ?_ | refine CallSF.mk (FnAt.fn0 (l00In e.fNum 0 (vars - 1))) ?_
      simp (maxSteps := 1000000) -dsimp -implicitDefEqProofs only [go_sem, ↓reduceIte, keep92, ib92, mk92, Tryd.f92]
      all_goals try (first | (simp [*]; done) | omega | grind)
def keep71 : List Nat := [0, 1, 2, 3, 4, 6, 7, 8, 9, 10, 11, 12, 25, 26, 38, 52, 68, 69, 81, 82, 94, 95, 104, 125, 152, 154, 155, 156, 157, 168, 175]
def ib71 : List Nat := [3, 4]
def mk71 : Marks := fun _ => ([], .nil, [])
open Go.Proofs
set_option linter.unusedVariables false
set_option linter.unusedSimpArgs false
def keep60 : List Nat := [0, 1, 2, 3, 8, 9, 10, 16, 23, 35, 48]
def ib60 : List Nat := []
def mk60 : Marks := fun _ => ([], .nil, [])
set_option maxRecDepth 100000 in
theorem l02Tree_step (p : DProgram) (e : DExpr) (vars funcs : Int) (hv : 0 ≤ vars) (hv2 : vars + e.s ≤ 4294967296) (hf0 : 0 ≤ funcs) (hf : funcs ≤ p.fFuncs.length) (hps : p.s ≤ 4294967296)
    (hc : ∀ y ∈ e.fKids, ∀ vars : Int, 0 ≤ vars → vars + y.s ≤ 4294967296 → Fn0 Tryd.prog 60 [.ip 1 [p.c] 0 0, .ip 5 [y.c] 0 0, I vars, I funcs] (.bool (decide (y.ok p funcs vars)))) :
    Fn0 Tryd.prog 60 [.ip 1 [p.c] 0 0, .ip 5 [e.c] 0 0, I vars, I funcs] (.bool (decide (e.ok p funcs vars))) := by
  have hok := DExpr.ok_iff p funcs e vars
  simp only [DExpr.c_eq, DProgram.c_eq]
  refine fn0F 49 keep60 ib60 mk60 mix Tryd.func60 rfl (by kernel_rfl) (by simp) fun h => ?_
  simp (maxSteps := 1000000) -dsimp -implicitDefEqProofs only [go_sem, ↓reduceIte, keep60, ib60, mk60, Tryd.f60]
  first | refine CallSF.mk ((l02Node p e vars funcs hv (by omega) hf0 hf hps).sub (by repeat' (first | exact SubL.nil | refine SubL.cons ?_ ?_ | exact Sub.refl _ | (rw [DExpr.c_eq]; exact Sub.refl _) | exact Sub.ipAt rfl rfl rfl | exact Sub.ip (map_get (by omega)) (by simp) | exact Sub.ipAt (map_get (by omega)) rfl rfl | exact Sub.ip (by simp [*]) (by simp) | exact Sub.ipAt (by simp [*]) (by rfl) (by rfl)))) ?_ | refine HFnF.mk ((l02Node p e vars funcs hv (by omega) hf0 hf hps).sub (by repeat' (first | exact SubL.nil | refine SubL.cons ?_ ?_ | exact Sub.refl _ | (rw [DExpr.c_eq]; exact Sub.refl _) | exact Sub.ipAt rfl rfl rfl | exact Sub.ip (map_get (by omega)) (by simp) | exact Sub.ipAt (map_get (by omega)) rfl rfl | exact Sub.ip (by simp [*]) (by simp) | exact Sub.ipAt (by simp [*]) (by rfl) (by rfl)))) ?_
  simp (maxSteps := 1000000) -dsimp -implicitDefEqProofs only [go_sem, ↓reduceIte, keep60, ib60, mk60, Tryd.f60]
  repeat' (with_reducible first | intro _ | refine And.intro ?_ ?_)
  · rename_i hn
    exact (decide_eq_false fun q => hn (hok.1 q).1).symm
  · rename_i hn
    refine loopF (keep := keep60) (ib := ib60) (mk := mk60) mix (by kernel_rfl) (fun k : Nat => [(0, .ip 1 [p.c] 0 0), (1, .ip 5 [e.c] 0 0), (2, I vars), (3, I funcs), (9, I k)]) (fun _ => h) (fun k => k ≤ e.fKids.length ∧ ∀ (j : Nat) (hj : j < e.fKids.length), j < k → e.fKids[j].ok p funcs (moreV e.fKind j vars)) (fun k => e.fKids.length - k) 0 (by simp [SatL, tget, Heap.le_refl, DExpr.c_eq, DProgram.c_eq]) ?_
    intro k ⟨hk, hp⟩
    simp only [DExpr.c_eq, DProgram.c_eq]
    rcases Nat.lt_or_ge k e.fKids.length with hlt | hge
    · have hs1 := DExpr.kid_s (List.getElem_mem hlt)
      have nx (q : e.fKids[k].ok p funcs (moreV e.fKind k vars)) : ∀ (j : Nat) (hj : j < e.fKids.length), j < k + 1 → e.fKids[j].ok p funcs (moreV e.fKind j vars) := by
        intro j hj hjk
        rcases Nat.lt_succ_iff_lt_or_eq.1 hjk with h1 | rfl
        · exact hp j hj h1
        · exact q
      have no (q : ¬ e.fKids[k].ok p funcs (moreV e.fKind k vars)) : false = decide (e.ok p funcs vars) := (decide_eq_false fun z => q ((hok.1 z).2 k hlt)).symm
      simp (maxSteps := 1000000) -dsimp -implicitDefEqProofs only [go_sem, ↓reduceIte, keep60, ib60, mk60, Tryd.f60]
      repeat' (with_reducible first | intro _ | refine And.intro ?_ ?_)
      all_goals try omega
      · have em : moreV e.fKind k vars = vars + 1 := if_pos ⟨by assumption, by omega⟩
        rw [em] at nx no
        all_goals try simp (disch := omega) only [IntWalk.i64_in]
        first | refine CallSF.mk ((hc e.fKids[k] (List.getElem_mem hlt) (vars + 1) (by omega) (by omega)).sub (by repeat' (first | exact SubL.nil | refine SubL.cons ?_ ?_ | exact Sub.refl _ | (rw [DExpr.c_eq]; exact Sub.refl _) | exact Sub.ipAt rfl rfl rfl | exact Sub.ip (map_get (by omega)) (by simp) | exact Sub.ipAt (map_get (by omega)) rfl rfl | exact Sub.ip (by simp [*]) (by simp) | exact Sub.ipAt (by simp [*]) (by rfl) (by rfl)))) ?_ | refine HFnF.mk ((hc e.fKids[k] (List.getElem_mem hlt) (vars + 1) (by omega) (by omega)).sub (by repeat' (first | exact SubL.nil | refine SubL.cons ?_ ?_ | exact Sub.refl _ | (rw [DExpr.c_eq]; exact Sub.refl _) | exact Sub.ipAt rfl rfl rfl | exact Sub.ip (map_get (by omega)) (by simp) | exact Sub.ipAt (map_get (by omega)) rfl rfl | exact Sub.ip (by simp [*]) (by simp) | exact Sub.ipAt (by simp [*]) (by rfl) (by rfl)))) ?_
        simp (maxSteps := 1000000) -dsimp -implicitDefEqProofs only [go_sem, ↓reduceIte, keep60, ib60, mk60, Tryd.f60]
        repeat' (with_reducible first | intro _ | refine And.intro ?_ ?_)
        · exact no (by assumption)
        · refine ⟨k + 1, ?_⟩
          repeat' (with_reducible refine And.intro ?_ ?_)
          all_goals try (rw [IntWalk.i64_in _ (by omega)]; first | rfl | omega)
          all_goals try omega
          all_goals try (repeat' (with_reducible first | exact Heap.le_refl _ | refine (le_upd (by first | assumption | exact And.right (by assumption) | exact upd_none.2 (by assumption))).2 ?_))
          all_goals try (simp only [DExpr.c_eq, DProgram.c_eq]; done)
          exact nx (by assumption)
      all_goals
        have em : moreV e.fKind k vars = vars := if_neg (by omega)
        rw [em] at nx no
        first | refine CallSF.mk ((hc e.fKids[k] (List.getElem_mem hlt) vars (by omega) (by omega)).sub (by repeat' (first | exact SubL.nil | refine SubL.cons ?_ ?_ | exact Sub.refl _ | (rw [DExpr.c_eq]; exact Sub.refl _) | exact Sub.ipAt rfl rfl rfl | exact Sub.ip (map_get (by omega)) (by simp) | exact Sub.ipAt (map_get (by omega)) rfl rfl | exact Sub.ip (by simp [*]) (by simp) | exact Sub.ipAt (by simp [*]) (by rfl) (by rfl)))) ?_ | refine HFnF.mk ((hc e.fKids[k] (List.getElem_mem hlt) vars (by omega) (by omega)).sub (by repeat' (first | exact SubL.nil | refine SubL.cons ?_ ?_ | exact Sub.refl _ | (rw [DExpr.c_eq]; exact Sub.refl _) | exact Sub.ipAt rfl rfl rfl | exact Sub.ip (map_get (by omega)) (by simp) | exact Sub.ipAt (map_get (by omega)) rfl rfl | exact Sub.ip (by simp [*]) (by simp) | exact Sub.ipAt (by simp [*]) (by rfl) (by rfl)))) ?_
        simp (maxSteps := 1000000) -dsimp -implicitDefEqProofs only [go_sem, ↓reduceIte, keep60, ib60, mk60, Tryd.f60]
        repeat' (with_reducible first | intro _ | refine And.intro ?_ ?_)
        · exact no (by assumption)
        · refine ⟨k + 1, ?_⟩
          repeat' (with_reducible refine And.intro ?_ ?_)
          all_goals try (rw [IntWalk.i64_in _ (by omega)]; first | rfl | omega)
          all_goals try omega
          all_goals try (repeat' (with_reducible first | exact Heap.le_refl _ | refine (le_upd (by first | assumption | exact And.right (by assumption) | exact upd_none.2 (by assumption))).2 ?_))
          all_goals try (simp only [DExpr.c_eq, DProgram.c_eq]; done)
          exact nx (by assumption)
    · have hk' : k = e.fKids.length := by omega
      subst hk'
      simp (maxSteps := 1000000) -dsimp -implicitDefEqProofs only [go_sem, ↓reduceIte, keep60, ib60, mk60, Tryd.f60, Nat.lt_irrefl]
      exact fun _ => (decide_eq_true (hok.2 ⟨hn, fun j hj => hp j hj hj⟩)).symm
theorem l02Tree (p : DProgram) (e : DExpr) (vars funcs : Int) (hv : 0 ≤ vars) (hv2 : vars + e.s ≤ 4294967296) (hf0 : 0 ≤ funcs) (hf : funcs ≤ p.fFuncs.length) (hps : p.s ≤ 4294967296) :
    Fn0 Tryd.prog 60 [.ip 1 [p.c] 0 0, .ip 5 [e.c] 0 0, I vars, I funcs] (.bool (decide (e.ok p funcs vars))) :=
  l02Tree_step p e vars funcs hv hv2 hf0 hf hps fun y hy vars hv hv2 => l02Tree p y vars funcs hv hv2 hf0 hf hps
termination_by SizeOf.sizeOf e
decreasing_by exact DExpr.kid_lt hy
open Go.Proofs
set_option linter.unusedVariables false
set_option linter.unusedSimpArgs false
set_option maxHeartbeats 8000000 in
set_option maxRecDepth 100000 in
theorem isFormed_plain (p : DProgram) (e : DExpr) (vars funcs : Int) (hv : 0 ≤ vars) (hv2 : vars + e.s ≤ 4294967296) (hf0 : 0 ≤ funcs) (hf : funcs ≤ p.fFuncs.length) (hps : p.s ≤ 4294967296)
    (hc : ∀ y ∈ e.fKids, ∀ vars : Int, 0 ≤ vars → vars + y.s ≤ 4294967296 → Fn0 Tryd.prog 71 [.agg [sls 3 DFunc.c p.fFuncs, I funcs], .agg y.c, I vars] (.bool (decide (y.ok p funcs vars)))) (hk : ¬ (e.fKind = 10 ∨ e.fKind = 11)) :
    Fn0 Tryd.prog 71 [.agg [sls 3 DFunc.c p.fFuncs, I funcs], .agg e.c, I vars] (.bool (decide (e.ok p funcs vars))) := by
  have hok := DExpr.ok_iff p funcs e vars
  have hl := p.len_s
  have e1 : IntKind.i64.wrap (funcs - 1) = funcs - 1 := IntWalk.i64_in _ (by omega)
  have e2 : IntKind.i64.wrap (vars - 1) = vars - 1 := IntWalk.i64_in _ (by omega)
  simp only [DExpr.c_eq]
  have no1 (hk : ¬ (e.fKind = 10 ∨ e.fKind = 11)) (q : ¬ (kidsN e.fKind = e.fKids.length ∧ e.fPick = 0 ∧ e.fCount = 0 ∧ (e.fKind = 1 → Num e.fNum) ∧ (e.fKind = 2 → 0 ≤ e.fNum ∧ e.fNum ≤ vars - 1) ∧ (e.fKind ≠ 1 → e.fKind ≠ 2 → e.fNum = 0))) : false = decide (e.ok p funcs vars) :=
    (decide_eq_false fun z => q ((nodeOK_plain hk).1 (hok.1 z).1)).symm
  have yes1 (hk : ¬ (e.fKind = 10 ∨ e.fKind = 11)) (q : kidsN e.fKind = e.fKids.length ∧ e.fPick = 0 ∧ e.fCount = 0 ∧ (e.fKind = 1 → Num e.fNum) ∧ (e.fKind = 2 → 0 ≤ e.fNum ∧ e.fNum ≤ vars - 1) ∧ (e.fKind ≠ 1 → e.fKind ≠ 2 → e.fNum = 0)) : nodeOK p e vars funcs := (nodeOK_plain hk).2 q
  refine fn0F 177 keep71 ib71 mk71 mix Tryd.func71 rfl (by kernel_rfl) (by simp) fun h => ?_
  simp (maxSteps := 1000000) -dsimp -implicitDefEqProofs only [go_sem, ↓reduceIte, keep71, ib71, mk71, Tryd.f71, e1, e2]
  repeat' (with_reducible first | intro _ | refine And.intro ?_ ?_)
  all_goals try omega
  all_goals try (refine no1 (by omega) ?_; simp only [kidsN]; grind)
  · first | refine HFnF.mk (isNumber e.fNum) ?_ | refine CallSF.mk (isNumber e.fNum) ?_ | refine HFnF.mkAt (isNumber e.fNum) ?_ | refine CallSF.mk (FnAt.fn0 (isNumber e.fNum)) ?_
    simp (maxSteps := 1000000) -dsimp -implicitDefEqProofs only [go_sem, ↓reduceIte, keep71, ib71, mk71, Tryd.f71]
    rw [decide_eq_decide, hok, nodeOK_plain hk]
    have : e.fKids.length = 0 := by omega
    constructor
    · intro q
      exact ⟨by simp only [kidsN]; grind, fun k hk => by omega⟩
    · intro q
      grind
  · first | refine HFnF.mk (within e.fNum 0 (vars - 1)) ?_ | refine CallSF.mk (within e.fNum 0 (vars - 1)) ?_ | refine HFnF.mkAt (within e.fNum 0 (vars - 1)) ?_ | refine CallSF.mk (FnAt.fn0 (within e.fNum 0 (vars - 1))) ?_
    simp (maxSteps := 1000000) -dsimp -implicitDefEqProofs only [go_sem, ↓reduceIte, keep71, ib71, mk71, Tryd.f71]
    rw [decide_eq_decide, hok, nodeOK_plain hk]
    have : e.fKids.length = 0 := by omega
    constructor
    · intro q
      exact ⟨by simp only [kidsN]; grind, fun k hk => by omega⟩
    · intro q
      grind
  all_goals
    have hn := yes1 hk (by simp only [kidsN]; grind)
    clear no1 yes1
    refine loopF (keep := keep71) (ib := ib71) (mk := mk71) mix (by kernel_rfl) (fun k : Nat => [(2, I vars), (3, .ip 2 [[sls 3 DFunc.c p.fFuncs, I funcs]] 0 0), (4, .ip 5 [e.c] 0 0), (154, sls 5 DExpr.c e.fKids), (155, I e.fKids.length), (156, I k)]) (fun _ => h) (fun k => k ≤ e.fKids.length ∧ ∀ (j : Nat) (hj : j < e.fKids.length), j < k → e.fKids[j].ok p funcs (moreV e.fKind j vars)) (fun k => e.fKids.length - k) 0 (by refine ⟨by simp [SatL, tget, DExpr.c_eq], by repeat' (with_reducible first | exact Heap.le_refl _ | refine (le_upd (by first | assumption | exact And.right (by assumption) | exact upd_none.2 (by assumption))).2 ?_), by simp⟩) ?_
    intro k ⟨hk, hp⟩
    simp only [DExpr.c_eq]
    rcases Nat.lt_or_ge k e.fKids.length with hlt | hge
    · have hs1 := DExpr.kid_s (List.getElem_mem hlt)
      have nx (q : e.fKids[k].ok p funcs (moreV e.fKind k vars)) : ∀ (j : Nat) (hj : j < e.fKids.length), j < k + 1 → e.fKids[j].ok p funcs (moreV e.fKind j vars) := by
        intro j hj hjk
        rcases Nat.lt_succ_iff_lt_or_eq.1 hjk with h1 | rfl
        · exact hp j hj h1
        · exact q
      have no (q : ¬ e.fKids[k].ok p funcs (moreV e.fKind k vars)) : false = decide (e.ok p funcs vars) := (decide_eq_false fun z => q ((hok.1 z).2 k hlt)).symm
      have ea : e.fKids[k]? = some e.fKids[k] := List.getElem?_eq_getElem hlt
      rcases Decidable.em (e.fKind = 9 ∧ k = 1) with e9 | e9
      · have em : moreV e.fKind k vars = vars + 1 := if_pos e9
        rw [em] at nx no
        have hcy := hc e.fKids[k] (List.getElem_mem hlt) (vars + 1) (by omega) (by omega)
        simp only [DExpr.c_eq] at hcy
        simp (maxSteps := 1000000) -dsimp -implicitDefEqProofs only [go_sem, ↓reduceIte, keep71, ib71, mk71, Tryd.f71, ea, DExpr.c_eq, upd_upd]
        repeat' (with_reducible first | intro _ | refine And.intro ?_ ?_)
        all_goals try omega
        all_goals try simp (disch := omega) only [IntWalk.i64_in]
        all_goals (first | refine HFnF.mk (hcy) ?_ | refine CallSF.mk (hcy) ?_)
        all_goals simp (maxSteps := 1000000) -dsimp -implicitDefEqProofs only [go_sem, ↓reduceIte, keep71, ib71, mk71, Tryd.f71]
        all_goals repeat' (with_reducible first | intro _ | refine And.intro ?_ ?_)
        all_goals first | exact no (by assumption) | exact Heap.le_refl _ | skip
        all_goals try (exact (le_upd (by assumption)).2 (Heap.le_refl _))
        all_goals
          refine ⟨k + 1, ?_⟩
          repeat' (with_reducible refine And.intro ?_ ?_)
          all_goals try (rw [IntWalk.i64_in _ (by omega)]; first | rfl | omega)
          all_goals try omega
          all_goals try (repeat' (with_reducible first | exact Heap.le_refl _ | refine (le_upd (by first | assumption | exact And.right (by assumption) | exact upd_none.2 (by assumption))).2 ?_))
          all_goals try (simp only [DExpr.c_eq]; done)
          exact nx (by assumption)
      · have em : moreV e.fKind k vars = vars := if_neg e9
        rw [em] at nx no
        have hcy := hc e.fKids[k] (List.getElem_mem hlt) vars (by omega) (by omega)
        simp only [DExpr.c_eq] at hcy
        simp (maxSteps := 1000000) -dsimp -implicitDefEqProofs only [go_sem, ↓reduceIte, keep71, ib71, mk71, Tryd.f71, ea, DExpr.c_eq, upd_upd]
        repeat' (with_reducible first | intro _ | refine And.intro ?_ ?_)
        all_goals try omega
        all_goals (first | refine HFnF.mk (hcy) ?_ | refine CallSF.mk (hcy) ?_)
        all_goals simp (maxSteps := 1000000) -dsimp -implicitDefEqProofs only [go_sem, ↓reduceIte, keep71, ib71, mk71, Tryd.f71]
        all_goals repeat' (with_reducible first | intro _ | refine And.intro ?_ ?_)
        all_goals first | exact no (by assumption) | exact Heap.le_refl _ | skip
        all_goals try (exact (le_upd (by assumption)).2 (Heap.le_refl _))
        all_goals
          refine ⟨k + 1, ?_⟩
          repeat' (with_reducible refine And.intro ?_ ?_)
          all_goals try (rw [IntWalk.i64_in _ (by omega)]; first | rfl | omega)
          all_goals try omega
          all_goals try (repeat' (with_reducible first | exact Heap.le_refl _ | refine (le_upd (by first | assumption | exact And.right (by assumption) | exact upd_none.2 (by assumption))).2 ?_))
          all_goals try (simp only [DExpr.c_eq]; done)
          exact nx (by assumption)
    · have hk' : k = e.fKids.length := by omega
      subst hk'
      simp (maxSteps := 1000000) -dsimp -implicitDefEqProofs only [go_sem, ↓reduceIte, keep71, ib71, mk71, Tryd.f71, Nat.lt_irrefl]
      exact (decide_eq_true (hok.2 ⟨hn, fun j hj => hp j hj hj⟩)).symm
end Go.Hl

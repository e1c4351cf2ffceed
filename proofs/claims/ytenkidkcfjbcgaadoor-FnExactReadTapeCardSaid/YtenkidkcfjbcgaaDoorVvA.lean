/-
  Contracts of functions and laws of the layer over the walk.
-/
import Derived.Test.YtenkidkcfjbcgaaDoorHlD
import Derived.Test.YtenkidkcfjbcgaaDoorProg
import Derived.KernelRfl
import Derived.Shelf.Strconv.Itoa4
import Derived.Shelf.Strings.OnBuilder
import Derived.Shelf.LaysM
import Derived.Lib.Split
import Derived.Lib.ParseIntB
import Derived.Lib.ItoaNum
import Derived.Lib.ItoaMem
import Derived.Lib.Join
import Derived.Shelf.Strings.Split
import Derived.Shelf.Strings.Cut
import Derived.Shelf.Strconv.ParseIntPublic10
import Derived.Shelf.Slices.Turned
namespace Go.Hl
open Go.Proofs
set_option linter.unusedVariables false
set_option linter.unusedSimpArgs false
@[go_sem] theorem ty2 : tyR Tryd.prog 2 = some ⟨1, false, 8, [.int .i64 0], .int .i64⟩ := by kernel_rfl
@[go_sem] theorem ty3 : tyR Tryd.prog 3 = some ⟨1, false, 8, [.int .i64 0], .int .i64⟩ := by kernel_rfl
@[go_sem] theorem ty4 : tyR Tryd.prog 4 = some ⟨1, false, 1, [.bool false], .bool⟩ := by kernel_rfl
@[go_sem] theorem ty5 : tyR Tryd.prog 5 = some ⟨1, false, 1, [.int .u8 0], .int .u8⟩ := by kernel_rfl
@[go_sem] theorem ty9 : tyR Tryd.prog 9 = some ⟨1, false, 16, [.str []], .str⟩ := by kernel_rfl
@[go_sem] theorem ty21 : tyR Tryd.prog 21 = some ⟨1, false, 4, [.int .i32 0], .int .i32⟩ := by kernel_rfl
@[go_sem] theorem ty22 : tyR Tryd.prog 22 = some ⟨1, false, 24, [.nilsl], .slice 103⟩ := by kernel_rfl
@[go_sem] theorem ty24 : tyR Tryd.prog 24 = some ⟨1, true, 24, [.nilsl], .st [(0, 22, 1)]⟩ := by kernel_rfl
@[go_sem] theorem ty25 : tyR Tryd.prog 25 = some ⟨1, false, 24, [.nilsl], .slice 27⟩ := by kernel_rfl
@[go_sem] theorem ty27 : tyR Tryd.prog 27 = some ⟨5, true, 56, [.int .i64 0, .int .i64 0, .int .i64 0, .int .i64 0, .nilsl], .st [(0, 2, 1), (1, 2, 1), (2, 2, 1), (3, 2, 1), (4, 25, 1)]⟩ := by kernel_rfl
@[go_sem] theorem ty31 : tyR Tryd.prog 31 = some ⟨1, false, 24, [.nilsl], .slice 74⟩ := by kernel_rfl
@[go_sem] theorem ty33 : tyR Tryd.prog 33 = some ⟨1, true, 24, [.nilsl], .st [(0, 31, 1)]⟩ := by kernel_rfl
@[go_sem] theorem ty35 : tyR Tryd.prog 35 = some ⟨1, false, 24, [.nilsl], .slice 37⟩ := by kernel_rfl
@[go_sem] theorem ty37 : tyR Tryd.prog 37 = some ⟨5, true, 56, [.int .i64 0, .int .i64 0, .int .i64 0, .int .i64 0, .nilsl], .st [(0, 2, 1), (1, 2, 1), (2, 2, 1), (3, 2, 1), (4, 35, 1)]⟩ := by kernel_rfl
@[go_sem] theorem ty44 : tyR Tryd.prog 44 = some ⟨1, false, 24, [.nilsl], .slice 128⟩ := by kernel_rfl
@[go_sem] theorem ty45 : tyR Tryd.prog 45 = some ⟨1, false, 24, [.nilsl], .slice 124⟩ := by kernel_rfl
@[go_sem] theorem ty46 : tyR Tryd.prog 46 = some ⟨1, false, 24, [.nilsl], .slice 2⟩ := by kernel_rfl
@[go_sem] theorem ty48 : tyR Tryd.prog 48 = some ⟨4, true, 80, [.int .i64 0, .nilsl, .nilsl, .nilsl], .st [(0, 2, 1), (1, 44, 1), (2, 45, 1), (3, 46, 1)]⟩ := by kernel_rfl
@[go_sem] theorem ty69 : tyR Tryd.prog 69 = some ⟨1, false, 8, [.nilptr], .ptr 72⟩ := by kernel_rfl
@[go_sem] theorem ty70 : tyR Tryd.prog 70 = some ⟨1, false, 24, [.nilsl], .slice 5⟩ := by kernel_rfl
@[go_sem] theorem ty72 : tyR Tryd.prog 72 = some ⟨2, true, 32, [.nilptr, .nilsl], .st [(0, 69, 1), (1, 70, 1)]⟩ := by kernel_rfl
@[go_sem] theorem ty74 : tyR Tryd.prog 74 = some ⟨3, true, 48, [.str [], .int .i64 0, .nilsl], .st [(0, 9, 1), (1, 2, 1), (2, 35, 1)]⟩ := by kernel_rfl
@[go_sem] theorem ty76 : tyR Tryd.prog 76 = some ⟨1, false, 16, [.nilif], .other⟩ := by kernel_rfl
@[go_sem] theorem ty85 : tyR Tryd.prog 85 = some ⟨5, true, 88, [.int .i64 0, .nilsl, .nilsl, .nilsl, .int .i64 0], .st [(0, 48, 4), (4, 2, 1)]⟩ := by kernel_rfl
@[go_sem] theorem ty86 : tyR Tryd.prog 86 = some ⟨1, false, 24, [.nilsl], .slice 9⟩ := by kernel_rfl
@[go_sem] theorem ty93 : tyR Tryd.prog 93 = some ⟨6, true, 88, [.int .i64 0, .nilsl, .nilsl, .nilsl, .bool false, .bool false], .st [(0, 48, 4), (4, 4, 1), (5, 4, 1)]⟩ := by kernel_rfl
@[go_sem] theorem ty103 : tyR Tryd.prog 103 = some ⟨3, true, 48, [.str [], .int .i64 0, .nilsl], .st [(0, 9, 1), (1, 2, 1), (2, 25, 1)]⟩ := by kernel_rfl
@[go_sem] theorem ty114 : tyR Tryd.prog 114 = some ⟨2, true, 32, [.nilsl, .int .i64 0], .st [(0, 33, 1), (1, 2, 1)]⟩ := by kernel_rfl
@[go_sem] theorem ty120 : tyR Tryd.prog 120 = some ⟨1, false, 8, [.nilptr], .ptr 5⟩ := by kernel_rfl
@[go_sem] theorem ty124 : tyR Tryd.prog 124 = some ⟨2, true, 16, [.int .i64 0, .bool false], .st [(0, 2, 1), (1, 4, 1)]⟩ := by kernel_rfl
@[go_sem] theorem ty128 : tyR Tryd.prog 128 = some ⟨4, true, 32, [.int .i64 0, .int .i64 0, .int .i64 0, .int .i64 0], .st [(0, 2, 1), (1, 2, 1), (2, 2, 1), (3, 2, 1)]⟩ := by kernel_rfl
@[go_sem] theorem ty151 : tyR Tryd.prog 151 = some ⟨24, true, 24, [.int .u8 0, .int .u8 0, .int .u8 0, .int .u8 0, .int .u8 0, .int .u8 0, .int .u8 0, .int .u8 0, .int .u8 0, .int .u8 0, .int .u8 0, .int .u8 0, .int .u8 0, .int .u8 0, .int .u8 0, .int .u8 0, .int .u8 0, .int .u8 0, .int .u8 0, .int .u8 0, .int .u8 0, .int .u8 0, .int .u8 0, .int .u8 0], .arr 24 5⟩ := by kernel_rfl
@[go_sem] theorem ty152 : tyR Tryd.prog 152 = some ⟨1, false, 8, [.int .u64 0], .int .u64⟩ := by kernel_rfl
@[go_sem] theorem ty165 : tyR Tryd.prog 165 = some ⟨20, true, 160, [.int .u64 0, .int .u64 0, .int .u64 0, .int .u64 0, .int .u64 0, .int .u64 0, .int .u64 0, .int .u64 0, .int .u64 0, .int .u64 0, .int .u64 0, .int .u64 0, .int .u64 0, .int .u64 0, .int .u64 0, .int .u64 0, .int .u64 0, .int .u64 0, .int .u64 0, .int .u64 0], .arr 20 152⟩ := by kernel_rfl
@[go_sem] theorem ty166 : tyR Tryd.prog 166 = some ⟨1, false, 4, [.int .u32 0], .int .u32⟩ := by kernel_rfl
@[go_sem] theorem ty167 : tyR Tryd.prog 167 = some ⟨65, true, 65, [.int .u8 0, .int .u8 0, .int .u8 0, .int .u8 0, .int .u8 0, .int .u8 0, .int .u8 0, .int .u8 0, .int .u8 0, .int .u8 0, .int .u8 0, .int .u8 0, .int .u8 0, .int .u8 0, .int .u8 0, .int .u8 0, .int .u8 0, .int .u8 0, .int .u8 0, .int .u8 0, .int .u8 0, .int .u8 0, .int .u8 0, .int .u8 0, .int .u8 0, .int .u8 0, .int .u8 0, .int .u8 0, .int .u8 0, .int .u8 0, .int .u8 0, .int .u8 0, .int .u8 0, .int .u8 0, .int .u8 0, .int .u8 0, .int .u8 0, .int .u8 0, .int .u8 0, .int .u8 0, .int .u8 0, .int .u8 0, .int .u8 0, .int .u8 0, .int .u8 0, .int .u8 0, .int .u8 0, .int .u8 0, .int .u8 0, .int .u8 0, .int .u8 0, .int .u8 0, .int .u8 0, .int .u8 0, .int .u8 0, .int .u8 0, .int .u8 0, .int .u8 0, .int .u8 0, .int .u8 0, .int .u8 0, .int .u8 0, .int .u8 0, .int .u8 0, .int .u8 0], .arr 65 5⟩ := by kernel_rfl
@[go_sem] theorem ty169 : tyR Tryd.prog 169 = some ⟨1, false, 8, [.int .u64 0], .int .u64⟩ := by kernel_rfl
@[go_sem] theorem ty173 : tyR Tryd.prog 173 = some ⟨256, true, 256, [.int .u8 0, .int .u8 0, .int .u8 0, .int .u8 0, .int .u8 0, .int .u8 0, .int .u8 0, .int .u8 0, .int .u8 0, .int .u8 0, .int .u8 0, .int .u8 0, .int .u8 0, .int .u8 0, .int .u8 0, .int .u8 0, .int .u8 0, .int .u8 0, .int .u8 0, .int .u8 0, .int .u8 0, .int .u8 0, .int .u8 0, .int .u8 0, .int .u8 0, .int .u8 0, .int .u8 0, .int .u8 0, .int .u8 0, .int .u8 0, .int .u8 0, .int .u8 0, .int .u8 0, .int .u8 0, .int .u8 0, .int .u8 0, .int .u8 0, .int .u8 0, .int .u8 0, .int .u8 0, .int .u8 0, .int .u8 0, .int .u8 0, .int .u8 0, .int .u8 0, .int .u8 0, .int .u8 0, .int .u8 0, .int .u8 0, .int .u8 0, .int .u8 0, .int .u8 0, .int .u8 0, .int .u8 0, .int .u8 0, .int .u8 0, .int .u8 0, .int .u8 0, .int .u8 0, .int .u8 0, .int .u8 0, .int .u8 0, .int .u8 0, .int .u8 0, .int .u8 0, .int .u8 0, .int .u8 0, .int .u8 0, .int .u8 0, .int .u8 0, .int .u8 0, .int .u8 0, .int .u8 0, .int .u8 0, .int .u8 0, .int .u8 0, .int .u8 0, .int .u8 0, .int .u8 0, .int .u8 0, .int .u8 0, .int .u8 0, .int .u8 0, .int .u8 0, .int .u8 0, .int .u8 0, .int .u8 0, .int .u8 0, .int .u8 0, .int .u8 0, .int .u8 0, .int .u8 0, .int .u8 0, .int .u8 0, .int .u8 0, .int .u8 0, .int .u8 0, .int .u8 0, .int .u8 0, .int .u8 0, .int .u8 0, .int .u8 0, .int .u8 0, .int .u8 0, .int .u8 0, .int .u8 0, .int .u8 0, .int .u8 0, .int .u8 0, .int .u8 0, .int .u8 0, .int .u8 0, .int .u8 0, .int .u8 0, .int .u8 0, .int .u8 0, .int .u8 0, .int .u8 0, .int .u8 0, .int .u8 0, .int .u8 0, .int .u8 0, .int .u8 0, .int .u8 0, .int .u8 0, .int .u8 0, .int .u8 0, .int .u8 0, .int .u8 0, .int .u8 0, .int .u8 0, .int .u8 0, .int .u8 0, .int .u8 0, .int .u8 0, .int .u8 0, .int .u8 0, .int .u8 0, .int .u8 0, .int .u8 0, .int .u8 0, .int .u8 0, .int .u8 0, .int .u8 0, .int .u8 0, .int .u8 0, .int .u8 0, .int .u8 0, .int .u8 0, .int .u8 0, .int .u8 0, .int .u8 0, .int .u8 0, .int .u8 0, .int .u8 0, .int .u8 0, .int .u8 0, .int .u8 0, .int .u8 0, .int .u8 0, .int .u8 0, .int .u8 0, .int .u8 0, .int .u8 0, .int .u8 0, .int .u8 0, .int .u8 0, .int .u8 0, .int .u8 0, .int .u8 0, .int .u8 0, .int .u8 0, .int .u8 0, .int .u8 0, .int .u8 0, .int .u8 0, .int .u8 0, .int .u8 0, .int .u8 0, .int .u8 0, .int .u8 0, .int .u8 0, .int .u8 0, .int .u8 0, .int .u8 0, .int .u8 0, .int .u8 0, .int .u8 0, .int .u8 0, .int .u8 0, .int .u8 0, .int .u8 0, .int .u8 0, .int .u8 0, .int .u8 0, .int .u8 0, .int .u8 0, .int .u8 0, .int .u8 0, .int .u8 0, .int .u8 0, .int .u8 0, .int .u8 0, .int .u8 0, .int .u8 0, .int .u8 0, .int .u8 0, .int .u8 0, .int .u8 0, .int .u8 0, .int .u8 0, .int .u8 0, .int .u8 0, .int .u8 0, .int .u8 0, .int .u8 0, .int .u8 0, .int .u8 0, .int .u8 0, .int .u8 0, .int .u8 0, .int .u8 0, .int .u8 0, .int .u8 0, .int .u8 0, .int .u8 0, .int .u8 0, .int .u8 0, .int .u8 0, .int .u8 0, .int .u8 0, .int .u8 0, .int .u8 0, .int .u8 0, .int .u8 0, .int .u8 0, .int .u8 0, .int .u8 0, .int .u8 0, .int .u8 0, .int .u8 0, .int .u8 0, .int .u8 0, .int .u8 0, .int .u8 0, .int .u8 0, .int .u8 0, .int .u8 0, .int .u8 0, .int .u8 0, .int .u8 0, .int .u8 0, .int .u8 0, .int .u8 0, .int .u8 0, .int .u8 0], .arr 256 5⟩ := by kernel_rfl
@[go_sem] theorem ty175 : tyR Tryd.prog 175 = some ⟨2, true, 2, [.int .u8 0, .int .u8 0], .st [(0, 5, 1), (1, 5, 1)]⟩ := by kernel_rfl
@[go_sem] theorem ty176 : tyR Tryd.prog 176 = some ⟨32, true, 32, [.int .u8 0, .int .u8 0, .int .u8 0, .int .u8 0, .int .u8 0, .int .u8 0, .int .u8 0, .int .u8 0, .int .u8 0, .int .u8 0, .int .u8 0, .int .u8 0, .int .u8 0, .int .u8 0, .int .u8 0, .int .u8 0, .int .u8 0, .int .u8 0, .int .u8 0, .int .u8 0, .int .u8 0, .int .u8 0, .int .u8 0, .int .u8 0, .int .u8 0, .int .u8 0, .int .u8 0, .int .u8 0, .int .u8 0, .int .u8 0, .int .u8 0, .int .u8 0], .arr 16 175⟩ := by kernel_rfl
@[go_sem] theorem ty185 : tyR Tryd.prog 185 = some ⟨32, true, 32, [.int .u8 0, .int .u8 0, .int .u8 0, .int .u8 0, .int .u8 0, .int .u8 0, .int .u8 0, .int .u8 0, .int .u8 0, .int .u8 0, .int .u8 0, .int .u8 0, .int .u8 0, .int .u8 0, .int .u8 0, .int .u8 0, .int .u8 0, .int .u8 0, .int .u8 0, .int .u8 0, .int .u8 0, .int .u8 0, .int .u8 0, .int .u8 0, .int .u8 0, .int .u8 0, .int .u8 0, .int .u8 0, .int .u8 0, .int .u8 0, .int .u8 0, .int .u8 0], .arr 32 5⟩ := by kernel_rfl
@[go_sem] theorem ty186 : tyR Tryd.prog 186 = some ⟨64, true, 64, [.int .u8 0, .int .u8 0, .int .u8 0, .int .u8 0, .int .u8 0, .int .u8 0, .int .u8 0, .int .u8 0, .int .u8 0, .int .u8 0, .int .u8 0, .int .u8 0, .int .u8 0, .int .u8 0, .int .u8 0, .int .u8 0, .int .u8 0, .int .u8 0, .int .u8 0, .int .u8 0, .int .u8 0, .int .u8 0, .int .u8 0, .int .u8 0, .int .u8 0, .int .u8 0, .int .u8 0, .int .u8 0, .int .u8 0, .int .u8 0, .int .u8 0, .int .u8 0, .int .u8 0, .int .u8 0, .int .u8 0, .int .u8 0, .int .u8 0, .int .u8 0, .int .u8 0, .int .u8 0, .int .u8 0, .int .u8 0, .int .u8 0, .int .u8 0, .int .u8 0, .int .u8 0, .int .u8 0, .int .u8 0, .int .u8 0, .int .u8 0, .int .u8 0, .int .u8 0, .int .u8 0, .int .u8 0, .int .u8 0, .int .u8 0, .int .u8 0, .int .u8 0, .int .u8 0, .int .u8 0, .int .u8 0, .int .u8 0, .int .u8 0, .int .u8 0], .arr 64 5⟩ := by kernel_rfl
@[go_sem] theorem ty190 : tyR Tryd.prog 190 = some ⟨3, true, 48, [.str [], .str [], .nilif], .st [(0, 9, 1), (1, 9, 1), (2, 76, 1)]⟩ := by kernel_rfl
@[go_sem] theorem ty194 : tyR Tryd.prog 194 = some ⟨1, true, 16, [.str []], .st [(0, 9, 1)]⟩ := by kernel_rfl
theorem mix : Tryd.prog.follows .mixedOrders = true := by kernel_rfl
open Go.Proofs
set_option linter.unusedVariables false
set_option linter.unusedSimpArgs false
abbrev I (n : Int) : HVal := .int .i64 n
abbrev ints (l : List Int) : HVal := .sl 1 (l.map fun n => [I n]) false
abbrev sls {α : Type} (sz : Nat) (c : α → List HVal) (l : List α) : HVal := .sl sz (l.map c) false

theorem upd_get (h : Heap) (n m : Nat) (o : HObj) : upd h n o m = if m = n then some o else h m := rfl
theorem getElem_of_eq {α : Type} {a b : List α} (e : a = b) {k : Nat} (ha : k < a.length) {hb : k < b.length} : a[k] = b[k] := by subst e; rfl
theorem take_step {α : Type} {a b : List α} {k : Nat} (ha : k < a.length) (hb : k < b.length) (hp : a.take k = b.take k) (he : a[k] = b[k]) : a.take (k + 1) = b.take (k + 1) := by
  rw [List.take_succ_eq_append_getElem ha, List.take_succ_eq_append_getElem hb, hp, he]
theorem eq_of_take {α : Type} {a b : List α} (hl : a.length = b.length) (h : a.take a.length = b.take a.length) : a = b := by
  rw [List.take_length, hl, List.take_length] at h; exact h
theorem all_step {α : Type} {P : α → Prop} {l : List α} {k : Nat} (h : k < l.length) (hp : ∀ x ∈ l.take k, P x) (he : P l[k]) : ∀ x ∈ l.take (k + 1), P x := by
  rw [List.take_succ_eq_append_getElem h]
  intro x hx
  rcases List.mem_append.1 hx with hx | hx
  · exact hp x hx
  · rw [List.mem_singleton.1 hx]; exact he
/-- The first place where p holds, or -1. -/
def idxOf {α : Type} (p : α → Bool) (l : List α) : Int := match l.findIdx? p with | some i => i | none => -1
theorem idxOf_none {α : Type} {p : α → Bool} {l : List α} (h : ∀ x ∈ l, p x = false) : idxOf p l = -1 := by
  have : l.findIdx? p = none := List.findIdx?_eq_none_iff.2 h
  simp only [idxOf, this]
theorem idxOf_some {α : Type} {p : α → Bool} {l : List α} {k : Nat} (hk : k < l.length) (h : ∀ x ∈ l.take k, p x = false) (he : p l[k] = true) : idxOf p l = k := by
  have : l.findIdx? p = some k := by
    rw [List.findIdx?_eq_some_iff_getElem]
    refine ⟨hk, he, fun j hj => ?_⟩
    have := h l[j] (List.mem_take_iff_getElem.2 ⟨j, by omega, rfl⟩)
    simp [this]
  simp only [idxOf, this]
theorem idxOf_nonneg {α : Type} {p : α → Bool} {l : List α} : decide (0 ≤ idxOf p l) = l.any p := by
  unfold idxOf
  cases h : l.findIdx? p with
  | none =>
    have := List.findIdx?_eq_none_iff.1 h
    simp only
    rw [Bool.eq_false_iff.2 (show l.any p ≠ true from ?_)]
    · simp
    · intro hx
      obtain ⟨x, hx, hp⟩ := List.any_eq_true.1 hx
      rw [this x hx] at hp; cases hp
  | some i =>
    obtain ⟨hi, hp, _⟩ := List.findIdx?_eq_some_iff_getElem.1 h
    have : l.any p = true := List.any_eq_true.2 ⟨_, List.getElem_mem hi, hp⟩
    rw [this]; simp
/-- A number of the field. -/
def Num (n : Int) : Prop := 0 ≤ n ∧ n ≤ 1000002
instance (n : Int) : Decidable (Num n) := inferInstanceAs (Decidable (0 ≤ n ∧ n ≤ 1000002))
theorem any_not {α : Type} {P : α → Prop} [DecidablePred P] {l : List α} [Decidable (∀ x ∈ l, P x)] : (!l.any fun x => !decide (P x)) = decide (∀ x ∈ l, P x) := by
  rw [Bool.eq_iff_iff]
  simp [List.any_eq_false]
structure DInstr where
  fOp : Int
  fA : Int
  fB : Int
  fNum : Int
def DInstr.c (x : DInstr) : List HVal := [(.int .i64 x.fOp), (.int .i64 x.fA), (.int .i64 x.fB), (.int .i64 x.fNum)]
def DInstr.s (x : DInstr) : Nat := 0
theorem DInstr.c_eq (x : DInstr) : x.c = [(.int .i64 x.fOp), (.int .i64 x.fA), (.int .i64 x.fB), (.int .i64 x.fNum)] := rfl
theorem DInstr.s_eq (x : DInstr) : x.s = 0 := rfl
@[simp] theorem DInstr.c_len (x : DInstr) : x.c.length = 4 := by rw [DInstr.c_eq]; rfl
theorem DInstr.eq_iff {a b : DInstr} : a = b ↔ a.fOp = b.fOp ∧ a.fA = b.fA ∧ a.fB = b.fB ∧ a.fNum = b.fNum := by cases a; cases b; simp
noncomputable instance : DecidableEq DInstr := fun a b => Classical.propDecidable (a = b)

structure DGuard where
  fReg : Int
  fZero : Bool
def DGuard.c (x : DGuard) : List HVal := [(.int .i64 x.fReg), (.bool x.fZero)]
def DGuard.s (x : DGuard) : Nat := 0
theorem DGuard.c_eq (x : DGuard) : x.c = [(.int .i64 x.fReg), (.bool x.fZero)] := rfl
theorem DGuard.s_eq (x : DGuard) : x.s = 0 := rfl
@[simp] theorem DGuard.c_len (x : DGuard) : x.c.length = 2 := by rw [DGuard.c_eq]; rfl
theorem DGuard.eq_iff {a b : DGuard} : a = b ↔ a.fReg = b.fReg ∧ a.fZero = b.fZero := by cases a; cases b; simp
noncomputable instance : DecidableEq DGuard := fun a b => Classical.propDecidable (a = b)

structure DTape where
  fInputs : Int
  fCode : (List DInstr)
  fGuards : (List DGuard)
  fOuts : (List Int)
def DTape.c (x : DTape) : List HVal := [(.int .i64 x.fInputs), (sls 4 DInstr.c x.fCode), (sls 2 DGuard.c x.fGuards), (sls 1 (fun n => [I n]) x.fOuts)]
def DTape.s (x : DTape) : Nat := (szs DInstr.s x.fCode) + (szs DGuard.s x.fGuards) + x.fOuts.length
theorem DTape.c_eq (x : DTape) : x.c = [(.int .i64 x.fInputs), (sls 4 DInstr.c x.fCode), (sls 2 DGuard.c x.fGuards), (sls 1 (fun n => [I n]) x.fOuts)] := rfl
theorem DTape.s_eq (x : DTape) : x.s = (szs DInstr.s x.fCode) + (szs DGuard.s x.fGuards) + x.fOuts.length := rfl
@[simp] theorem DTape.c_len (x : DTape) : x.c.length = 4 := by rw [DTape.c_eq]; rfl
theorem DTape.eq_iff {a b : DTape} : a = b ↔ a.fInputs = b.fInputs ∧ a.fCode = b.fCode ∧ a.fGuards = b.fGuards ∧ a.fOuts = b.fOuts := by cases a; cases b; simp
noncomputable instance : DecidableEq DTape := fun a b => Classical.propDecidable (a = b)

inductive DExpr where
  | mk (fKind : Int) (fNum : Int) (fPick : Int) (fCount : Int) (fKids : (List DExpr))
def DExpr.fKind : DExpr → Int
  | .mk fKind fNum fPick fCount fKids => fKind
def DExpr.fNum : DExpr → Int
  | .mk fKind fNum fPick fCount fKids => fNum
def DExpr.fPick : DExpr → Int
  | .mk fKind fNum fPick fCount fKids => fPick
def DExpr.fCount : DExpr → Int
  | .mk fKind fNum fPick fCount fKids => fCount
def DExpr.fKids : DExpr → (List DExpr)
  | .mk fKind fNum fPick fCount fKids => fKids
mutual
def DExpr.c : DExpr → List HVal
  | .mk fKind fNum fPick fCount fKids => [(.int .i64 fKind), (.int .i64 fNum), (.int .i64 fPick), (.int .i64 fCount), .sl 5 (DExpr.cL fKids) false]
def DExpr.cL : List DExpr → List (List HVal)
  | [] => []
  | x :: l => x.c :: DExpr.cL l
end
theorem DExpr.cL_map : ∀ l, DExpr.cL l = l.map DExpr.c
  | [] => rfl
  | x :: l => by simp only [DExpr.cL, List.map_cons, DExpr.cL_map l]
theorem DExpr.c_eq (x : DExpr) : x.c = [(.int .i64 x.fKind), (.int .i64 x.fNum), (.int .i64 x.fPick), (.int .i64 x.fCount), (sls 5 DExpr.c x.fKids)] := by cases x; simp only [DExpr.c, DExpr.cL_map, sls]; rfl
@[simp] theorem DExpr.c_len (x : DExpr) : x.c.length = 5 := by rw [DExpr.c_eq]; rfl
noncomputable instance : DecidableEq DExpr := fun a b => Classical.propDecidable (a = b)

structure DFunc where
  fName : (List UInt8)
  fParams : Int
  fOuts : (List DExpr)
def DFunc.c (x : DFunc) : List HVal := [(.str x.fName), (.int .i64 x.fParams), (sls 5 DExpr.c x.fOuts)]
theorem DFunc.c_eq (x : DFunc) : x.c = [(.str x.fName), (.int .i64 x.fParams), (sls 5 DExpr.c x.fOuts)] := rfl
@[simp] theorem DFunc.c_len (x : DFunc) : x.c.length = 3 := by rw [DFunc.c_eq]; rfl
noncomputable instance : DecidableEq DFunc := fun a b => Classical.propDecidable (a = b)

structure DProgram where
  fFuncs : (List DFunc)
def DProgram.c (x : DProgram) : List HVal := [(sls 3 DFunc.c x.fFuncs)]
theorem DProgram.c_eq (x : DProgram) : x.c = [(sls 3 DFunc.c x.fFuncs)] := rfl
@[simp] theorem DProgram.c_len (x : DProgram) : x.c.length = 1 := by rw [DProgram.c_eq]; rfl
noncomputable instance : DecidableEq DProgram := fun a b => Classical.propDecidable (a = b)


open Go.Proofs
set_option linter.unusedVariables false
set_option linter.unusedSimpArgs false









open Go.Proofs
set_option linter.unusedVariables false
set_option linter.unusedSimpArgs false
def DInstr.o (x : DInstr) (e : List OV) : Prop := e = [.v (.int .i64 x.fOp), .v (.int .i64 x.fA), .v (.int .i64 x.fB), .v (.int .i64 x.fNum)]
theorem DInstr.o_dat {x : DInstr} {e : List OV} (h : x.o e) : e.map OV.dat = x.c := by
  obtain rfl := h
  rw [DInstr.c_eq]
  simp only [List.map_cons, List.map_nil, OV.dat]
def DGuard.o (x : DGuard) (e : List OV) : Prop := e = [.v (.int .i64 x.fReg), .v (.bool x.fZero)]
theorem DGuard.o_dat {x : DGuard} {e : List OV} (h : x.o e) : e.map OV.dat = x.c := by
  obtain rfl := h
  rw [DGuard.c_eq]
  simp only [List.map_cons, List.map_nil, OV.dat]
def DTape.o (x : DTape) (e : List OV) : Prop := ∃ y1 y2 y3, e = [.v (.int .i64 x.fInputs), y1, y2, y3] ∧ OS DInstr.o 4 x.fCode y1 ∧ OS DGuard.o 2 x.fGuards y2 ∧ OS (oP I) 1 x.fOuts y3
theorem DTape.o_dat {x : DTape} {e : List OV} (h : x.o e) : e.map OV.dat = x.c := by
  obtain ⟨y1, y2, y3, rfl, o1, o2, o3⟩ := h
  have d1 := OS.dat (c := DInstr.c) (fun _ _ q => DInstr.o_dat q) o1
  have d2 := OS.dat (c := DGuard.c) (fun _ _ q => DGuard.o_dat q) o2
  have d3 := OS.dat (c := (fun n => [I n])) (fun _ _ q => oP_dat q) o3
  rw [DTape.c_eq]
  simp only [List.map_cons, List.map_nil, OV.dat, d1, d2, d3]
theorem DInstr.o_sol (x : DInstr) (e : List OV) (h : x.o e) : OV.solRow e = true := by
  obtain rfl := h
  simp [OV.solRow, OV.sol, HVal.solid]
theorem DInstr.o_ct (x : DInstr) (e : List OV) (h : x.o e) : OV.ctRow e ≤ 16 * (1 + x.s) := by
  obtain rfl := h
  have s0 := DInstr.s_eq x
  simp only [OV.ctRow, OV.ct_v]
  refine Nat.le_trans (Nat.add_le_add (Nat.le_refl 1) (Nat.add_le_add (Nat.le_refl 1) (Nat.add_le_add (Nat.le_refl 1) (Nat.add_le_add (Nat.le_refl 1) (Nat.le_refl 0))))) ?_
  omega
theorem DGuard.o_sol (x : DGuard) (e : List OV) (h : x.o e) : OV.solRow e = true := by
  obtain rfl := h
  simp [OV.solRow, OV.sol, HVal.solid]
theorem DGuard.o_ct (x : DGuard) (e : List OV) (h : x.o e) : OV.ctRow e ≤ 16 * (1 + x.s) := by
  obtain rfl := h
  have s0 := DGuard.s_eq x
  simp only [OV.ctRow, OV.ct_v]
  refine Nat.le_trans (Nat.add_le_add (Nat.le_refl 1) (Nat.add_le_add (Nat.le_refl 1) (Nat.le_refl 0))) ?_
  omega
theorem DTape.o_sol (x : DTape) (e : List OV) (h : x.o e) : OV.solRow e = true := by
  obtain ⟨y1, y2, y3, rfl, o1, o2, o3⟩ := h
  have d1 := OS.solm (fun z hz e q => DInstr.o_sol z e q) o1
  have d2 := OS.solm (fun z hz e q => DGuard.o_sol z e q) o2
  have d3 := OS.solm (fun _ _ _ q => oP_sol (fun _ => rfl) q) o3
  simp [OV.solRow, OV.sol, HVal.solid, d1, d2, d3]
theorem DTape.o_ct (x : DTape) (e : List OV) (h : x.o e) : OV.ctRow e ≤ 16 * (1 + x.s) := by
  obtain ⟨y1, y2, y3, rfl, o1, o2, o3⟩ := h
  have d1 := OS.cts (s := DInstr.s) o1 (fun z hz e q => DInstr.o_ct z e q)
  have d2 := OS.cts (s := DGuard.s) o2 (fun z hz e q => DGuard.o_ct z e q)
  have d3 := o3.ctP
  have s0 := DTape.s_eq x
  clear o1 o2 o3
  simp only [OV.ctRow, OV.ct_v]
  refine Nat.le_trans (Nat.add_le_add (Nat.le_refl 1) (Nat.add_le_add d1 (Nat.add_le_add d2 (Nat.add_le_add d3 (Nat.le_refl 0))))) ?_
  clear d1
  clear d2
  clear d3
  try generalize (szs DInstr.s x.fCode) = z1 at *
  try generalize (szs DGuard.s x.fGuards) = z2 at *
  try generalize x.fOuts.length = z3 at *
  omega
theorem DTape.o_top (x : DTape) (e : List OV) (h : x.o e) : OV.ctTop e ≤ 16 * (1 + x.s) := by
  have h1 := DTape.o_ct x e h
  have h2 : ∀ e : List OV, OV.ctTop e ≤ OV.ctRow e := fun e => by
    induction e with
    | nil => simp [OV.ctTop]
    | cons a e ih => rw [OV.ctTop, OV.ctRow]; cases a <;> simp [OV.ctT] <;> omega
  exact Nat.le_trans (h2 e) h1
open Go.Proofs
set_option linter.unusedVariables false
set_option linter.unusedSimpArgs false









open Go.Proofs
set_option linter.unusedVariables false
set_option linter.unusedSimpArgs false
open Go.Proofs
set_option linter.unusedVariables false
set_option linter.unusedSimpArgs false


def keep48 : List Nat := [0, 1, 4, 5, 9]
def ib48 : List Nat := []
def mk48 : Marks := fun _ => ([], .nil, [])
set_option maxRecDepth 100000 in
theorem mark_InstrS (l : List DInstr) : MarkS Tryd.prog 48 (OS DInstr.o 4 l) := by
  intro y k h hy h0 h1 ho nd
  rcases hy with ⟨rfl, hl⟩ | ⟨n, es, rfl, hor⟩
  · rw [OV.mk_nil, OV.nil_rows, OV.ct_nil, OV.val_nil]
    refine fnHF 41 keep48 ib48 mk48 mix Tryd.func48 rfl (by kernel_rfl) (by simp) ?_
    simp (maxSteps := 1000000) -dsimp -implicitDefEqProofs only [go_sem, ↓reduceIte, keep48, ib48, mk48, Tryd.f48]
    refine loopF (keep := keep48) (ib := ib48) (mk := mk48) mix (by kernel_rfl) (fun _ : Unit => [(0, .sl 4 [] true), (1, I k), (5, I 0)]) (fun _ => h) (fun _ => True) (fun _ => 0) () (by simp [SatL, tget, Heap.le_refl]) ?_
    intro _ _
    simp (maxSteps := 1000000) -dsimp -implicitDefEqProofs only [go_sem, ↓reduceIte, keep48, ib48, mk48, Tryd.f48, zero_cast, Int.lt_irrefl]
    try intro _
    refine ⟨h, Heap.le_refl _, ?_⟩
    first | exact Chg.refl (by simp [Owns]) | exact ⟨by simp, Chg.refl (by simp [Owns])⟩
  · rw [OV.mk_sl, OV.sl_rows, OV.sl_rows, OV.ct_sl, OV.val_sl]
    rw [OV.ct_sl] at h1
    rw [OV.sl_rows] at ho nd
    generalize hL0 : (n, HObj.row 4 (OV.cells es)) :: OV.rowsRows es = L0 at nd ⊢
    refine fnHF 41 keep48 ib48 mk48 mix Tryd.func48 rfl (by kernel_rfl) (by simp) ?_
    simp (maxSteps := 1000000) -dsimp -implicitDefEqProofs only [go_sem, ↓reduceIte, keep48, ib48, mk48, Tryd.f48]
    refine loopF (keep := keep48) (ib := ib48) (mk := mk48) mix (by kernel_rfl) (fun x : Nat × Heap => [(0, .os n 4 0 es.length), (1, I (k + OV.ctRows (es.take x.1))), (5, I x.1)]) (fun x => x.2) (fun x => x.1 ≤ es.length ∧ Chg h x.2 L0 ((n, .row 4 (OV.cells (OV.mkRows k (es.take x.1) ++ es.drop x.1))) :: OV.rowsRows (OV.mkRows k (es.take x.1) ++ es.drop x.1))) (fun x => es.length - x.1) (0, h) (by
      refine ⟨by simp [SatL, tget, OV.ctRows], Heap.le_refl _, Nat.zero_le _, ?_⟩
      rw [← hL0]
      simpa [OV.mkRows] using Chg.refl ho) ?_
    rintro ⟨i, g⟩ ⟨hi, hc⟩
    simp only at hi hc ⊢
    rcases Nat.lt_or_ge i es.length with hlt | hge
    · have hll : i < l.length := by rw [hor.length]; exact hlt
      obtain ⟨A, e, B, rfl, hA, he⟩ := hor.split i hll
      have t1 : (A ++ e :: B).take i = A := by rw [← hA]; simp
      have t2 : (A ++ e :: B).drop i = e :: B := by rw [← hA]; simp
      have t0 : A ++ e :: B = (A ++ [e]) ++ B := by simp
      have t3 : (A ++ e :: B).take (i + 1) = A ++ [e] := by rw [t0]; exact List.take_left' (by simp [hA])
      have t4 : (A ++ e :: B).drop (i + 1) = B := by rw [t0]; exact List.drop_left' (by simp [hA])
      clear t0
      have hct := OV.ctRows_append A (e :: B)
      rw [OV.ctRows] at hct
      rw [t1, t2] at hc
      rw [t1]
      have hA2 : (OV.cells (OV.mkRows k A)).length = i := by rw [OV.cells, List.length_map, OV.mkRows_len, hA]
      have hs2 := OV.mkRows_snoc k A e
      have hs3 := OV.ctRows_snoc A e
      obtain rfl := he
      simp only [OV.ctRow_cons, OV.ctRow_nil, OV.ct_v, Nat.add_zero, OV.mkRow_cons, OV.mkRow_nil, OV.mk_v, leaf_int, leaf_bool, leaf_str, one_cast] at hct hs2 hs3
      generalize hkk : k + (OV.ctRows A : Int) = kk at hs2 ⊢
      generalize OV.mkRows k A = A2 at hs2 hc hA2
      have gm : ∀ (c : List Cell) (Y : List (List Cell)), (OV.cells A2 ++ c :: Y)[i]? = some c := fun c Y => get_mid hA2
      have sm : ∀ (c c2 : List Cell) (Y : List (List Cell)), (OV.cells A2 ++ c :: Y).set i c2 = OV.cells A2 ++ c2 :: Y := fun c c2 Y => set_mid hA2
      have hc0 := hc
      simp only [List.append_assoc, List.cons_append, List.nil_append, List.append_nil, OV.row_cons, OV.row_nil, OV.v_rows, rowsRows_cons, rowsRows_app, cells_append, cells_cons, cellv_cons, cellv_nil, OV.val_v] at hc0
      have hgn := hc0.owns (n, _) List.mem_cons_self
      simp only at hgn
      have iw0_0 : IntKind.i64.wrap (kk + 1) = kk + 1 := IntWalk.i64_in _ (by omega)
      have iw0_1 : IntKind.i64.wrap (kk + 1 + 1) = kk + 1 + 1 := IntWalk.i64_in _ (by omega)
      have iw0_2 : IntKind.i64.wrap (kk + 1 + 1 + 1) = kk + 1 + 1 + 1 := IntWalk.i64_in _ (by omega)
      have iw0_3 : IntKind.i64.wrap (kk + 1 + 1 + 1 + 1) = kk + 1 + 1 + 1 + 1 := IntWalk.i64_in _ (by omega)
      simp (maxSteps := 1000000) -dsimp -implicitDefEqProofs only [go_sem, ↓reduceIte, keep48, ib48, mk48, Tryd.f48, hgn, gm, sm, upd_upd, upd_same, iw0_0, iw0_1, iw0_2, iw0_3]
      repeat' (with_reducible first | intro _ | refine And.intro ?_ ?_)
      all_goals try omega
      have hq0 := hc0.trans (Chg.set (o' := .row 4 (OV.cells A2 ++ [.v (.int .i64 (kk)), .v (.int .i64 (kk + 1)), .v (.int .i64 (kk + 1 + 1)), .v (.int .i64 (kk + 1 + 1 + 1))] :: OV.cells B)) hc0.owns (hc0.nodup nd))
      have hg0 : upd g n (.row 4 (OV.cells A2 ++ [.v (.int .i64 (kk)), .v (.int .i64 (kk + 1)), .v (.int .i64 (kk + 1 + 1)), .v (.int .i64 (kk + 1 + 1 + 1))] :: OV.cells B)) n = some (.row 4 (OV.cells A2 ++ [.v (.int .i64 (kk)), .v (.int .i64 (kk + 1)), .v (.int .i64 (kk + 1 + 1)), .v (.int .i64 (kk + 1 + 1 + 1))] :: OV.cells B)) := upd_same _ _ _
      refine ⟨(i + 1, (upd g n (.row 4 (OV.cells A2 ++ [.v (.int .i64 (kk)), .v (.int .i64 (kk + 1)), .v (.int .i64 (kk + 1 + 1)), .v (.int .i64 (kk + 1 + 1 + 1))] :: OV.cells B)))), ?_⟩
      simp only [t3, t4, hs2, hs3]
      refine ⟨?_, Heap.le_refl _, ⟨by omega, ?_⟩, by omega⟩
      · repeat' (with_reducible refine And.intro ?_ ?_)
        all_goals first | rfl | trivial | omega | (rw [IntWalk.i64_in _ (by omega)]; omega)
      · simpa only [List.append_assoc, List.cons_append, List.nil_append, List.append_nil, OV.row_cons, OV.row_nil, OV.v_rows, rowsRows_cons, rowsRows_app, cells_append, cells_cons, cellv_cons, cellv_nil, OV.val_v] using hq0
    · have hi2 : i = es.length := by omega
      subst hi2
      rw [List.take_length, List.drop_length, List.append_nil] at hc
      rw [List.take_length]
      simp (maxSteps := 1000000) -dsimp -implicitDefEqProofs only [go_sem, ↓reduceIte, keep48, ib48, mk48, Tryd.f48, Int.lt_irrefl, Nat.lt_irrefl]
      try intro _
      refine ⟨g, Heap.le_refl _, ?_⟩
      first | exact hc | exact ⟨rfl, hc⟩



def keep49 : List Nat := [0, 1, 4, 5, 9]
def ib49 : List Nat := []
def mk49 : Marks := fun _ => ([], .nil, [])
set_option maxRecDepth 100000 in
theorem mark_GuardS (l : List DGuard) : MarkS Tryd.prog 49 (OS DGuard.o 2 l) := by
  intro y k h hy h0 h1 ho nd
  rcases hy with ⟨rfl, hl⟩ | ⟨n, es, rfl, hor⟩
  · rw [OV.mk_nil, OV.nil_rows, OV.ct_nil, OV.val_nil]
    refine fnHF 29 keep49 ib49 mk49 mix Tryd.func49 rfl (by kernel_rfl) (by simp) ?_
    simp (maxSteps := 1000000) -dsimp -implicitDefEqProofs only [go_sem, ↓reduceIte, keep49, ib49, mk49, Tryd.f49]
    refine loopF (keep := keep49) (ib := ib49) (mk := mk49) mix (by kernel_rfl) (fun _ : Unit => [(0, .sl 2 [] true), (1, I k), (5, I 0)]) (fun _ => h) (fun _ => True) (fun _ => 0) () (by simp [SatL, tget, Heap.le_refl]) ?_
    intro _ _
    simp (maxSteps := 1000000) -dsimp -implicitDefEqProofs only [go_sem, ↓reduceIte, keep49, ib49, mk49, Tryd.f49, zero_cast, Int.lt_irrefl]
    try intro _
    refine ⟨h, Heap.le_refl _, ?_⟩
    first | exact Chg.refl (by simp [Owns]) | exact ⟨by simp, Chg.refl (by simp [Owns])⟩
  · rw [OV.mk_sl, OV.sl_rows, OV.sl_rows, OV.ct_sl, OV.val_sl]
    rw [OV.ct_sl] at h1
    rw [OV.sl_rows] at ho nd
    generalize hL0 : (n, HObj.row 2 (OV.cells es)) :: OV.rowsRows es = L0 at nd ⊢
    refine fnHF 29 keep49 ib49 mk49 mix Tryd.func49 rfl (by kernel_rfl) (by simp) ?_
    simp (maxSteps := 1000000) -dsimp -implicitDefEqProofs only [go_sem, ↓reduceIte, keep49, ib49, mk49, Tryd.f49]
    refine loopF (keep := keep49) (ib := ib49) (mk := mk49) mix (by kernel_rfl) (fun x : Nat × Heap => [(0, .os n 2 0 es.length), (1, I (k + OV.ctRows (es.take x.1))), (5, I x.1)]) (fun x => x.2) (fun x => x.1 ≤ es.length ∧ Chg h x.2 L0 ((n, .row 2 (OV.cells (OV.mkRows k (es.take x.1) ++ es.drop x.1))) :: OV.rowsRows (OV.mkRows k (es.take x.1) ++ es.drop x.1))) (fun x => es.length - x.1) (0, h) (by
      refine ⟨by simp [SatL, tget, OV.ctRows], Heap.le_refl _, Nat.zero_le _, ?_⟩
      rw [← hL0]
      simpa [OV.mkRows] using Chg.refl ho) ?_
    rintro ⟨i, g⟩ ⟨hi, hc⟩
    simp only at hi hc ⊢
    rcases Nat.lt_or_ge i es.length with hlt | hge
    · have hll : i < l.length := by rw [hor.length]; exact hlt
      obtain ⟨A, e, B, rfl, hA, he⟩ := hor.split i hll
      have t1 : (A ++ e :: B).take i = A := by rw [← hA]; simp
      have t2 : (A ++ e :: B).drop i = e :: B := by rw [← hA]; simp
      have t0 : A ++ e :: B = (A ++ [e]) ++ B := by simp
      have t3 : (A ++ e :: B).take (i + 1) = A ++ [e] := by rw [t0]; exact List.take_left' (by simp [hA])
      have t4 : (A ++ e :: B).drop (i + 1) = B := by rw [t0]; exact List.drop_left' (by simp [hA])
      clear t0
      have hct := OV.ctRows_append A (e :: B)
      rw [OV.ctRows] at hct
      rw [t1, t2] at hc
      rw [t1]
      have hA2 : (OV.cells (OV.mkRows k A)).length = i := by rw [OV.cells, List.length_map, OV.mkRows_len, hA]
      have hs2 := OV.mkRows_snoc k A e
      have hs3 := OV.ctRows_snoc A e
      obtain rfl := he
      simp only [OV.ctRow_cons, OV.ctRow_nil, OV.ct_v, Nat.add_zero, OV.mkRow_cons, OV.mkRow_nil, OV.mk_v, leaf_int, leaf_bool, leaf_str, one_cast] at hct hs2 hs3
      generalize hkk : k + (OV.ctRows A : Int) = kk at hs2 ⊢
      generalize OV.mkRows k A = A2 at hs2 hc hA2
      have gm : ∀ (c : List Cell) (Y : List (List Cell)), (OV.cells A2 ++ c :: Y)[i]? = some c := fun c Y => get_mid hA2
      have sm : ∀ (c c2 : List Cell) (Y : List (List Cell)), (OV.cells A2 ++ c :: Y).set i c2 = OV.cells A2 ++ c2 :: Y := fun c c2 Y => set_mid hA2
      have hc0 := hc
      simp only [List.append_assoc, List.cons_append, List.nil_append, List.append_nil, OV.row_cons, OV.row_nil, OV.v_rows, rowsRows_cons, rowsRows_app, cells_append, cells_cons, cellv_cons, cellv_nil, OV.val_v] at hc0
      have hgn := hc0.owns (n, _) List.mem_cons_self
      simp only at hgn
      have iw0_0 : IntKind.i64.wrap (kk + 1) = kk + 1 := IntWalk.i64_in _ (by omega)
      have iw0_1 : IntKind.i64.wrap (kk + 1 + 1) = kk + 1 + 1 := IntWalk.i64_in _ (by omega)
      simp (maxSteps := 1000000) -dsimp -implicitDefEqProofs only [go_sem, ↓reduceIte, keep49, ib49, mk49, Tryd.f49, hgn, gm, sm, upd_upd, upd_same, iw0_0, iw0_1]
      repeat' (with_reducible first | intro _ | refine And.intro ?_ ?_)
      all_goals try omega
      have hq0 := hc0.trans (Chg.set (o' := .row 2 (OV.cells A2 ++ [.v (.int .i64 (kk)), .v (.bool (decide ((kk + 1).tmod 3 = 0)))] :: OV.cells B)) hc0.owns (hc0.nodup nd))
      have hg0 : upd g n (.row 2 (OV.cells A2 ++ [.v (.int .i64 (kk)), .v (.bool (decide ((kk + 1).tmod 3 = 0)))] :: OV.cells B)) n = some (.row 2 (OV.cells A2 ++ [.v (.int .i64 (kk)), .v (.bool (decide ((kk + 1).tmod 3 = 0)))] :: OV.cells B)) := upd_same _ _ _
      refine ⟨(i + 1, (upd g n (.row 2 (OV.cells A2 ++ [.v (.int .i64 (kk)), .v (.bool (decide ((kk + 1).tmod 3 = 0)))] :: OV.cells B)))), ?_⟩
      simp only [t3, t4, hs2, hs3]
      refine ⟨?_, Heap.le_refl _, ⟨by omega, ?_⟩, by omega⟩
      · repeat' (with_reducible refine And.intro ?_ ?_)
        all_goals first | rfl | trivial | omega | (rw [IntWalk.i64_in _ (by omega)]; omega)
      · simpa only [List.append_assoc, List.cons_append, List.nil_append, List.append_nil, OV.row_cons, OV.row_nil, OV.v_rows, rowsRows_cons, rowsRows_app, cells_append, cells_cons, cellv_cons, cellv_nil, OV.val_v] using hq0
    · have hi2 : i = es.length := by omega
      subst hi2
      rw [List.take_length, List.drop_length, List.append_nil] at hc
      rw [List.take_length]
      simp (maxSteps := 1000000) -dsimp -implicitDefEqProofs only [go_sem, ↓reduceIte, keep49, ib49, mk49, Tryd.f49, Int.lt_irrefl, Nat.lt_irrefl]
      try intro _
      refine ⟨g, Heap.le_refl _, ?_⟩
      first | exact hc | exact ⟨rfl, hc⟩

def keep50 : List Nat := [0, 1, 4, 5, 9]
def ib50 : List Nat := []
def mk50 : Marks := fun _ => ([], .nil, [])
set_option maxRecDepth 100000 in
theorem mark_Int64S (l : List Int) : MarkS Tryd.prog 50 (OS (oP I) 1 l) := by
  intro y k h hy h0 h1 ho nd
  rcases hy with ⟨rfl, hl⟩ | ⟨n, es, rfl, hor⟩
  · rw [OV.mk_nil, OV.nil_rows, OV.ct_nil, OV.val_nil]
    refine fnHF 19 keep50 ib50 mk50 mix Tryd.func50 rfl (by kernel_rfl) (by simp) ?_
    simp (maxSteps := 1000000) -dsimp -implicitDefEqProofs only [go_sem, ↓reduceIte, keep50, ib50, mk50, Tryd.f50]
    refine loopF (keep := keep50) (ib := ib50) (mk := mk50) mix (by kernel_rfl) (fun _ : Unit => [(0, .sl 1 [] true), (1, I k), (5, I 0)]) (fun _ => h) (fun _ => True) (fun _ => 0) () (by simp [SatL, tget, Heap.le_refl]) ?_
    intro _ _
    simp (maxSteps := 1000000) -dsimp -implicitDefEqProofs only [go_sem, ↓reduceIte, keep50, ib50, mk50, Tryd.f50, zero_cast, Int.lt_irrefl]
    try intro _
    refine ⟨h, Heap.le_refl _, ?_⟩
    first | exact Chg.refl (by simp [Owns]) | exact ⟨by simp, Chg.refl (by simp [Owns])⟩
  · rw [OV.mk_sl, OV.sl_rows, OV.sl_rows, OV.ct_sl, OV.val_sl]
    rw [OV.ct_sl] at h1
    rw [OV.sl_rows] at ho nd
    generalize hL0 : (n, HObj.row 1 (OV.cells es)) :: OV.rowsRows es = L0 at nd ⊢
    refine fnHF 19 keep50 ib50 mk50 mix Tryd.func50 rfl (by kernel_rfl) (by simp) ?_
    simp (maxSteps := 1000000) -dsimp -implicitDefEqProofs only [go_sem, ↓reduceIte, keep50, ib50, mk50, Tryd.f50]
    refine loopF (keep := keep50) (ib := ib50) (mk := mk50) mix (by kernel_rfl) (fun x : Nat × Heap => [(0, .os n 1 0 es.length), (1, I (k + OV.ctRows (es.take x.1))), (5, I x.1)]) (fun x => x.2) (fun x => x.1 ≤ es.length ∧ Chg h x.2 L0 ((n, .row 1 (OV.cells (OV.mkRows k (es.take x.1) ++ es.drop x.1))) :: OV.rowsRows (OV.mkRows k (es.take x.1) ++ es.drop x.1))) (fun x => es.length - x.1) (0, h) (by
      refine ⟨by simp [SatL, tget, OV.ctRows], Heap.le_refl _, Nat.zero_le _, ?_⟩
      rw [← hL0]
      simpa [OV.mkRows] using Chg.refl ho) ?_
    rintro ⟨i, g⟩ ⟨hi, hc⟩
    simp only at hi hc ⊢
    rcases Nat.lt_or_ge i es.length with hlt | hge
    · have hll : i < l.length := by rw [hor.length]; exact hlt
      obtain ⟨A, e, B, rfl, hA, he⟩ := hor.split i hll
      have t1 : (A ++ e :: B).take i = A := by rw [← hA]; simp
      have t2 : (A ++ e :: B).drop i = e :: B := by rw [← hA]; simp
      have t0 : A ++ e :: B = (A ++ [e]) ++ B := by simp
      have t3 : (A ++ e :: B).take (i + 1) = A ++ [e] := by rw [t0]; exact List.take_left' (by simp [hA])
      have t4 : (A ++ e :: B).drop (i + 1) = B := by rw [t0]; exact List.drop_left' (by simp [hA])
      clear t0
      have hct := OV.ctRows_append A (e :: B)
      rw [OV.ctRows] at hct
      rw [t1, t2] at hc
      rw [t1]
      have hA2 : (OV.cells (OV.mkRows k A)).length = i := by rw [OV.cells, List.length_map, OV.mkRows_len, hA]
      have hs2 := OV.mkRows_snoc k A e
      have hs3 := OV.ctRows_snoc A e
      obtain rfl : _ = _ := he
      simp only [OV.ctRow_cons, OV.ctRow_nil, OV.ct_v, Nat.add_zero, OV.mkRow_cons, OV.mkRow_nil, OV.mk_v, leaf_int, leaf_bool, leaf_str, one_cast] at hct hs2 hs3
      generalize hkk : k + (OV.ctRows A : Int) = kk at hs2 ⊢
      generalize OV.mkRows k A = A2 at hs2 hc hA2
      have gm : ∀ (c : List Cell) (Y : List (List Cell)), (OV.cells A2 ++ c :: Y)[i]? = some c := fun c Y => get_mid hA2
      have sm : ∀ (c c2 : List Cell) (Y : List (List Cell)), (OV.cells A2 ++ c :: Y).set i c2 = OV.cells A2 ++ c2 :: Y := fun c c2 Y => set_mid hA2
      have hc0 := hc
      simp only [List.append_assoc, List.cons_append, List.nil_append, List.append_nil, OV.row_cons, OV.row_nil, OV.v_rows, rowsRows_cons, rowsRows_app, cells_append, cells_cons, cellv_cons, cellv_nil, OV.val_v] at hc0
      have hgn := hc0.owns (n, _) List.mem_cons_self
      simp only at hgn
      have iw0_0 : IntKind.i64.wrap (kk + 1) = kk + 1 := IntWalk.i64_in _ (by omega)
      simp (maxSteps := 1000000) -dsimp -implicitDefEqProofs only [go_sem, ↓reduceIte, keep50, ib50, mk50, Tryd.f50, hgn, gm, sm, upd_upd, upd_same, iw0_0]
      repeat' (with_reducible first | intro _ | refine And.intro ?_ ?_)
      all_goals try omega
      have hq0 := hc0.trans (Chg.set (o' := .row 1 (OV.cells A2 ++ [.v (.int .i64 (kk))] :: OV.cells B)) hc0.owns (hc0.nodup nd))
      have hg0 : upd g n (.row 1 (OV.cells A2 ++ [.v (.int .i64 (kk))] :: OV.cells B)) n = some (.row 1 (OV.cells A2 ++ [.v (.int .i64 (kk))] :: OV.cells B)) := upd_same _ _ _
      refine ⟨(i + 1, (upd g n (.row 1 (OV.cells A2 ++ [.v (.int .i64 (kk))] :: OV.cells B)))), ?_⟩
      simp only [t3, t4, hs2, hs3]
      refine ⟨?_, Heap.le_refl _, ⟨by omega, ?_⟩, by omega⟩
      · repeat' (with_reducible refine And.intro ?_ ?_)
        all_goals first | rfl | trivial | omega | (rw [IntWalk.i64_in _ (by omega)]; omega)
      · simpa only [List.append_assoc, List.cons_append, List.nil_append, List.append_nil, OV.row_cons, OV.row_nil, OV.v_rows, rowsRows_cons, rowsRows_app, cells_append, cells_cons, cellv_cons, cellv_nil, OV.val_v] using hq0
    · have hi2 : i = es.length := by omega
      subst hi2
      rw [List.take_length, List.drop_length, List.append_nil] at hc
      rw [List.take_length]
      simp (maxSteps := 1000000) -dsimp -implicitDefEqProofs only [go_sem, ↓reduceIte, keep50, ib50, mk50, Tryd.f50, Int.lt_irrefl, Nat.lt_irrefl]
      try intro _
      refine ⟨g, Heap.le_refl _, ?_⟩
      first | exact hc | exact ⟨rfl, hc⟩

def keep19 : List Nat := [0, 1, 2, 4]
def ib19 : List Nat := [2]
def mk19 : Marks := fun _ => ([], .nil, [])
set_option maxRecDepth 100000 in
theorem mark_Tape (x : DTape) : MarkA Tryd.prog 19 x.o := by
  intro e k h he h0 h1 ho nd
  obtain ⟨y_1, y_2, y_3, rfl, o_1, o_2, o_3⟩ := he
  simp only [OV.ctTop_cons, OV.ctTop_nil, OV.ctT_v, OV.mkTop_cons, OV.mkTop_nil, OV.mkT_v, Nat.add_zero, Nat.zero_add, zero_cast, Int.add_zero, Int.zero_add, o_1.ctT, o_1.mkT, o_2.ctT, o_2.mkT, o_3.ctT, o_3.mkT] at h1 ⊢
  have hc0 := Chg.refl ho
  simp only [List.append_assoc, List.cons_append, List.nil_append, List.append_nil, OV.row_cons, OV.row_nil, OV.v_rows, rowsRows_cons, rowsRows_app, cells_append, cells_cons, cellv_cons, cellv_nil, OV.val_v] at hc0 nd ⊢
  obtain ⟨L0, hL0⟩ : ∃ L : List (Nat × HObj), L = (y_1.rows ++ (y_2.rows ++ (y_3.rows))) := ⟨_, rfl⟩
  replace hc0 : Chg h h L0 (y_1.rows ++ (y_2.rows ++ (y_3.rows))) := by rw [hL0]; exact hc0
  rw [← hL0] at nd ⊢
  refine fnHF 18 keep19 ib19 mk19 mix Tryd.func19 rfl (by kernel_rfl) (by simp) ?_
  simp (maxSteps := 1000000) -dsimp -implicitDefEqProofs only [go_sem, ↓reduceIte, keep19, ib19, mk19, Tryd.f19, OV.map_val, OV.map_val_nil, OV.val_v, o_1.flat, o_1.one, o_2.flat, o_2.one, o_3.flat, o_3.one]
  have hp0 : Chg h h L0 ((([] : List (Nat × HObj))) ++ ((y_1.rows) ++ (y_2.rows ++ y_3.rows))) := by simpa only [List.append_assoc, List.cons_append, List.nil_append, List.append_nil, OV.row_cons, OV.row_nil, OV.v_rows, rowsRows_cons, rowsRows_app, cells_append, cells_cons, cellv_cons, cellv_nil, OV.val_v] using hc0
  refine HFnF.mkH (mark_InstrS x.fCode y_1 (k) _ o_1 (by omega) (by omega) hp0.owns.right.left (nodup_mid (hp0.nodup nd))) ?_
  rintro r g0 ⟨rfl, hch0⟩
  have hr0 := hp0.trans (Chg.mid hp0.owns (hp0.nodup nd) (by simpa only [List.append_assoc, List.cons_append, List.nil_append, List.append_nil, OV.row_cons, OV.row_nil, OV.v_rows, rowsRows_cons, rowsRows_app, cells_append, cells_cons, cellv_cons, cellv_nil, OV.val_v] using hch0))
  simp (maxSteps := 1000000) -dsimp -implicitDefEqProofs only [go_sem, ↓reduceIte, keep19, ib19, mk19, Tryd.f19, OV.map_val, OV.map_val_nil, OV.val_v, o_1.flat, o_1.one, o_2.flat, o_2.one, o_3.flat, o_3.one]
  have hp1 : Chg h g0 L0 (((y_1.mk (k)).rows) ++ ((y_2.rows) ++ (y_3.rows))) := by simpa only [List.append_assoc, List.cons_append, List.nil_append, List.append_nil, OV.row_cons, OV.row_nil, OV.v_rows, rowsRows_cons, rowsRows_app, cells_append, cells_cons, cellv_cons, cellv_nil, OV.val_v] using hr0
  refine HFnF.mkH (mark_GuardS x.fGuards y_2 (k + (y_1.ct : Int)) _ o_2 (by omega) (by omega) hp1.owns.right.left (nodup_mid (hp1.nodup nd))) ?_
  rintro r g1 ⟨rfl, hch1⟩
  have hr1 := hp1.trans (Chg.mid hp1.owns (hp1.nodup nd) (by simpa only [List.append_assoc, List.cons_append, List.nil_append, List.append_nil, OV.row_cons, OV.row_nil, OV.v_rows, rowsRows_cons, rowsRows_app, cells_append, cells_cons, cellv_cons, cellv_nil, OV.val_v] using hch1))
  simp (maxSteps := 1000000) -dsimp -implicitDefEqProofs only [go_sem, ↓reduceIte, keep19, ib19, mk19, Tryd.f19, OV.map_val, OV.map_val_nil, OV.val_v, o_1.flat, o_1.one, o_2.flat, o_2.one, o_3.flat, o_3.one]
  have hp2 : Chg h g1 L0 (((y_1.mk (k)).rows ++ (y_2.mk (k + (y_1.ct : Int))).rows) ++ ((y_3.rows) ++ (([] : List (Nat × HObj))))) := by simpa only [List.append_assoc, List.cons_append, List.nil_append, List.append_nil, OV.row_cons, OV.row_nil, OV.v_rows, rowsRows_cons, rowsRows_app, cells_append, cells_cons, cellv_cons, cellv_nil, OV.val_v] using hr1
  refine HFnF.mkH (mark_Int64S x.fOuts y_3 (k + (y_1.ct : Int) + (y_2.ct : Int)) _ o_3 (by omega) (by omega) hp2.owns.right.left (nodup_mid (hp2.nodup nd))) ?_
  rintro r g2 ⟨rfl, hch2⟩
  have hr2 := hp2.trans (Chg.mid hp2.owns (hp2.nodup nd) (by simpa only [List.append_assoc, List.cons_append, List.nil_append, List.append_nil, OV.row_cons, OV.row_nil, OV.v_rows, rowsRows_cons, rowsRows_app, cells_append, cells_cons, cellv_cons, cellv_nil, OV.val_v] using hch2))
  simp (maxSteps := 1000000) -dsimp -implicitDefEqProofs only [go_sem, ↓reduceIte, keep19, ib19, mk19, Tryd.f19, OV.map_val, OV.map_val_nil, OV.val_v, o_1.flat, o_1.one, o_2.flat, o_2.one, o_3.flat, o_3.one]
  refine ⟨g2, Heap.le_refl _, ?_⟩
  first
    | exact ⟨by congr 1; omega, by simpa only [List.append_assoc, List.cons_append, List.nil_append, List.append_nil, OV.row_cons, OV.row_nil, OV.v_rows, rowsRows_cons, rowsRows_app, cells_append, cells_cons, cellv_cons, cellv_nil, OV.val_v, Int.natCast_add, ← Int.add_assoc] using hr2⟩
    | exact ⟨by omega, by simpa only [List.append_assoc, List.cons_append, List.nil_append, List.append_nil, OV.row_cons, OV.row_nil, OV.v_rows, rowsRows_cons, rowsRows_app, cells_append, cells_cons, cellv_cons, cellv_nil, OV.val_v, Int.natCast_add, ← Int.add_assoc] using hr2⟩
    | simpa only [List.append_assoc, List.cons_append, List.nil_append, List.append_nil, OV.row_cons, OV.row_nil, OV.v_rows, rowsRows_cons, rowsRows_app, cells_append, cells_cons, cellv_cons, cellv_nil, OV.val_v, Int.natCast_add, ← Int.add_assoc] using hr2







open Go.Proofs
set_option linter.unusedVariables false
set_option linter.unusedSimpArgs false


def keep51 : List Nat := [0, 1, 4, 5, 9, 18, 27, 36, 45]
def ib51 : List Nat := []
def mk51 : Marks := fun _ => ([], .nil, [])
set_option maxRecDepth 100000 in
theorem held_InstrS (l : List DInstr) : HeldS Tryd.prog 51 (OS DInstr.o 4 l) := by
  intro y k hy h0 h1
  rcases hy with ⟨rfl, hl⟩ | ⟨n, es, rfl, hor⟩
  · rw [OV.mk_nil, dat_nil, OV.ct_nil]
    refine fn0F 49 keep51 ib51 mk51 mix Tryd.func51 rfl (by kernel_rfl) (by simp) fun h => ?_
    simp (maxSteps := 1000000) -dsimp -implicitDefEqProofs only [go_sem, ↓reduceIte, keep51, ib51, mk51, Tryd.f51]
    refine loopF (keep := keep51) (ib := ib51) (mk := mk51) mix (by kernel_rfl) (fun _ : Unit => [(0, .sl 4 [] false), (1, I k), (5, I 0)]) (fun _ => h) (fun _ => True) (fun _ => 0) () (by simp [SatL, tget, Heap.le_refl]) ?_
    intro _ _
    simp (maxSteps := 1000000) -dsimp -implicitDefEqProofs only [go_sem, ↓reduceIte, keep51, ib51, mk51, Tryd.f51, zero_cast, Int.lt_irrefl]
    first | done | (intro _; simp) | simp
  · rw [OV.mk_sl, dat_sl, OV.ct_sl]
    rw [OV.ct_sl] at h1
    have hlen : (OV.datRows (OV.mkRows k es)).length = es.length := by rw [datRows_len, OV.mkRows_len]
    refine fn0F 49 keep51 ib51 mk51 mix Tryd.func51 rfl (by kernel_rfl) (by simp) fun h => ?_
    simp (maxSteps := 1000000) -dsimp -implicitDefEqProofs only [go_sem, ↓reduceIte, keep51, ib51, mk51, Tryd.f51, hlen]
    refine loopF (keep := keep51) (ib := ib51) (mk := mk51) mix (by kernel_rfl) (fun i : Nat => [(0, .sl 4 (OV.datRows (OV.mkRows k es)) false), (1, I (k + OV.ctRows (es.take i))), (5, I i)]) (fun _ => h) (fun i => i ≤ es.length) (fun i => es.length - i) 0 (by simp [SatL, tget, OV.ctRows, Heap.le_refl]) ?_
    intro i hi
    rcases Nat.lt_or_ge i es.length with hlt | hge
    · have hll : i < l.length := by rw [hor.length]; exact hlt
      obtain ⟨A, e, B, rfl, hA, he⟩ := hor.split i hll
      have t1 : (A ++ e :: B).take i = A := by rw [← hA]; simp
      have t0 : A ++ e :: B = (A ++ [e]) ++ B := by simp
      have t3 : (A ++ e :: B).take (i + 1) = A ++ [e] := by rw [t0]; exact List.take_left' (by simp [hA])
      clear t0
      have hct := OV.ctRows_append A (e :: B)
      rw [OV.ctRows] at hct
      rw [t1]
      have hs3 := OV.ctRows_snoc A e
      have hD : OV.datRows (OV.mkRows k (A ++ e :: B)) = OV.datRows (OV.mkRows k A) ++ (OV.mkRow (k + (OV.ctRows A : Int)) e).map OV.dat :: OV.datRows (OV.mkRows (k + (OV.ctRows A : Int) + (OV.ctRow e : Int)) B) := by
        rw [OV.mkRows_append, datRows_append, OV.mkRows, datRows_cons]
      have hA2 : (OV.datRows (OV.mkRows k A)).length = i := by rw [datRows_len, OV.mkRows_len, hA]
      have hi2 : (i : Int) < (A ++ e :: B).length := by omega
      obtain rfl := he
      simp only [OV.ctRow_cons, OV.ctRow_nil, OV.ct_v, Nat.add_zero, one_cast] at hct hs3
      generalize hkk : k + (OV.ctRows A : Int) = kk at hD ⊢
      have gm : (OV.datRows (OV.mkRows k (A ++ [.v (.int .i64 l[i].fOp), .v (.int .i64 l[i].fA), .v (.int .i64 l[i].fB), .v (.int .i64 l[i].fNum)] :: B)))[i]? = some ((OV.mkRow kk [.v (.int .i64 l[i].fOp), .v (.int .i64 l[i].fA), .v (.int .i64 l[i].fB), .v (.int .i64 l[i].fNum)]).map OV.dat) := by rw [hD]; exact get_mid hA2
      simp only [OV.mkRow_cons, OV.mkRow_nil, OV.mk_v, leaf_int, leaf_bool, leaf_str, OV.ct_v, one_cast, map_dat_cons, map_dat_nil, dat_v] at gm
      clear hD
      generalize OV.datRows (OV.mkRows k (A ++ [.v (.int .i64 l[i].fOp), .v (.int .i64 l[i].fA), .v (.int .i64 l[i].fB), .v (.int .i64 l[i].fNum)] :: B)) = DD at gm hlen ⊢
      have iw0_0 : IntKind.i64.wrap (kk + 1) = kk + 1 := IntWalk.i64_in _ (by omega)
      have iw0_1 : IntKind.i64.wrap (kk + 1 + 1) = kk + 1 + 1 := IntWalk.i64_in _ (by omega)
      have iw0_2 : IntKind.i64.wrap (kk + 1 + 1 + 1) = kk + 1 + 1 + 1 := IntWalk.i64_in _ (by omega)
      have iw0_3 : IntKind.i64.wrap (kk + 1 + 1 + 1 + 1) = kk + 1 + 1 + 1 + 1 := IntWalk.i64_in _ (by omega)
      simp (maxSteps := 1000000) -dsimp -implicitDefEqProofs only [go_sem, ↓reduceIte, keep51, ib51, mk51, Tryd.f51, hlen, hi2, gm, eq_self, decide_true, Bool.not_true, bne_self_eq_false, iw0_0, iw0_1, iw0_2, iw0_3]
      repeat' (with_reducible first | intro _ | refine And.intro ?_ ?_)
      all_goals try omega
      all_goals try (exact absurd rfl (by assumption))
      refine ⟨i + 1, ?_⟩
      simp only [t3, hs3]
      repeat' (with_reducible first | intro _ | refine And.intro ?_ ?_)
      all_goals first | rfl | trivial | omega | exact Heap.le_refl _ | (rw [IntWalk.i64_in _ (by omega)]; omega)
    · have hi2 : i = es.length := by omega
      subst hi2
      rw [List.take_length]
      simp (maxSteps := 1000000) -dsimp -implicitDefEqProofs only [go_sem, ↓reduceIte, keep51, ib51, mk51, Tryd.f51, hlen, Int.lt_irrefl, Nat.lt_irrefl]
      first | done | (intro _; rfl) | rfl



def keep52 : List Nat := [0, 1, 4, 5, 9, 18, 29]
def ib52 : List Nat := []
def mk52 : Marks := fun _ => ([], .nil, [])
set_option maxRecDepth 100000 in
theorem held_GuardS (l : List DGuard) : HeldS Tryd.prog 52 (OS DGuard.o 2 l) := by
  intro y k hy h0 h1
  rcases hy with ⟨rfl, hl⟩ | ⟨n, es, rfl, hor⟩
  · rw [OV.mk_nil, dat_nil, OV.ct_nil]
    refine fn0F 33 keep52 ib52 mk52 mix Tryd.func52 rfl (by kernel_rfl) (by simp) fun h => ?_
    simp (maxSteps := 1000000) -dsimp -implicitDefEqProofs only [go_sem, ↓reduceIte, keep52, ib52, mk52, Tryd.f52]
    refine loopF (keep := keep52) (ib := ib52) (mk := mk52) mix (by kernel_rfl) (fun _ : Unit => [(0, .sl 2 [] false), (1, I k), (5, I 0)]) (fun _ => h) (fun _ => True) (fun _ => 0) () (by simp [SatL, tget, Heap.le_refl]) ?_
    intro _ _
    simp (maxSteps := 1000000) -dsimp -implicitDefEqProofs only [go_sem, ↓reduceIte, keep52, ib52, mk52, Tryd.f52, zero_cast, Int.lt_irrefl]
    first | done | (intro _; simp) | simp
  · rw [OV.mk_sl, dat_sl, OV.ct_sl]
    rw [OV.ct_sl] at h1
    have hlen : (OV.datRows (OV.mkRows k es)).length = es.length := by rw [datRows_len, OV.mkRows_len]
    refine fn0F 33 keep52 ib52 mk52 mix Tryd.func52 rfl (by kernel_rfl) (by simp) fun h => ?_
    simp (maxSteps := 1000000) -dsimp -implicitDefEqProofs only [go_sem, ↓reduceIte, keep52, ib52, mk52, Tryd.f52, hlen]
    refine loopF (keep := keep52) (ib := ib52) (mk := mk52) mix (by kernel_rfl) (fun i : Nat => [(0, .sl 2 (OV.datRows (OV.mkRows k es)) false), (1, I (k + OV.ctRows (es.take i))), (5, I i)]) (fun _ => h) (fun i => i ≤ es.length) (fun i => es.length - i) 0 (by simp [SatL, tget, OV.ctRows, Heap.le_refl]) ?_
    intro i hi
    rcases Nat.lt_or_ge i es.length with hlt | hge
    · have hll : i < l.length := by rw [hor.length]; exact hlt
      obtain ⟨A, e, B, rfl, hA, he⟩ := hor.split i hll
      have t1 : (A ++ e :: B).take i = A := by rw [← hA]; simp
      have t0 : A ++ e :: B = (A ++ [e]) ++ B := by simp
      have t3 : (A ++ e :: B).take (i + 1) = A ++ [e] := by rw [t0]; exact List.take_left' (by simp [hA])
      clear t0
      have hct := OV.ctRows_append A (e :: B)
      rw [OV.ctRows] at hct
      rw [t1]
      have hs3 := OV.ctRows_snoc A e
      have hD : OV.datRows (OV.mkRows k (A ++ e :: B)) = OV.datRows (OV.mkRows k A) ++ (OV.mkRow (k + (OV.ctRows A : Int)) e).map OV.dat :: OV.datRows (OV.mkRows (k + (OV.ctRows A : Int) + (OV.ctRow e : Int)) B) := by
        rw [OV.mkRows_append, datRows_append, OV.mkRows, datRows_cons]
      have hA2 : (OV.datRows (OV.mkRows k A)).length = i := by rw [datRows_len, OV.mkRows_len, hA]
      have hi2 : (i : Int) < (A ++ e :: B).length := by omega
      obtain rfl := he
      simp only [OV.ctRow_cons, OV.ctRow_nil, OV.ct_v, Nat.add_zero, one_cast] at hct hs3
      generalize hkk : k + (OV.ctRows A : Int) = kk at hD ⊢
      have gm : (OV.datRows (OV.mkRows k (A ++ [.v (.int .i64 l[i].fReg), .v (.bool l[i].fZero)] :: B)))[i]? = some ((OV.mkRow kk [.v (.int .i64 l[i].fReg), .v (.bool l[i].fZero)]).map OV.dat) := by rw [hD]; exact get_mid hA2
      simp only [OV.mkRow_cons, OV.mkRow_nil, OV.mk_v, leaf_int, leaf_bool, leaf_str, OV.ct_v, one_cast, map_dat_cons, map_dat_nil, dat_v] at gm
      clear hD
      generalize OV.datRows (OV.mkRows k (A ++ [.v (.int .i64 l[i].fReg), .v (.bool l[i].fZero)] :: B)) = DD at gm hlen ⊢
      have iw0_0 : IntKind.i64.wrap (kk + 1) = kk + 1 := IntWalk.i64_in _ (by omega)
      have iw0_1 : IntKind.i64.wrap (kk + 1 + 1) = kk + 1 + 1 := IntWalk.i64_in _ (by omega)
      simp (maxSteps := 1000000) -dsimp -implicitDefEqProofs only [go_sem, ↓reduceIte, keep52, ib52, mk52, Tryd.f52, hlen, hi2, gm, eq_self, decide_true, Bool.not_true, bne_self_eq_false, iw0_0, iw0_1]
      repeat' (with_reducible first | intro _ | refine And.intro ?_ ?_)
      all_goals try omega
      all_goals try (exact absurd rfl (by assumption))
      refine ⟨i + 1, ?_⟩
      simp only [t3, hs3]
      repeat' (with_reducible first | intro _ | refine And.intro ?_ ?_)
      all_goals first | rfl | trivial | omega | exact Heap.le_refl _ | (rw [IntWalk.i64_in _ (by omega)]; omega)
    · have hi2 : i = es.length := by omega
      subst hi2
      rw [List.take_length]
      simp (maxSteps := 1000000) -dsimp -implicitDefEqProofs only [go_sem, ↓reduceIte, keep52, ib52, mk52, Tryd.f52, hlen, Int.lt_irrefl, Nat.lt_irrefl]
      first | done | (intro _; rfl) | rfl

def keep53 : List Nat := [0, 1, 4, 5, 9, 17]
def ib53 : List Nat := []
def mk53 : Marks := fun _ => ([], .nil, [])
set_option maxRecDepth 100000 in
theorem held_Int64S (l : List Int) : HeldS Tryd.prog 53 (OS (oP I) 1 l) := by
  intro y k hy h0 h1
  rcases hy with ⟨rfl, hl⟩ | ⟨n, es, rfl, hor⟩
  · rw [OV.mk_nil, dat_nil, OV.ct_nil]
    refine fn0F 21 keep53 ib53 mk53 mix Tryd.func53 rfl (by kernel_rfl) (by simp) fun h => ?_
    simp (maxSteps := 1000000) -dsimp -implicitDefEqProofs only [go_sem, ↓reduceIte, keep53, ib53, mk53, Tryd.f53]
    refine loopF (keep := keep53) (ib := ib53) (mk := mk53) mix (by kernel_rfl) (fun _ : Unit => [(0, .sl 1 [] false), (1, I k), (5, I 0)]) (fun _ => h) (fun _ => True) (fun _ => 0) () (by simp [SatL, tget, Heap.le_refl]) ?_
    intro _ _
    simp (maxSteps := 1000000) -dsimp -implicitDefEqProofs only [go_sem, ↓reduceIte, keep53, ib53, mk53, Tryd.f53, zero_cast, Int.lt_irrefl]
    first | done | (intro _; simp) | simp
  · rw [OV.mk_sl, dat_sl, OV.ct_sl]
    rw [OV.ct_sl] at h1
    have hlen : (OV.datRows (OV.mkRows k es)).length = es.length := by rw [datRows_len, OV.mkRows_len]
    refine fn0F 21 keep53 ib53 mk53 mix Tryd.func53 rfl (by kernel_rfl) (by simp) fun h => ?_
    simp (maxSteps := 1000000) -dsimp -implicitDefEqProofs only [go_sem, ↓reduceIte, keep53, ib53, mk53, Tryd.f53, hlen]
    refine loopF (keep := keep53) (ib := ib53) (mk := mk53) mix (by kernel_rfl) (fun i : Nat => [(0, .sl 1 (OV.datRows (OV.mkRows k es)) false), (1, I (k + OV.ctRows (es.take i))), (5, I i)]) (fun _ => h) (fun i => i ≤ es.length) (fun i => es.length - i) 0 (by simp [SatL, tget, OV.ctRows, Heap.le_refl]) ?_
    intro i hi
    rcases Nat.lt_or_ge i es.length with hlt | hge
    · have hll : i < l.length := by rw [hor.length]; exact hlt
      obtain ⟨A, e, B, rfl, hA, he⟩ := hor.split i hll
      have t1 : (A ++ e :: B).take i = A := by rw [← hA]; simp
      have t0 : A ++ e :: B = (A ++ [e]) ++ B := by simp
      have t3 : (A ++ e :: B).take (i + 1) = A ++ [e] := by rw [t0]; exact List.take_left' (by simp [hA])
      clear t0
      have hct := OV.ctRows_append A (e :: B)
      rw [OV.ctRows] at hct
      rw [t1]
      have hs3 := OV.ctRows_snoc A e
      have hD : OV.datRows (OV.mkRows k (A ++ e :: B)) = OV.datRows (OV.mkRows k A) ++ (OV.mkRow (k + (OV.ctRows A : Int)) e).map OV.dat :: OV.datRows (OV.mkRows (k + (OV.ctRows A : Int) + (OV.ctRow e : Int)) B) := by
        rw [OV.mkRows_append, datRows_append, OV.mkRows, datRows_cons]
      have hA2 : (OV.datRows (OV.mkRows k A)).length = i := by rw [datRows_len, OV.mkRows_len, hA]
      have hi2 : (i : Int) < (A ++ e :: B).length := by omega
      obtain rfl : _ = _ := he
      simp only [OV.ctRow_cons, OV.ctRow_nil, OV.ct_v, Nat.add_zero, one_cast] at hct hs3
      generalize hkk : k + (OV.ctRows A : Int) = kk at hD ⊢
      have gm : (OV.datRows (OV.mkRows k (A ++ [.v (.int .i64 l[i])] :: B)))[i]? = some ((OV.mkRow kk [.v (.int .i64 l[i])]).map OV.dat) := by rw [hD]; exact get_mid hA2
      simp only [OV.mkRow_cons, OV.mkRow_nil, OV.mk_v, leaf_int, leaf_bool, leaf_str, OV.ct_v, one_cast, map_dat_cons, map_dat_nil, dat_v] at gm
      clear hD
      generalize OV.datRows (OV.mkRows k (A ++ [.v (.int .i64 l[i])] :: B)) = DD at gm hlen ⊢
      have iw0_0 : IntKind.i64.wrap (kk + 1) = kk + 1 := IntWalk.i64_in _ (by omega)
      simp (maxSteps := 1000000) -dsimp -implicitDefEqProofs only [go_sem, ↓reduceIte, keep53, ib53, mk53, Tryd.f53, hlen, hi2, gm, eq_self, decide_true, Bool.not_true, bne_self_eq_false, iw0_0]
      repeat' (with_reducible first | intro _ | refine And.intro ?_ ?_)
      all_goals try omega
      all_goals try (exact absurd rfl (by assumption))
      refine ⟨i + 1, ?_⟩
      simp only [t3, hs3]
      repeat' (with_reducible first | intro _ | refine And.intro ?_ ?_)
      all_goals first | rfl | trivial | omega | exact Heap.le_refl _ | (rw [IntWalk.i64_in _ (by omega)]; omega)
    · have hi2 : i = es.length := by omega
      subst hi2
      rw [List.take_length]
      simp (maxSteps := 1000000) -dsimp -implicitDefEqProofs only [go_sem, ↓reduceIte, keep53, ib53, mk53, Tryd.f53, hlen, Int.lt_irrefl, Nat.lt_irrefl]
      first | done | (intro _; rfl) | rfl

def keep20 : List Nat := [0, 1, 2, 4, 10, 16, 22]
def ib20 : List Nat := [2]
def mk20 : Marks := fun _ => ([], .nil, [])
set_option maxRecDepth 100000 in
theorem held_Tape (x : DTape) : HeldA Tryd.prog 20 x.o := by
  intro e k he h0 h1
  obtain ⟨y_1, y_2, y_3, rfl, o_1, o_2, o_3⟩ := he
  simp only [OV.ctTop_cons, OV.ctTop_nil, OV.ctT_v, OV.mkTop_cons, OV.mkTop_nil, OV.mkT_v, Nat.add_zero, Nat.zero_add, zero_cast, Int.add_zero, Int.zero_add, o_1.ctT, o_1.mkT, o_2.ctT, o_2.mkT, o_3.ctT, o_3.mkT, map_dat_cons, map_dat_nil, dat_v] at h1 ⊢
  refine fn0F 24 keep20 ib20 mk20 mix Tryd.func20 rfl (by kernel_rfl) (by simp) fun h => ?_
  simp (maxSteps := 1000000) -dsimp -implicitDefEqProofs only [go_sem, ↓reduceIte, keep20, ib20, mk20, Tryd.f20, o_1.datflat, o_1.datone, o_2.datflat, o_2.datone, o_3.datflat, o_3.datone]
  repeat' (with_reducible first | intro _ | refine And.intro ?_ ?_)
  all_goals try omega
  refine HFnF.mk (held_InstrS x.fCode y_1 (k) o_1 (by omega) (by omega)) ?_
  simp (maxSteps := 1000000) -dsimp -implicitDefEqProofs only [go_sem, ↓reduceIte, keep20, ib20, mk20, Tryd.f20, o_1.datflat, o_1.datone, o_2.datflat, o_2.datone, o_3.datflat, o_3.datone]
  repeat' (with_reducible first | intro _ | refine And.intro ?_ ?_)
  all_goals try omega
  refine HFnF.mk (held_GuardS x.fGuards y_2 (k + (y_1.ct : Int)) o_2 (by omega) (by omega)) ?_
  simp (maxSteps := 1000000) -dsimp -implicitDefEqProofs only [go_sem, ↓reduceIte, keep20, ib20, mk20, Tryd.f20, o_1.datflat, o_1.datone, o_2.datflat, o_2.datone, o_3.datflat, o_3.datone]
  repeat' (with_reducible first | intro _ | refine And.intro ?_ ?_)
  all_goals try omega
  refine HFnF.mk (held_Int64S x.fOuts y_3 (k + (y_1.ct : Int) + (y_2.ct : Int)) o_3 (by omega) (by omega)) ?_
  simp (maxSteps := 1000000) -dsimp -implicitDefEqProofs only [go_sem, ↓reduceIte, keep20, ib20, mk20, Tryd.f20, o_1.datflat, o_1.datone, o_2.datflat, o_2.datone, o_3.datflat, o_3.datone]
  repeat' (with_reducible first | intro _ | refine And.intro ?_ ?_)
  all_goals try omega
  all_goals first | done | rfl | trivial | (congr 1; omega) | omega | (simp only [go_sem]; omega)








open Go.Proofs
set_option linter.unusedVariables false
set_option linter.unusedSimpArgs false
def keep57 : List Nat := [0, 1, 2, 6]
def ib57 : List Nat := []
def mk57 : Marks := fun _ => ([], .nil, [])
theorem l00In (n a b : Int) : Fn0 Tryd.prog 57 [I n, I a, I b] (.bool (decide (a ≤ n ∧ n ≤ b))) := by
  refine fn0F 15 keep57 ib57 mk57 mix Tryd.func57 rfl (by kernel_rfl) (by simp) fun h => ?_
  simp (maxSteps := 1000000) -dsimp -implicitDefEqProofs only [go_sem, ↓reduceIte, keep57, ib57, mk57, Tryd.f57]
  repeat' (with_reducible first | intro _ | refine And.intro ?_ ?_)
  all_goals try (first | (simp [*]; done) | omega | grind)
def keep67 : List Nat := [0, 1, 2, 6]
def ib67 : List Nat := []
def mk67 : Marks := fun _ => ([], .nil, [])
theorem within (n a b : Int) : Fn0 Tryd.prog 67 [I n, I a, I b] (.bool (decide (a ≤ n ∧ n ≤ b))) := by
  refine fn0F 15 keep67 ib67 mk67 mix Tryd.func67 rfl (by kernel_rfl) (by simp) fun h => ?_
  simp (maxSteps := 1000000) -dsimp -implicitDefEqProofs only [go_sem, ↓reduceIte, keep67, ib67, mk67, Tryd.f67]
  repeat' (with_reducible first | intro _ | refine And.intro ?_ ?_)
  all_goals try (first | (simp [*]; done) | omega | grind)
def keep99 : List Nat := [0, 2]
def ib99 : List Nat := []
def mk99 : Marks := fun _ => ([], .nil, [])
theorem l01Number (n : Int) : Fn0 Tryd.prog 99 [I n] (.bool (decide (Num n))) := by
  refine fn0F 5 keep99 ib99 mk99 mix Tryd.func99 rfl (by kernel_rfl) (by simp) fun h => ?_
  simp (maxSteps := 1000000) -dsimp -implicitDefEqProofs only [go_sem, ↓reduceIte, keep99, ib99, mk99, Tryd.f99]
  first | refine HFnF.mk (l00In n 0 1000002) ?_ | refine CallSF.mk (l00In n 0 1000002) ?_ | refine HFnF.mkAt (l00In n 0 1000002) ?_ | refine CallSF.mk (FnAt.fn0 (l00In n 0 1000002)) ?_
  simp (maxSteps := 1000000) -dsimp -implicitDefEqProofs only [go_sem, ↓reduceIte, keep99, ib99, mk99, Tryd.f99]
  all_goals rfl
def keep94 : List Nat := [0, 2]
def ib94 : List Nat := []
def mk94 : Marks := fun _ => ([], .nil, [])
theorem isNumber (n : Int) : Fn0 Tryd.prog 94 [I n] (.bool (decide (Num n))) := by
  refine fn0F 5 keep94 ib94 mk94 mix Tryd.func94 rfl (by kernel_rfl) (by simp) fun h => ?_
  simp (maxSteps := 1000000) -dsimp -implicitDefEqProofs only [go_sem, ↓reduceIte, keep94, ib94, mk94, Tryd.f94]
  first | refine HFnF.mk (within n 0 1000002) ?_ | refine CallSF.mk (within n 0 1000002) ?_ | refine HFnF.mkAt (within n 0 1000002) ?_ | refine CallSF.mk (FnAt.fn0 (within n 0 1000002)) ?_
  simp (maxSteps := 1000000) -dsimp -implicitDefEqProofs only [go_sem, ↓reduceIte, keep94, ib94, mk94, Tryd.f94]
  all_goals rfl
def keep105 : List Nat := [0, 1, 4, 5, 7, 8, 9, 16]
def ib105 : List Nat := []
def mk105 : Marks := fun _ => ([], .nil, [])
set_option maxRecDepth 100000 in
theorem idxF_Int64S (a : List Int) (p : Int → Bool) (g : FuncId) (cap : List HVal) {h0 : Heap} (hc : ∀ x ∈ a, FnAt Tryd.prog g ([(.int .i64 x)] ++ cap) (.bool (p x)) h0) : FnAt Tryd.prog 105 [(sls 1 (fun n => [I n]) a), .fn (.func g) [] cap] (I (idxOf p a)) h0 := by
  refine fnAtF 19 keep105 ib105 mk105 mix Tryd.func105 rfl (by kernel_rfl) (by simp) fun h hle => ?_
  simp -dsimp -implicitDefEqProofs only [go_sem, ↓reduceIte, keep105, ib105, mk105, Tryd.f105, Tryd.f105]
  intro _
  refine loopF (keep := keep105) (ib := ib105) (mk := mk105) mix (by kernel_rfl) (fun k : Nat => [(0, (sls 1 (fun n => [I n]) a)), (1, .fn (.func g) [] cap), (7, I a.length), (8, I k)]) (fun _ => h) (fun k => k ≤ a.length ∧ ∀ x ∈ a.take k, p x = false) (fun k => a.length - k) 0 (by simp [SatL, tget, Heap.le_refl]) ?_
  intro k ⟨hk, hp⟩
  rcases Nat.lt_or_ge k a.length with hlt | hge
  · have ea : a[k]? = some a[k] := List.getElem?_eq_getElem hlt
    simp -dsimp -implicitDefEqProofs only [go_sem, ↓reduceIte, keep105, ib105, mk105, Tryd.f105, Tryd.f105, ea]
    repeat' (with_reducible first | intro _ | refine And.intro ?_ ?_)
    all_goals try omega
    have hx := hc a[k] (List.getElem_mem hlt)
    refine HFnF.mkAt (hx.mono hle) ?_
    cases hpk : p a[k] with
    | true =>
      simp -dsimp -implicitDefEqProofs only [go_sem, ↓reduceIte, keep105, ib105, mk105, Tryd.f105, Tryd.f105]
      repeat' (with_reducible first | intro _ | refine And.intro ?_ ?_)
      all_goals first | exact (idxOf_some hlt hp hpk).symm | rfl | (rw [idxOf_some hlt hp hpk])
    | false =>
      simp -dsimp -implicitDefEqProofs only [go_sem, ↓reduceIte, keep105, ib105, mk105, Tryd.f105, Tryd.f105]
      refine ⟨k + 1, ?_⟩
      repeat' (with_reducible refine And.intro ?_ ?_)
      all_goals try (rw [IntWalk.i64_in _ (by omega)]; first | rfl | omega)
      all_goals try omega
      exact all_step (P := fun x => p x = false) hlt hp hpk
  · have hk' : k = a.length := by omega
    subst hk'
    rw [List.take_length] at hp
    simp -dsimp -implicitDefEqProofs only [go_sem, ↓reduceIte, keep105, ib105, mk105, Tryd.f105, Tryd.f105, Nat.lt_irrefl]
    all_goals first | exact (idxOf_none hp).symm | rw [idxOf_none hp]
def keep86 : List Nat := [0, 1, 4]
def ib86 : List Nat := []
def mk86 : Marks := fun _ => ([], .nil, [])
set_option maxRecDepth 100000 in
theorem hasF_Int64S (a : List Int) (p : Int → Bool) (g : FuncId) (cap : List HVal) {h0 : Heap} (hc : ∀ x ∈ a, FnAt Tryd.prog g ([(.int .i64 x)] ++ cap) (.bool (p x)) h0) : FnAt Tryd.prog 86 [(sls 1 (fun n => [I n]) a), .fn (.func g) [] cap] (.bool (a.any p)) h0 := by
  refine fnAtF 9 keep86 ib86 mk86 mix Tryd.func86 rfl (by kernel_rfl) (by simp) fun h hle => ?_
  simp -dsimp -implicitDefEqProofs only [go_sem, ↓reduceIte, keep86, ib86, mk86, Tryd.f86, Tryd.f86]
  refine HFnF.mkAt ((idxF_Int64S a p g cap hc).mono hle) ?_
  simp -dsimp -implicitDefEqProofs only [go_sem, ↓reduceIte, keep86, ib86, mk86, Tryd.f86, Tryd.f86]
  all_goals first | done | exact idxOf_nonneg | rw [idxOf_nonneg]

open Go.Proofs
set_option linter.unusedVariables false
set_option linter.unusedSimpArgs false
theorem or_prim {α : Type} {c : α → HVal} : ∀ {l : List α} {es : List (List OV)}, OR (oP c) l es → es = l.map fun x => [OV.v (c x)]
  | [], [], _ => rfl
  | x :: l, e :: es, h => by rw [List.map_cons, ← or_prim h.2, h.1]
  | [], _ :: _, h => h.elim
  | _ :: _, [], h => h.elim
/-- An own slice, as what has grown. -/
theorem ungrown {α : Type} {c : α → HVal} {h g : Heap} {sz : Nat} {l : List α} {y : OV} (oy : OS (oP c) sz l y) (w : New h y.rows g) :
    ∃ o, oside h l o ∧ y.val = oval sz l.length o ∧ g = oheap h (.row sz ((l.map fun x => [c x]).map (List.map .v))) o := by
  rcases oy with ⟨rfl, rfl⟩ | ⟨n, es, rfl, hr⟩
  · rw [OV.nil_rows] at w
    exact ⟨none, rfl, rfl, funext fun m => w.upto m (by simp [namesOf])⟩
  · have he := or_prim hr
    subst he
    have hn : h n = none := w.fresh n (by rw [OV.sl_rows]; simp [namesOf])
    refine ⟨some n, hn, by simp [OV.val, oval], ?_⟩
    have hrow : (OV.sl n sz (l.map fun x => [OV.v (c x)])).rows = [(n, .row sz ((l.map fun x => [c x]).map (List.map .v)))] := by
      rw [OV.sl_rows, rows_map]
      simp [OV.cells, OV.val]
    rw [hrow] at w
    funext m
    by_cases e : m = n
    · subst e
      rw [oheap_some, upd_same]
      exact w.owns (m, _) (List.mem_cons_self ..)
    · rw [oheap_some, upd_ne _ _ _ _ e]
      exact w.upto m (by simp [namesOf, e])
open Go.Proofs
set_option linter.unusedVariables false
set_option linter.unusedSimpArgs false
end Go.Hl
namespace Go.Proofs
open Go.Shelf
def Tryd.laysM173_ren : Go.Shelf.Ren := ⟨fun | 173 => 74 | 246 => 96 | 283 => 107 | 284 => 108 | 285 => 109 | 286 => 110 | 129 => 117 | 317 => 116 | 318 => 118 | 319 => 119 | 320 => 120 | 337 => 128 | 338 => 129 | n => n, fun | 2 => 2 | 3 => 3 | 9 => 9 | 4 => 4 | 171 => 151 | 0 => 0 | 53 => 152 | 37 => 70 | 5 => 5 | 173 => 155 | 212 => 165 | 51 => 166 | 20 => 20 | 213 => 167 | 46 => 169 | 232 => 185 | 233 => 186 | n => n, fun | 17 => 0 | 18 => 4 | 19 => 5 | n => n⟩
theorem Tryd.laysM173 : Go.Proofs.LaysM.n173 Tryd.prog Tryd.laysM173_ren := {
  mixed := by kernel_rfl
  f129 := Tryd.func117.trans (congrArg some (by kernel_rfl))
  f173 := Tryd.func74.trans (congrArg some (by kernel_rfl))
  f246 := Tryd.func96.trans (congrArg some (by kernel_rfl))
  f283 := Tryd.func107.trans (congrArg some (by kernel_rfl))
  f284 := Tryd.func108.trans (congrArg some (by kernel_rfl))
  f285 := Tryd.func109.trans (congrArg some (by kernel_rfl))
  f286 := Tryd.func110.trans (congrArg some (by kernel_rfl))
  f317 := Tryd.func116.trans (congrArg some (by kernel_rfl))
  f318 := Tryd.func118.trans (congrArg some (by kernel_rfl))
  f319 := Tryd.func119.trans (congrArg some (by kernel_rfl))
  f320 := Tryd.func120.trans (congrArg some (by kernel_rfl))
  f337 := Tryd.func128.trans (congrArg some (by kernel_rfl))
  f338 := Tryd.func129.trans (congrArg some (by kernel_rfl))
  t0 := Tryd.underlying0
  a0 := Tryd.isAgg0
  z0 := Tryd.sizeOf0
  v0 := Tryd.zeroValue0
  t2 := Tryd.underlying2
  a2 := Tryd.isAgg2
  z2 := Tryd.sizeOf2
  v2 := Tryd.zeroValue2
  t3 := Tryd.underlying3
  a3 := Tryd.isAgg3
  z3 := Tryd.sizeOf3
  v3 := Tryd.zeroValue3
  t4 := Tryd.underlying4
  a4 := Tryd.isAgg4
  z4 := Tryd.sizeOf4
  v4 := Tryd.zeroValue4
  t5 := Tryd.underlying5
  a5 := Tryd.isAgg5
  z5 := Tryd.sizeOf5
  v5 := Tryd.zeroValue5
  t9 := Tryd.underlying9
  a9 := Tryd.isAgg9
  z9 := Tryd.sizeOf9
  v9 := Tryd.zeroValue9
  t20 := Tryd.underlying20
  a20 := Tryd.isAgg20
  z20 := Tryd.sizeOf20
  v20 := Tryd.zeroValue20
  t37 := Tryd.underlying70
  a37 := Tryd.isAgg70
  z37 := Tryd.sizeOf70
  v37 := Tryd.zeroValue70
  t46 := Tryd.underlying169
  a46 := Tryd.isAgg169
  z46 := Tryd.sizeOf169
  v46 := Tryd.zeroValue169
  t51 := Tryd.underlying166
  a51 := Tryd.isAgg166
  z51 := Tryd.sizeOf166
  v51 := Tryd.zeroValue166
  t53 := Tryd.underlying152
  a53 := Tryd.isAgg152
  z53 := Tryd.sizeOf152
  v53 := Tryd.zeroValue152
  t171 := Tryd.underlying151
  a171 := Tryd.isAgg151
  z171 := Tryd.sizeOf151
  v171 := Tryd.zeroValue151
  t173 := Tryd.underlying155
  a173 := Tryd.isAgg155
  z173 := Tryd.sizeOf155
  v173 := Tryd.zeroValue155
  t212 := Tryd.underlying165
  a212 := Tryd.isAgg165
  z212 := Tryd.sizeOf165
  v212 := Tryd.zeroValue165
  t213 := Tryd.underlying167
  a213 := Tryd.isAgg167
  z213 := Tryd.sizeOf167
  t232 := Tryd.underlying185
  a232 := Tryd.isAgg185
  z232 := Tryd.sizeOf185
  v232 := Tryd.zeroValue185
  t233 := Tryd.underlying186
  a233 := Tryd.isAgg186
  z233 := Tryd.sizeOf186
  v233 := Tryd.zeroValue186
  g17 := by kernel_rfl
  g18 := by kernel_rfl
  g19 := by kernel_rfl
  i0 := by kernel_rfl
  i2 := by kernel_rfl
  i3 := by kernel_rfl
  i4 := by kernel_rfl
  i5 := by kernel_rfl
  i9 := by kernel_rfl
  i20 := by kernel_rfl
  i37 := by kernel_rfl
  i46 := by kernel_rfl
  i51 := by kernel_rfl
  i53 := by kernel_rfl
  i171 := by kernel_rfl
  i173 := by kernel_rfl
  i212 := by kernel_rfl
  i232 := by kernel_rfl
  i233 := by kernel_rfl
  m17 := by kernel_rfl
  m18 := by kernel_rfl
  m19 := by kernel_rfl }
open Go.RowKit Go.Sort Go.Lib in
theorem Tryd.strconv_FormatInt_10 (n : Int) (h0 : -9223372036854775808 ≤ n) (h1 : n ≤ 9223372036854775807) (w : World) (htab : Lib.TabIs Tryd.prog w "internal/strconv.uint64pow10" .u64 Lib.pow10Tab) :
    Calls Tryd.prog 74 #[.int .i64 n, .int .i64 10] w fun e w' => e = .returned (.string ⟨(Lib.itoa n).toArray⟩) ∧ ∃ k os, w' = grow (w.drewN k) os := Any.strconv_FormatInt_10 Tryd.laysM173 n h0 h1 w htab
end Go.Proofs
namespace Go.Hl

open Go.Proofs
set_option linter.unusedVariables false
set_option linter.unusedSimpArgs false
/-! ### texts cut at a byte -/
def spB (c : UInt8) : List UInt8 → List (List UInt8)
  | [] => [[]]
  | x :: l => if x = c then [] :: spB c l else match spB c l with | [] => [[x]] | a :: r => (x :: a) :: r
theorem spB_nil (c : UInt8) : spB c [] = [[]] := rfl
theorem spB_hit (c : UInt8) (l : List UInt8) : spB c (c :: l) = [] :: spB c l := by rw [spB, if_pos rfl]
theorem spB_ne (c : UInt8) : ∀ l, spB c l ≠ []
  | [] => by simp [spB]
  | x :: l => by
    rw [spB]; split
    · simp
    · split <;> simp
theorem spB_miss {c x : UInt8} (h : x ≠ c) (l : List UInt8) : ∃ a r, spB c l = a :: r ∧ spB c (x :: l) = (x :: a) :: r := by
  cases e : spB c l with
  | nil => exact absurd e (spB_ne c l)
  | cons a r => exact ⟨a, r, rfl, by rw [spB, if_neg h, e]⟩
theorem spB_pre {c : UInt8} : ∀ (a : List UInt8) (l : List UInt8), c ∉ a → spB c (a ++ c :: l) = a :: spB c l
  | [], l, _ => spB_hit c l
  | x :: a, l, h => by
    simp only [List.mem_cons, not_or] at h
    obtain ⟨p, r, h1, h2⟩ := spB_miss (c := c) (x := x) (fun e => h.1 e.symm) (a ++ c :: l)
    rw [spB_pre a l h.2] at h1
    rw [List.cons_append, h2]
    injection h1 with h1 h3
    subst h1; subst h3; rfl
theorem spB_one {c : UInt8} : ∀ (a : List UInt8), c ∉ a → spB c a = [a]
  | [], _ => rfl
  | x :: a, h => by
    simp only [List.mem_cons, not_or] at h
    obtain ⟨p, r, h1, h2⟩ := spB_miss (c := c) (x := x) (fun e => h.1 e.symm) a
    rw [spB_one a h.2] at h1
    rw [h2]
    injection h1 with h1 h3
    subst h1; subst h3; rfl
/-- A text: without the byte, or a piece, the byte, and a rest. -/
theorem spB_cases (c : UInt8) : ∀ l : List UInt8, (c ∉ l) ∨ ∃ a r, c ∉ a ∧ l = a ++ c :: r
  | [] => .inl (by simp)
  | x :: l => by
    by_cases e : x = c
    · subst e; exact .inr ⟨[], l, by simp, rfl⟩
    · rcases spB_cases c l with h | ⟨a, r, h1, h2⟩
      · exact .inl (by simp only [List.mem_cons, not_or]; exact ⟨fun q => e q.symm, h⟩)
      · exact .inr ⟨x :: a, r, by simp only [List.mem_cons, not_or]; exact ⟨fun q => e q.symm, h1⟩, by rw [h2]; rfl⟩
theorem drop_pre (a r : List UInt8) (c : UInt8) : (a ++ c :: r).drop (a.length + 1) = r := by
  rw [show a ++ c :: r = (a ++ [c]) ++ r by simp, show a.length + 1 = (a ++ [c]).length by simp, List.drop_left]
/-! ### the library's functions at a byte -/
theorem isPre_one (c x : UInt8) (l : List UInt8) : [c].isPrefixOf (x :: l) = (c == x) := by simp [List.isPrefixOf]
theorem index_hit (c : UInt8) (l : List UInt8) : ∀ a : List UInt8, c ∉ a → Go.Lib.index (a ++ c :: l) [c] = a.length
  | [], _ => by rw [List.nil_append, Go.Lib.index, isPre_one, if_pos (by simp)]; rfl
  | x :: a, h => by
    simp only [List.mem_cons, not_or] at h
    rw [List.cons_append, Go.Lib.index, isPre_one, if_neg (by simpa using h.1), index_hit c l a h.2]
    have : ((a.length : Int) == -1) = false := by rw [beq_eq_false_iff_ne]; omega
    simp [this]
theorem index_miss (c : UInt8) : ∀ a : List UInt8, c ∉ a → Go.Lib.index a [c] = -1
  | [], _ => by simp [Go.Lib.index]
  | x :: a, h => by
    simp only [List.mem_cons, not_or] at h
    rw [Go.Lib.index, isPre_one, if_neg (by simpa using h.1), index_miss c a h.2]; rfl
theorem cut_hit (c : UInt8) (a l : List UInt8) (h : c ∉ a) : Go.Lib.cut (a ++ c :: l) [c] = (a, l, true) := by
  rw [Go.Lib.cut, index_hit c l a h, if_pos (by omega)]
  simp [List.drop_append]
theorem cut_miss (c : UInt8) (a : List UInt8) (h : c ∉ a) : Go.Lib.cut a [c] = (a, [], false) := by
  rw [Go.Lib.cut, index_miss c a h, if_neg (by omega)]
theorem splitK_spB (c : UInt8) : ∀ (k : Nat) (l : List UInt8), l.count c ≤ k → Go.Lib.splitK [c] 0 k l = spB c l
  | 0, l, h => by
    have : c ∉ l := fun hm => by have := List.count_pos_iff.2 hm; omega
    rw [Go.Lib.splitK, spB_one l this]
  | k + 1, l, h => by
    rcases spB_cases c l with h1 | ⟨a, r, h1, rfl⟩
    · rw [Go.Lib.splitK, index_miss c l h1, spB_one l h1]; rfl
    · have e : ((a.length : Int) == -1) = false := by rw [beq_eq_false_iff_ne]; omega
      rw [Go.Lib.splitK, index_hit c r a h1, e, if_neg (by simp), spB_pre a r h1]
      have hc : r.count c ≤ k := by simp [List.count_append] at h; omega
      simp only [List.length_singleton, Int.toNat_natCast, Nat.add_zero]
      rw [List.take_left, drop_pre, splitK_spB c k _ hc]
theorem count_le (c : UInt8) : ∀ (f : Nat) (l : List UInt8), l.length < f → Go.Lib.countFrom [c] f l = l.count c
  | 0, l, h => by omega
  | f + 1, l, h => by
    rcases spB_cases c l with h1 | ⟨a, r, h1, rfl⟩
    · rw [Go.Lib.countFrom, index_miss c l h1, List.count_eq_zero.2 h1]; rfl
    · have e : ((a.length : Int) == -1) = false := by rw [beq_eq_false_iff_ne]; omega
      rw [Go.Lib.countFrom, index_hit c r a h1, e, if_neg (by simp)]
      simp only [List.length_singleton, Int.toNat_natCast]
      rw [drop_pre, count_le c f _ (by simp at h ⊢; omega)]
      simp [List.count_append, List.count_eq_zero.2 h1]; omega
theorem split_spB (c : UInt8) (l : List UInt8) : Go.Lib.split l [c] = spB c l := by
  rw [Go.Lib.split, Go.Lib.count, count_le c _ l (by omega), splitK_spB c _ l (Nat.le_refl _)]
/-! ### decimal numerals -/
theorem dec_one {u : Nat} (h : u < 10) : Go.Lib.decDigits u = [UInt8.ofNat (48 + u)] := by rw [Go.Lib.decDigits, dif_pos h]
theorem dec_more {u : Nat} (h : 10 ≤ u) : Go.Lib.decDigits u = Go.Lib.decDigits (u / 10) ++ [UInt8.ofNat (48 + u % 10)] := by rw [Go.Lib.decDigits, dif_neg (by omega)]
theorem dig_val {d : Nat} (h : d < 10) : (UInt8.ofNat (48 + d)).toNat = 48 + d := by
  show (48 + d) % 256 = 48 + d
  omega
def numEnd {α : Type} (x : Go.Lib.NumEnd Nat) (ok : Nat → Go.Lib.NumEnd α) : Go.Lib.NumEnd α := match x with | .ok a => ok a | Go.Lib.NumEnd.syntax => Go.Lib.NumEnd.syntax | .range => .range
theorem parseU_snoc (M : Nat) (c : UInt8) : ∀ (l : List UInt8) (acc : Nat), Go.Lib.parseUintM M acc (l ++ [c]) = numEnd (Go.Lib.parseUintM M acc l) fun a => Go.Lib.parseUintM M a [c]
  | [], acc => rfl
  | x :: l, acc => by
    rw [List.cons_append, Go.Lib.parseUintM, Go.Lib.parseUintM]
    split
    · split
      · rfl
      · split
        · rfl
        · exact parseU_snoc M c l _
    · rfl
theorem parseU_one {M acc d : Nat} (hd : d < 10) (h1 : acc < 1844674407370955162) (h2 : acc * 10 + d ≤ M) : Go.Lib.parseUintM M acc [UInt8.ofNat (48 + d)] = .ok (acc * 10 + d) := by
  rw [Go.Lib.parseUintM, dig_val hd, if_pos (by omega), if_neg (by omega), if_neg (by omega), Go.Lib.parseUintM]
  congr 1; omega
theorem parseU_dec {M : Nat} (hM : M < 18446744073709551616) (u : Nat) (h : u ≤ M) : Go.Lib.parseUintM M 0 (Go.Lib.decDigits u) = .ok u := by
  induction u using Nat.strongRecOn with
  | _ u ih =>
    by_cases e : u < 10
    · rw [dec_one e, parseU_one e (by omega) (by omega)]; congr 1; omega
    · rw [dec_more (by omega), parseU_snoc, ih (u / 10) (by omega) (by omega)]
      show Go.Lib.parseUintM M (u / 10) _ = _
      rw [parseU_one (by omega) (by omega) (by omega)]; congr 1; omega
theorem dec_head (u : Nat) : ∃ d r, Go.Lib.decDigits u = UInt8.ofNat (48 + d) :: r ∧ d < 10 ∧ (r ≠ [] → 1 ≤ d) := by
  induction u using Nat.strongRecOn with
  | _ u ih =>
    by_cases e : u < 10
    · exact ⟨u, [], dec_one e, e, fun h => absurd rfl h⟩
    · obtain ⟨d, r, h1, h2, h3⟩ := ih (u / 10) (by omega)
      refine ⟨d, r ++ [UInt8.ofNat (48 + u % 10)], by rw [dec_more (by omega), h1]; rfl, h2, fun _ => ?_⟩
      by_cases hr : r = []
      · subst hr
        by_cases e2 : u / 10 < 10
        · rw [dec_one e2] at h1
          have h4 : UInt8.ofNat (48 + u / 10) = UInt8.ofNat (48 + d) := by injection h1
          have := congrArg UInt8.toNat h4
          rw [dig_val e2, dig_val h2] at this; omega
        · rw [dec_more (by omega)] at h1
          have := congrArg List.length h1
          have h5 := (ih (u / 10 / 10) (by omega))
          obtain ⟨d', r', h6, _⟩ := h5
          rw [h6] at this; simp at this
      · exact h3 hr
theorem itoa_dec (n : Int) (h : 0 ≤ n) : Go.Lib.itoa n = Go.Lib.decDigits n.toNat := by rw [Go.Lib.itoa, if_neg (by omega)]
theorem parseI_itoa {n : Int} (h0 : 0 ≤ n) (h1 : n ≤ 9223372036854775807) : Go.Lib.parseIntB 64 (Go.Lib.itoa n) = .ok n := by
  rw [itoa_dec n h0]
  obtain ⟨d, r, hd, h2, _⟩ := dec_head n.toNat
  have hp := parseU_dec (M := 2 ^ 64 - 1) (by decide) n.toNat (by omega)
  rw [hd] at hp ⊢
  have hv := dig_val h2
  simp only [Go.Lib.parseIntB, hv]
  rw [if_neg (by omega), Go.Lib.parseUintB, if_neg (by simp), hp]
  simp only [show ¬ (48 + d = 45) by omega, not_false_eq_true, true_and, false_and, if_false]
  rw [if_neg (by omega)]
  congr 1; omega
/-- What strconv.ParseInt makes of a text. -/
def rdN (s : List UInt8) : Int := match Go.Lib.parseIntB 64 s with | .ok v => v | Go.Lib.NumEnd.syntax => 0 | .range => Go.Lib.intSat 64 s
/-- A text is the numeral of a number that is not over a bound. -/
def rdOK (hi : Int) (s : List UInt8) : Prop := 0 ≤ rdN s ∧ rdN s ≤ hi ∧ s = Go.Lib.itoa (rdN s)
instance (hi : Int) (s : List UInt8) : Decidable (rdOK hi s) := inferInstanceAs (Decidable (_ ∧ _ ∧ _))
theorem rdN_itoa {n : Int} (h0 : 0 ≤ n) (h1 : n ≤ 9223372036854775807) : rdN (Go.Lib.itoa n) = n := by rw [rdN, parseI_itoa h0 h1]
theorem rdOK_itoa {n hi : Int} (h0 : 0 ≤ n) (h1 : n ≤ 9223372036854775807) : rdOK hi (Go.Lib.itoa n) ↔ n ≤ hi := by
  rw [rdOK, rdN_itoa h0 h1]; exact ⟨fun h => h.2.1, fun h => ⟨h0, h, rfl⟩⟩
theorem rdOK_iff {hi : Int} (h : hi ≤ 9223372036854775807) (s : List UInt8) : rdOK hi s ↔ ∃ n, 0 ≤ n ∧ n ≤ hi ∧ s = Go.Lib.itoa n :=
  ⟨fun q => ⟨_, q⟩, fun ⟨n, h0, h1, e⟩ => by rw [e]; exact (rdOK_itoa h0 (by omega)).2 h1⟩
theorem dec_digits (u : Nat) : ∀ c ∈ Go.Lib.decDigits u, 48 ≤ c.toNat ∧ c.toNat ≤ 57 := by
  induction u using Nat.strongRecOn with
  | _ u ih =>
    intro c hc
    by_cases e : u < 10
    · rw [dec_one e] at hc
      rw [List.mem_singleton.1 hc, dig_val e]; omega
    · rw [dec_more (by omega)] at hc
      rcases List.mem_append.1 hc with hc | hc
      · exact ih (u / 10) (by omega) c hc
      · rw [List.mem_singleton.1 hc, dig_val (Nat.mod_lt _ (by omega))]; omega
theorem dec_ne (u : Nat) : Go.Lib.decDigits u ≠ [] := by obtain ⟨d, r, h, _⟩ := dec_head u; rw [h]; simp
theorem itoa_ne {n : Int} (h : 0 ≤ n) : Go.Lib.itoa n ≠ [] := by rw [itoa_dec n h]; exact dec_ne _
/-- The number that digits spell. -/
def decV (l : List UInt8) : Nat := l.foldl (fun n c => 10 * n + (c.toNat - 48)) 0
theorem decV_snoc (l : List UInt8) (c : UInt8) : decV (l ++ [c]) = 10 * decV l + (c.toNat - 48) := by simp [decV]
theorem decV_dec (u : Nat) : decV (Go.Lib.decDigits u) = u := by
  induction u using Nat.strongRecOn with
  | _ u ih =>
    by_cases e : u < 10
    · rw [dec_one e]; simp only [decV, List.foldl_cons, List.foldl_nil]; rw [dig_val e]; omega
    · rw [dec_more (by omega), decV_snoc, ih (u / 10) (by omega), dig_val (Nat.mod_lt _ (by omega))]; omega
/-- Digits without a zero ahead. -/
def digsOK (l : List UInt8) : Prop := l ≠ [] ∧ (∀ c ∈ l, 48 ≤ c.toNat ∧ c.toNat ≤ 57) ∧ (1 < l.length → l[0]? ≠ some 48)
theorem digsOK_dec (u : Nat) : digsOK (Go.Lib.decDigits u) := by
  refine ⟨dec_ne u, dec_digits u, fun h q => ?_⟩
  obtain ⟨d, r, h1, h2, h3⟩ := dec_head u
  rw [h1] at h q
  have h4 : UInt8.ofNat (48 + d) = 48 := by simpa using q
  have h5 := congrArg UInt8.toNat h4
  rw [dig_val h2] at h5
  have : r ≠ [] := by intro e; rw [e] at h; simp at h
  have := h3 this
  have h6 : (48 : UInt8).toNat = 48 := rfl
  omega
theorem digs_dec (l : List UInt8) (h : digsOK l) : l = Go.Lib.decDigits (decV l) := by
  induction hn : l.length using Nat.strongRecOn generalizing l with
  | _ n ih =>
    obtain ⟨h1, h2, h3⟩ := h
    rcases List.eq_nil_or_concat l with e | ⟨l', c, e⟩
    · exact absurd e h1
    · rw [List.concat_eq_append] at e
      subst e
      have hc := h2 c (by simp)
      have ec : UInt8.ofNat (48 + (c.toNat - 48)) = c := by
        apply UInt8.toNat.inj
        rw [dig_val (by omega)]; omega
      rw [decV_snoc]
      by_cases e : l' = []
      · subst e
        rw [show decV [] = 0 from rfl, Nat.mul_zero, Nat.zero_add, dec_one (by omega), ec]; rfl
      · have hl : 1 < (l' ++ [c]).length := by
          have := List.length_pos_iff.2 e
          simp; omega
        have h4 := h3 hl
        have hd : digsOK l' := ⟨e, fun x hx => h2 x (by simp [hx]), fun hl' q => h4 (by rw [List.getElem?_append_left (by omega)]; exact q)⟩
        have h5 := ih l'.length (by rw [← hn]; simp) l' hd rfl
        have hv : 1 ≤ decV l' := by
          rcases Nat.eq_zero_or_pos (decV l') with e0 | e0
          · rw [e0, dec_one (by omega)] at h5
            exact absurd (by rw [h5]; rfl) h4
          · exact e0
        rw [dec_more (by omega), show (10 * decV l' + (c.toNat - 48)) / 10 = decV l' by omega, show (10 * decV l' + (c.toNat - 48)) % 10 = c.toNat - 48 by omega, ec, ← h5]
theorem dec_len9 (u : Nat) : (Go.Lib.decDigits u).length ≤ 9 ↔ u ≤ 999999999 := by
  have h := Go.Lib.lt_pow_nDigits u
  rw [Go.Lib.decDigits_length]
  constructor
  · intro q
    have : 10 ^ Go.Lib.nDigits u ≤ 10 ^ 9 := Nat.pow_le_pow_right (by decide) q
    omega
  · intro q
    rcases Nat.lt_or_ge u 10 with e | e
    · rw [Go.Lib.nDigits_small e]; omega
    · have h1 : ∀ k, k ≤ 8 → 10 ^ k ≤ u → u < 10 ^ (k + 1) → Go.Lib.nDigits u ≤ 9 := fun k hk a b => by rw [Go.Lib.nDigits_unique k u a b]; omega
      rcases Nat.lt_or_ge u 100 with e1 | e1
      · exact h1 1 (by omega) (by omega) (by omega)
      rcases Nat.lt_or_ge u 1000 with e2 | e2
      · exact h1 2 (by omega) (by omega) (by omega)
      rcases Nat.lt_or_ge u 10000 with e3 | e3
      · exact h1 3 (by omega) (by omega) (by omega)
      rcases Nat.lt_or_ge u 100000 with e4 | e4
      · exact h1 4 (by omega) (by omega) (by omega)
      rcases Nat.lt_or_ge u 1000000 with e5 | e5
      · exact h1 5 (by omega) (by omega) (by omega)
      rcases Nat.lt_or_ge u 10000000 with e6 | e6
      · exact h1 6 (by omega) (by omega) (by omega)
      rcases Nat.lt_or_ge u 100000000 with e7 | e7
      · exact h1 7 (by omega) (by omega) (by omega)
      · exact h1 8 (by omega) (by omega) (by omega)
/-- What spec.ReadDecimal takes. -/
theorem digs_iff (l : List UInt8) : (digsOK l ∧ l.length ≤ 9) ↔ ∃ n : Int, 0 ≤ n ∧ n ≤ 999999999 ∧ l = Go.Lib.itoa n := by
  constructor
  · rintro ⟨h1, h2⟩
    have h3 := digs_dec l h1
    refine ⟨decV l, by omega, ?_, by rw [itoa_dec _ (by omega)]; exact h3⟩
    rw [h3, dec_len9] at h2
    omega
  · rintro ⟨n, h0, h1, rfl⟩
    rw [itoa_dec n h0]
    exact ⟨digsOK_dec _, (dec_len9 _).2 (by omega)⟩
theorem digs_rd (l : List UInt8) : (digsOK l ∧ l.length ≤ 9) ↔ rdOK 999999999 l := by rw [digs_iff, rdOK_iff (by decide)]
theorem decV_rd {l : List UInt8} (h : rdOK 999999999 l) : (decV l : Int) = rdN l := by
  have h2 := h.2.2
  have h0 := h.1
  generalize rdN l = n at *
  rw [h2, itoa_dec n h0, decV_dec]; omega
open Go.Proofs
set_option linter.unusedVariables false
set_option linter.unusedSimpArgs false
/-- The numbers that texts spell. -/
def toNums (hi : Int) (ps : List (List UInt8)) : Option (List Int) := if (∀ p ∈ ps, rdOK hi p) then some (ps.map rdN) else none
/-- What impl's readList makes of a text with blanks between numbers. -/
def readL (most : Nat) (hi : Int) (text : List UInt8) : Option (List Int) := if text = [] then some [] else if (spB 32 text).length ≤ most then toNums hi (spB 32 text) else none
theorem readL_nil {most : Nat} {hi : Int} {r : List UInt8} : readL most hi r = some [] ↔ r = [] := by
  rw [readL]
  constructor
  · intro q
    split at q
    · assumption
    · split at q
      · rw [toNums] at q
        split at q
        · have := Option.some.inj q
          exact absurd (List.map_eq_nil_iff.1 this) (spB_ne 32 r)
        · cases q
      · cases q
  · intro q; rw [if_pos q]

open Go.Proofs
set_option linter.unusedVariables false
set_option linter.unusedSimpArgs false
theorem decDigits_len20 {u k : Nat} (h : u < 10 ^ k) (hk : 1 ≤ k) : (Go.Lib.decDigits u).length ≤ k := by
  induction k generalizing u with
  | zero => omega
  | succ k ih =>
    rw [Go.Lib.decDigits]
    split
    · simp
    · rename_i hu
      rcases Nat.eq_zero_or_pos k with e | e
      · subst e; simp at h; omega
      · have := ih (u := u / 10) (by rw [Nat.pow_succ] at h; omega) e
        simp; omega
theorem itoa_len64 {n : Int} (h0 : -9223372036854775808 ≤ n) (h1 : n ≤ 9223372036854775807) : (Go.Lib.itoa n).length ≤ 21 := by
  unfold Go.Lib.itoa
  split
  · have := decDigits_len20 (u := n.natAbs) (k := 20) (by omega) (by omega)
    simp; omega
  · have := decDigits_len20 (u := n.toNat) (k := 20) (by omega) (by omega)
    omega
theorem laid_tab {E : Env} {h : Heap} {w : World} (x : LaidIn E h w) : Go.Lib.TabIs Tryd.prog w "internal/strconv.uint64pow10" .u64 Go.Lib.pow10Tab :=
  let ⟨_, h1, h2⟩ := x.var (P := Tryd.prog) (name := "internal/strconv.uint64pow10") (by kernel_rfl) (List.mem_cons_self ..)
  h1.trans (congrArg some (h2.trans (by kernel_rfl)))
theorem formatInt (n : Int) (h0 : -9223372036854775808 ≤ n) (h1 : n ≤ 9223372036854775807) : Fn0 Tryd.prog 74 [I n, I 10] (.str (Go.Lib.itoa n)) :=
  fn0_grown (by kernel_rfl) fun E h w vs R rl => by
    match vs, rl with
    | [v0, v1], rl =>
      obtain ⟨r0, r1, _⟩ := rl
      rw [rep_int r0, rep_int r1]
      refine (Go.Proofs.Tryd.strconv_FormatInt_10 n h0 h1 w (laid_tab R.laid)).mono fun e w' ⟨he, hw⟩ => ⟨_, he, fun E' h' w' => .str _ ?_, hw⟩
      have := itoa_len64 h0 h1
      simp only [maxLen]
      omega
def keep35 : List Nat := [0, 2]
def ib35 : List Nat := []
def mk35 : Marks := fun _ => ([], .nil, [])
theorem rep_sl {E : Env} {h : Heap} {w : World} {sz : Nat} {es : List (List HVal)} {t : Bool} {v : Value} (hr : Rep E h w (.sl sz es t) v) :
    (es = [] ∧ ∃ a cap, v = .slice a 0 cap) ∨ ∃ b o cap, v = .slice (some ⟨b, o, none⟩) es.length cap ∧ b < w.heap.size ∧ es.length ≤ cap ∧ ∀ i j x, at2 es i j = some x → ∃ c, w.cell? ⟨b, o + i * sz + j, none⟩ = some c ∧ Rep E h w x c := by
  cases hr with
  | sl0 _ _ a cap => exact .inl ⟨rfl, a, cap, rfl⟩
  | sl _ _ _ b o cap cv hi hcap hmax ht hs hc h1 hr => exact .inr ⟨b, o, cap, rfl, hi.1, hcap, fun i j x q => ⟨_, hc i j x q, hr i j x q⟩⟩
open Go.Proofs
set_option linter.unusedVariables false
set_option linter.unusedSimpArgs false
end Go.Hl
namespace Go.Proofs
open Go.Shelf
def Tryd.lays145_ren : Go.Shelf.Ren := ⟨fun | 145 => 81 | 220 => 103 | 219 => 114 | 217 => 122 | 225 => 123 | 224 => 124 | 267 => 125 | 266 => 130 | 314 => 131 | n => n, fun | 9 => 9 | 4 => 4 | 59 => 130 | 3 => 3 | 5 => 5 | 46 => 169 | 146 => 177 | 51 => 166 | n => n, fun | 1 => 1 | n => n⟩
theorem Tryd.lays145 : Go.Proofs.Lays.n145 Tryd.prog Tryd.lays145_ren := {
  mixed := by kernel_rfl
  f145 := Tryd.func81.trans (congrArg some (by kernel_rfl))
  f217 := Tryd.func122.trans (congrArg some (by kernel_rfl))
  f219 := Tryd.func114.trans (congrArg some (by kernel_rfl))
  f220 := Tryd.func103.trans (congrArg some (by kernel_rfl))
  f224 := Tryd.func124.trans (congrArg some (by kernel_rfl))
  f225 := Tryd.func123.trans (congrArg some (by kernel_rfl))
  f266 := Tryd.func130.trans (congrArg some (by kernel_rfl))
  f267 := Tryd.func125.trans (congrArg some (by kernel_rfl))
  f314 := Tryd.func131.trans (congrArg some (by kernel_rfl))
  t3 := Tryd.underlying3
  a3 := Tryd.isAgg3
  z3 := Tryd.sizeOf3
  v3 := Tryd.zeroValue3
  t4 := Tryd.underlying4
  a4 := Tryd.isAgg4
  z4 := Tryd.sizeOf4
  v4 := Tryd.zeroValue4
  t5 := Tryd.underlying5
  a5 := Tryd.isAgg5
  z5 := Tryd.sizeOf5
  v5 := Tryd.zeroValue5
  t9 := Tryd.underlying9
  a9 := Tryd.isAgg9
  z9 := Tryd.sizeOf9
  v9 := Tryd.zeroValue9
  t46 := Tryd.underlying169
  a46 := Tryd.isAgg169
  z46 := Tryd.sizeOf169
  v46 := Tryd.zeroValue169
  t51 := Tryd.underlying166
  a51 := Tryd.isAgg166
  z51 := Tryd.sizeOf166
  v51 := Tryd.zeroValue166
  t59 := Tryd.underlying130
  a59 := Tryd.isAgg130
  z59 := Tryd.sizeOf130
  v59 := Tryd.zeroValue130
  t146 := Tryd.underlying177
  a146 := Tryd.isAgg177
  z146 := Tryd.sizeOf177
  v146 := Tryd.zeroValue177
  g1 := by kernel_rfl }
open Go.RowKit Go.Lib in
theorem Tryd.strings_Cut (s sep : ByteArray) (m : Int) (w : World) (hs : s.size < 4294967281) (hm : w.cell? ⟨1, 0, none⟩ = some (.int .i64 m)) :
    Calls Tryd.prog 81 #[.string s, .string sep] w fun e w' => e = .returned (.tuple #[.string ⟨(Lib.cut s.data.toList sep.data.toList).1.toArray⟩, .string ⟨(Lib.cut s.data.toList sep.data.toList).2.1.toArray⟩, .bool (Lib.cut s.data.toList sep.data.toList).2.2]) ∧ ∃ n, w' = w.drewN n := Any.strings_Cut Tryd.lays145 s sep m w hs hm
def Tryd.lays146_ren : Go.Shelf.Ren := ⟨fun | 146 => 42 | 221 => 80 | 268 => 100 | 138 => 101 | 143 => 102 | 195 => 111 | 197 => 112 | 218 => 113 | 219 => 114 | 260 => 121 | 217 => 122 | 225 => 123 | 224 => 124 | 267 => 125 | 266 => 130 | 314 => 131 | n => n, fun | 9 => 9 | 31 => 86 | 3 => 3 | 4 => 4 | 0 => 0 | 105 => 158 | 21 => 21 | 5 => 5 | 46 => 169 | 119 => 173 | 139 => 176 | 138 => 175 | 146 => 177 | 51 => 166 | n => n, fun | 1 => 1 | 3 => 2 | 4 => 3 | n => n⟩
theorem Tryd.lays146 : Go.Proofs.Lays.n146 Tryd.prog Tryd.lays146_ren := {
  mixed := by kernel_rfl
  f138 := Tryd.func101.trans (congrArg some (by kernel_rfl))
  f143 := Tryd.func102.trans (congrArg some (by kernel_rfl))
  f146 := Tryd.func42.trans (congrArg some (by kernel_rfl))
  f195 := Tryd.func111.trans (congrArg some (by kernel_rfl))
  f197 := Tryd.func112.trans (congrArg some (by kernel_rfl))
  f217 := Tryd.func122.trans (congrArg some (by kernel_rfl))
  f218 := Tryd.func113.trans (congrArg some (by kernel_rfl))
  f219 := Tryd.func114.trans (congrArg some (by kernel_rfl))
  f221 := Tryd.func80.trans (congrArg some (by kernel_rfl))
  f224 := Tryd.func124.trans (congrArg some (by kernel_rfl))
  f225 := Tryd.func123.trans (congrArg some (by kernel_rfl))
  f260 := Tryd.func121.trans (congrArg some (by kernel_rfl))
  f266 := Tryd.func130.trans (congrArg some (by kernel_rfl))
  f267 := Tryd.func125.trans (congrArg some (by kernel_rfl))
  f268 := Tryd.func100.trans (congrArg some (by kernel_rfl))
  f314 := Tryd.func131.trans (congrArg some (by kernel_rfl))
  t0 := Tryd.underlying0
  a0 := Tryd.isAgg0
  z0 := Tryd.sizeOf0
  v0 := Tryd.zeroValue0
  t3 := Tryd.underlying3
  a3 := Tryd.isAgg3
  z3 := Tryd.sizeOf3
  v3 := Tryd.zeroValue3
  t4 := Tryd.underlying4
  a4 := Tryd.isAgg4
  z4 := Tryd.sizeOf4
  v4 := Tryd.zeroValue4
  t5 := Tryd.underlying5
  a5 := Tryd.isAgg5
  z5 := Tryd.sizeOf5
  v5 := Tryd.zeroValue5
  t9 := Tryd.underlying9
  a9 := Tryd.isAgg9
  z9 := Tryd.sizeOf9
  v9 := Tryd.zeroValue9
  t21 := Tryd.underlying21
  a21 := Tryd.isAgg21
  z21 := Tryd.sizeOf21
  v21 := Tryd.zeroValue21
  t31 := Tryd.underlying86
  a31 := Tryd.isAgg86
  z31 := Tryd.sizeOf86
  v31 := Tryd.zeroValue86
  t46 := Tryd.underlying169
  a46 := Tryd.isAgg169
  z46 := Tryd.sizeOf169
  v46 := Tryd.zeroValue169
  t51 := Tryd.underlying166
  a51 := Tryd.isAgg166
  z51 := Tryd.sizeOf166
  v51 := Tryd.zeroValue166
  t105 := Tryd.underlying158
  a105 := Tryd.isAgg158
  z105 := Tryd.sizeOf158
  v105 := Tryd.zeroValue158
  t119 := Tryd.underlying173
  a119 := Tryd.isAgg173
  z119 := Tryd.sizeOf173
  t138 := Tryd.underlying175
  a138 := Tryd.isAgg175
  z138 := Tryd.sizeOf175
  v138 := Tryd.zeroValue175
  t139 := Tryd.underlying176
  a139 := Tryd.isAgg176
  z139 := Tryd.sizeOf176
  v139 := Tryd.zeroValue176
  t146 := Tryd.underlying177
  a146 := Tryd.isAgg177
  z146 := Tryd.sizeOf177
  v146 := Tryd.zeroValue177
  g1 := by kernel_rfl
  g3 := by kernel_rfl
  g4 := by kernel_rfl }
open Go.RowKit Go.Lib in
theorem Tryd.strings_Split (s sep : ByteArray) (m : Int) (w : World) (hs : s.size < 4294967281) (hm : w.cell? ⟨1, 0, none⟩ = some (.int .i64 m)) (h1 : 1 ≤ sep.size) :
    Calls Tryd.prog 42 #[.string s, .string sep] w fun e w' =>
      e = .returned (.slice (some ⟨w.heap.size, 0, none⟩) (Lib.countB s sep + 1) (Lib.countB s sep + 1)) ∧ w' = w.alloc (.cells ((Lib.splitB sep 0 (Lib.countB s sep) s).map Value.string).toArray 9) := Any.strings_Split Tryd.lays146 (by kernel_rfl) s sep m w hs hm h1
def Tryd.laysC174_ren : Go.Shelf.Ren := ⟨fun | 174 => 115 | 247 => 126 | 245 => 127 | 287 => 132 | 279 => 133 | 280 => 134 | 281 => 135 | 282 => 136 | 321 => 137 | 322 => 138 | 316 => 139 | 171 => 141 | 205 => 140 | 243 => 142 | 246 => 96 | 283 => 107 | 284 => 108 | 285 => 109 | 286 => 110 | 129 => 117 | 317 => 116 | 318 => 118 | 319 => 119 | 320 => 120 | 337 => 128 | 338 => 129 | n => n, fun | 9 => 9 | 3 => 3 | 2 => 2 | 75 => 76 | 85 => 161 | 4 => 4 | 167 => 179 | 5 => 5 | 53 => 152 | 175 => 180 | 46 => 169 | 168 => 182 | 37 => 70 | 0 => 0 | 210 => 190 | 21 => 21 | 127 => 120 | 145 => 194 | 143 => 192 | 171 => 151 | 173 => 155 | 212 => 165 | 51 => 166 | 20 => 20 | 213 => 167 | 232 => 185 | 233 => 186 | 80 => 82 | n => n, fun | 15 => 6 | 16 => 7 | 17 => 0 | 18 => 4 | 19 => 5 | n => n⟩
theorem Tryd.laysC174 : Go.Proofs.LaysC.n174 Tryd.prog Tryd.laysC174_ren := {
  mixed := by kernel_rfl
  f129 := Tryd.func117.trans (congrArg some (by kernel_rfl))
  f171 := Tryd.func141.trans (congrArg some (by kernel_rfl))
  f174 := Tryd.func115.trans (congrArg some (by kernel_rfl))
  f205 := Tryd.func140.trans (congrArg some (by kernel_rfl))
  f243 := Tryd.func142.trans (congrArg some (by kernel_rfl))
  f245 := Tryd.func127.trans (congrArg some (by kernel_rfl))
  f246 := Tryd.func96.trans (congrArg some (by kernel_rfl))
  f247 := Tryd.func126.trans (congrArg some (by kernel_rfl))
  f279 := Tryd.func133.trans (congrArg some (by kernel_rfl))
  f280 := Tryd.func134.trans (congrArg some (by kernel_rfl))
  f281 := Tryd.func135.trans (congrArg some (by kernel_rfl))
  f282 := Tryd.func136.trans (congrArg some (by kernel_rfl))
  f283 := Tryd.func107.trans (congrArg some (by kernel_rfl))
  f284 := Tryd.func108.trans (congrArg some (by kernel_rfl))
  f285 := Tryd.func109.trans (congrArg some (by kernel_rfl))
  f286 := Tryd.func110.trans (congrArg some (by kernel_rfl))
  f287 := Tryd.func132.trans (congrArg some (by kernel_rfl))
  f316 := Tryd.func139.trans (congrArg some (by kernel_rfl))
  f317 := Tryd.func116.trans (congrArg some (by kernel_rfl))
  f318 := Tryd.func118.trans (congrArg some (by kernel_rfl))
  f319 := Tryd.func119.trans (congrArg some (by kernel_rfl))
  f320 := Tryd.func120.trans (congrArg some (by kernel_rfl))
  f321 := Tryd.func137.trans (congrArg some (by kernel_rfl))
  f322 := Tryd.func138.trans (congrArg some (by kernel_rfl))
  f337 := Tryd.func128.trans (congrArg some (by kernel_rfl))
  f338 := Tryd.func129.trans (congrArg some (by kernel_rfl))
  t0 := Tryd.underlying0
  a0 := Tryd.isAgg0
  z0 := Tryd.sizeOf0
  v0 := Tryd.zeroValue0
  t2 := Tryd.underlying2
  a2 := Tryd.isAgg2
  z2 := Tryd.sizeOf2
  v2 := Tryd.zeroValue2
  t3 := Tryd.underlying3
  a3 := Tryd.isAgg3
  z3 := Tryd.sizeOf3
  v3 := Tryd.zeroValue3
  t4 := Tryd.underlying4
  a4 := Tryd.isAgg4
  z4 := Tryd.sizeOf4
  v4 := Tryd.zeroValue4
  t5 := Tryd.underlying5
  a5 := Tryd.isAgg5
  z5 := Tryd.sizeOf5
  v5 := Tryd.zeroValue5
  t9 := Tryd.underlying9
  a9 := Tryd.isAgg9
  z9 := Tryd.sizeOf9
  v9 := Tryd.zeroValue9
  t20 := Tryd.underlying20
  a20 := Tryd.isAgg20
  z20 := Tryd.sizeOf20
  v20 := Tryd.zeroValue20
  t21 := Tryd.underlying21
  a21 := Tryd.isAgg21
  z21 := Tryd.sizeOf21
  v21 := Tryd.zeroValue21
  t37 := Tryd.underlying70
  a37 := Tryd.isAgg70
  z37 := Tryd.sizeOf70
  v37 := Tryd.zeroValue70
  t46 := Tryd.underlying169
  a46 := Tryd.isAgg169
  z46 := Tryd.sizeOf169
  v46 := Tryd.zeroValue169
  t51 := Tryd.underlying166
  a51 := Tryd.isAgg166
  z51 := Tryd.sizeOf166
  v51 := Tryd.zeroValue166
  t53 := Tryd.underlying152
  a53 := Tryd.isAgg152
  z53 := Tryd.sizeOf152
  v53 := Tryd.zeroValue152
  t75 := Tryd.underlying76
  a75 := Tryd.isAgg76
  z75 := Tryd.sizeOf76
  v75 := Tryd.zeroValue76
  t85 := Tryd.underlying161
  a85 := Tryd.isAgg161
  z85 := Tryd.sizeOf161
  v85 := Tryd.zeroValue161
  t127 := Tryd.underlying120
  a127 := Tryd.isAgg120
  z127 := Tryd.sizeOf120
  v127 := Tryd.zeroValue120
  t143 := Tryd.underlying192
  a143 := Tryd.isAgg192
  z143 := Tryd.sizeOf192
  v143 := Tryd.zeroValue192
  t145 := Tryd.underlying194
  a145 := Tryd.isAgg194
  z145 := Tryd.sizeOf194
  v145 := Tryd.zeroValue194
  t167 := Tryd.underlying179
  a167 := Tryd.isAgg179
  z167 := Tryd.sizeOf179
  v167 := Tryd.zeroValue179
  t168 := Tryd.underlying182
  a168 := Tryd.isAgg182
  z168 := Tryd.sizeOf182
  v168 := Tryd.zeroValue182
  t171 := Tryd.underlying151
  a171 := Tryd.isAgg151
  z171 := Tryd.sizeOf151
  v171 := Tryd.zeroValue151
  t173 := Tryd.underlying155
  a173 := Tryd.isAgg155
  z173 := Tryd.sizeOf155
  v173 := Tryd.zeroValue155
  t175 := Tryd.underlying180
  a175 := Tryd.isAgg180
  z175 := Tryd.sizeOf180
  v175 := Tryd.zeroValue180
  t210 := Tryd.underlying190
  a210 := Tryd.isAgg190
  z210 := Tryd.sizeOf190
  v210 := Tryd.zeroValue190
  t212 := Tryd.underlying165
  a212 := Tryd.isAgg165
  z212 := Tryd.sizeOf165
  v212 := Tryd.zeroValue165
  t213 := Tryd.underlying167
  a213 := Tryd.isAgg167
  z213 := Tryd.sizeOf167
  t232 := Tryd.underlying185
  a232 := Tryd.isAgg185
  z232 := Tryd.sizeOf185
  v232 := Tryd.zeroValue185
  t233 := Tryd.underlying186
  a233 := Tryd.isAgg186
  z233 := Tryd.sizeOf186
  v233 := Tryd.zeroValue186
  g15 := by kernel_rfl
  g16 := by kernel_rfl
  g17 := by kernel_rfl
  g18 := by kernel_rfl
  g19 := by kernel_rfl
  t80 := Tryd.underlying82
  a80 := Tryd.isAgg82
  z80 := Tryd.sizeOf82
  v80 := Tryd.zeroValue82
  i0 := by kernel_rfl
  i2 := by kernel_rfl
  i3 := by kernel_rfl
  i4 := by kernel_rfl
  i5 := by kernel_rfl
  i9 := by kernel_rfl
  i20 := by kernel_rfl
  i21 := by kernel_rfl
  i37 := by kernel_rfl
  i46 := by kernel_rfl
  i51 := by kernel_rfl
  i53 := by kernel_rfl
  i75 := by kernel_rfl
  i80 := by kernel_rfl
  i85 := by kernel_rfl
  i127 := by kernel_rfl
  i143 := by kernel_rfl
  i145 := by kernel_rfl
  i167 := by kernel_rfl
  i168 := by kernel_rfl
  i171 := by kernel_rfl
  i173 := by kernel_rfl
  i175 := by kernel_rfl
  i210 := by kernel_rfl
  i212 := by kernel_rfl
  i232 := by kernel_rfl
  i233 := by kernel_rfl
  m15 := by kernel_rfl
  m16 := by kernel_rfl
  m17 := by kernel_rfl
  m18 := by kernel_rfl
  m19 := by kernel_rfl
  c0 := by kernel_rfl
  c2 := by kernel_rfl
  c3 := by kernel_rfl
  c4 := by kernel_rfl
  c5 := by kernel_rfl
  c9 := by kernel_rfl
  c20 := by kernel_rfl
  c21 := by kernel_rfl
  c37 := by kernel_rfl
  c46 := by kernel_rfl
  c51 := by kernel_rfl
  c53 := by kernel_rfl
  c75 := by kernel_rfl
  c80 := by kernel_rfl
  c85 := by kernel_rfl
  c127 := by kernel_rfl
  c143 := by kernel_rfl
  c145 := by kernel_rfl
  c167 := by kernel_rfl
  c168 := by kernel_rfl
  c171 := by kernel_rfl
  c173 := by kernel_rfl
  c175 := by kernel_rfl
  c210 := by kernel_rfl
  c212 := by kernel_rfl
  c213 := by kernel_rfl
  c232 := by kernel_rfl
  c233 := by kernel_rfl }
open Go.RowKit in
theorem Tryd.strconv_ParseInt_10_at64_ok (s : ByteArray) (hmax : s.size ≤ 9223372036854775806) (v : Int) (h : Lib.parseIntB 64 s.data.toList = .ok v) (w : World) :
    Calls Tryd.prog 115 #[.string s, .int .i64 10, .int .i64 64] w fun e w' => e = .returned (.tuple #[.int .i64 v, .nilIface]) ∧ (w' = w ∨ ∃ t, w' = Lib.bytesWorld w 5 t) := Any.strconv_ParseInt_10_at64_ok Tryd.laysC174 s hmax v h w
open Go.RowKit in
theorem Tryd.strconv_ParseInt_10_at64_syntax (s : ByteArray) (hlim : s.size ≤ 281474976710656) (h : Lib.parseIntB 64 s.data.toList = Go.Lib.NumEnd.syntax) (ev : Value) (w : World) (hv : w.cell? ⟨6, 0, none⟩ = some ev) (hev : ev = .nilIface ∨ ∃ te pe, ev = .iface te pe) :
    Calls Tryd.prog 115 #[.string s, .int .i64 10, .int .i64 64] w fun e w' => ∃ N, e = .returned (.tuple #[.int .i64 (0), .iface 182 (.pointer (some ⟨N, 0, none⟩))]) ∧ w.heap.size ≤ N ∧ w'.heap[N]? = some (.cells #[.string ⟨#[80, 97, 114, 115, 101, 73, 110, 116]⟩, .string s, ev] 190 (0, 0)) ∧ Below w.heap.size w w' := Any.strconv_ParseInt_10_at64_syntax Tryd.laysC174 s hlim h ev w hv hev
open Go.RowKit in
theorem Tryd.strconv_ParseInt_10_at64_range (s : ByteArray) (hlim : s.size ≤ 281474976710656) (h : Lib.parseIntB 64 s.data.toList = .range) (ev : Value) (w : World) (hv : w.cell? ⟨7, 0, none⟩ = some ev) (hev : ev = .nilIface ∨ ∃ te pe, ev = .iface te pe) :
    Calls Tryd.prog 115 #[.string s, .int .i64 10, .int .i64 64] w fun e w' => ∃ N, e = .returned (.tuple #[.int .i64 (Lib.intSat 64 s.data.toList), .iface 182 (.pointer (some ⟨N, 0, none⟩))]) ∧ w.heap.size ≤ N ∧ w'.heap[N]? = some (.cells #[.string ⟨#[80, 97, 114, 115, 101, 73, 110, 116]⟩, .string s, ev] 190 (0, 0)) ∧ Below w.heap.size w w' := Any.strconv_ParseInt_10_at64_range Tryd.laysC174 s hlim h ev w hv hev
def Tryd.lays109_ren : Go.Shelf.Ren := ⟨fun | 109 => 83 | n => n, fun | 31 => 86 | 9 => 9 | 3 => 3 | 0 => 0 | 4 => 4 | n => n, fun | n => n⟩
theorem Tryd.lays109 : Go.Proofs.Lays.n109 Tryd.prog Tryd.lays109_ren := {
  mixed := by kernel_rfl
  f109 := Tryd.func83.trans (congrArg some (by kernel_rfl))
  t0 := Tryd.underlying0
  a0 := Tryd.isAgg0
  z0 := Tryd.sizeOf0
  v0 := Tryd.zeroValue0
  t3 := Tryd.underlying3
  a3 := Tryd.isAgg3
  z3 := Tryd.sizeOf3
  v3 := Tryd.zeroValue3
  t4 := Tryd.underlying4
  a4 := Tryd.isAgg4
  z4 := Tryd.sizeOf4
  v4 := Tryd.zeroValue4
  t9 := Tryd.underlying9
  a9 := Tryd.isAgg9
  z9 := Tryd.sizeOf9
  v9 := Tryd.zeroValue9
  t31 := Tryd.underlying86
  a31 := Tryd.isAgg86
  z31 := Tryd.sizeOf86
  v31 := Tryd.zeroValue86 }
open Go.Lib in
theorem Tryd.slices_Index_string (b off n c : Nat) (zs : List ByteArray) (x : ByteArray) (w : World) (hz : n ≤ zs.length) (hbig : n ≤ 9223372036854775807) (hc : ∀ j, j < zs.length → w.cell? ⟨b, off + j, none⟩ = some (.string (zs.getD j ByteArray.empty))) :
    Calls Tryd.prog 83 #[.slice (some ⟨b, off, none⟩) n c, .string x] w fun e w' => e = .returned (.int .i64 (Lib.idxOfS (zs.take n) x)) ∧ w' = w := Any.slices_Index_string Tryd.lays109 b off n c zs x w hz hbig hc
open Go.Lib in
theorem Tryd.slices_Index_string_empty (a : Option Addr) (c : Nat) (x : ByteArray) (w : World) :
    Calls Tryd.prog 83 #[.slice a 0 c, .string x] w fun e w' => e = .returned (.int .i64 (Lib.idxOfS [] x)) ∧ w' = w := Any.slices_Index_string_empty Tryd.lays109 a c x w
end Go.Proofs
namespace Go.Hl

end Go.Hl

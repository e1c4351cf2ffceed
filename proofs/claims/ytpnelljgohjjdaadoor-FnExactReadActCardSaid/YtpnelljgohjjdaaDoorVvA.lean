/-
  Contracts of functions and laws of the layer over the walk.
-/
import Derived.Test.YtpnelljgohjjdaaDoorHlD
import Derived.Test.YtpnelljgohjjdaaDoorProg
import Derived.KernelRfl
import Derived.Shelf.Strconv.Itoa4
import Derived.Shelf.Strings.OnBuilder
import Derived.Shelf.LaysM
import Derived.Lib.Split
import Derived.Lib.ParseIntB
import Derived.Lib.ItoaNum
import Derived.Lib.ItoaMem
import Derived.Lib.Join
namespace Go.Hl
open Go.Proofs
set_option linter.unusedVariables false
set_option linter.unusedSimpArgs false
@[go_sem] theorem ty2 : tyR Tryd.prog 2 = some ⟨1, false, 8, [.int .i64 0], .int .i64⟩ := by kernel_rfl
@[go_sem] theorem ty3 : tyR Tryd.prog 3 = some ⟨1, false, 8, [.int .i64 0], .int .i64⟩ := by kernel_rfl
@[go_sem] theorem ty4 : tyR Tryd.prog 4 = some ⟨1, false, 1, [.bool false], .bool⟩ := by kernel_rfl
@[go_sem] theorem ty5 : tyR Tryd.prog 5 = some ⟨1, false, 1, [.int .u8 0], .int .u8⟩ := by kernel_rfl
@[go_sem] theorem ty9 : tyR Tryd.prog 9 = some ⟨1, false, 16, [.str []], .str⟩ := by kernel_rfl
@[go_sem] theorem ty21 : tyR Tryd.prog 21 = some ⟨1, false, 4, [.int .i32 0], .int .i32⟩ := by kernel_rfl
@[go_sem] theorem ty22 : tyR Tryd.prog 22 = some ⟨1, false, 24, [.nilsl], .slice 2⟩ := by kernel_rfl
@[go_sem] theorem ty24 : tyR Tryd.prog 24 = some ⟨4, true, 48, [.int .i64 0, .int .i64 0, .int .i64 0, .nilsl], .st [(0, 2, 1), (1, 2, 1), (2, 2, 1), (3, 22, 1)]⟩ := by kernel_rfl
@[go_sem] theorem ty30 : tyR Tryd.prog 30 = some ⟨1, false, 24, [.nilsl], .slice 86⟩ := by kernel_rfl
@[go_sem] theorem ty31 : tyR Tryd.prog 31 = some ⟨1, false, 24, [.nilsl], .slice 82⟩ := by kernel_rfl
@[go_sem] theorem ty33 : tyR Tryd.prog 33 = some ⟨4, true, 80, [.int .i64 0, .nilsl, .nilsl, .nilsl], .st [(0, 2, 1), (1, 30, 1), (2, 31, 1), (3, 22, 1)]⟩ := by kernel_rfl
@[go_sem] theorem ty38 : tyR Tryd.prog 38 = some ⟨1, false, 24, [.nilsl], .slice 9⟩ := by kernel_rfl
@[go_sem] theorem ty61 : tyR Tryd.prog 61 = some ⟨5, true, 88, [.int .i64 0, .nilsl, .nilsl, .nilsl, .int .i64 0], .st [(0, 33, 4), (4, 2, 1)]⟩ := by kernel_rfl
@[go_sem] theorem ty67 : tyR Tryd.prog 67 = some ⟨6, true, 88, [.int .i64 0, .nilsl, .nilsl, .nilsl, .bool false, .bool false], .st [(0, 33, 4), (4, 4, 1), (5, 4, 1)]⟩ := by kernel_rfl
@[go_sem] theorem ty82 : tyR Tryd.prog 82 = some ⟨2, true, 16, [.int .i64 0, .bool false], .st [(0, 2, 1), (1, 4, 1)]⟩ := by kernel_rfl
@[go_sem] theorem ty86 : tyR Tryd.prog 86 = some ⟨4, true, 32, [.int .i64 0, .int .i64 0, .int .i64 0, .int .i64 0], .st [(0, 2, 1), (1, 2, 1), (2, 2, 1), (3, 2, 1)]⟩ := by kernel_rfl
@[go_sem] theorem ty95 : tyR Tryd.prog 95 = some ⟨1, false, 16, [.nilif], .other⟩ := by kernel_rfl
@[go_sem] theorem ty102 : tyR Tryd.prog 102 = some ⟨1, false, 24, [.nilsl], .slice 5⟩ := by kernel_rfl
@[go_sem] theorem ty105 : tyR Tryd.prog 105 = some ⟨1, false, 8, [.int .u64 0], .int .u64⟩ := by kernel_rfl
@[go_sem] theorem ty112 : tyR Tryd.prog 112 = some ⟨1, false, 4, [.int .u32 0], .int .u32⟩ := by kernel_rfl
@[go_sem] theorem ty116 : tyR Tryd.prog 116 = some ⟨1, false, 8, [.int .u64 0], .int .u64⟩ := by kernel_rfl
@[go_sem] theorem ty122 : tyR Tryd.prog 122 = some ⟨1, false, 8, [.nilptr], .ptr 124⟩ := by kernel_rfl
@[go_sem] theorem ty124 : tyR Tryd.prog 124 = some ⟨2, true, 32, [.nilptr, .nilsl], .st [(0, 122, 1), (1, 102, 1)]⟩ := by kernel_rfl
@[go_sem] theorem ty132 : tyR Tryd.prog 132 = some ⟨3, true, 48, [.str [], .str [], .nilif], .st [(0, 9, 1), (1, 9, 1), (2, 95, 1)]⟩ := by kernel_rfl
@[go_sem] theorem ty135 : tyR Tryd.prog 135 = some ⟨24, true, 24, [.int .u8 0, .int .u8 0, .int .u8 0, .int .u8 0, .int .u8 0, .int .u8 0, .int .u8 0, .int .u8 0, .int .u8 0, .int .u8 0, .int .u8 0, .int .u8 0, .int .u8 0, .int .u8 0, .int .u8 0, .int .u8 0, .int .u8 0, .int .u8 0, .int .u8 0, .int .u8 0, .int .u8 0, .int .u8 0, .int .u8 0, .int .u8 0], .arr 24 5⟩ := by kernel_rfl
@[go_sem] theorem ty140 : tyR Tryd.prog 140 = some ⟨1, false, 8, [.nilptr], .ptr 5⟩ := by kernel_rfl
@[go_sem] theorem ty141 : tyR Tryd.prog 141 = some ⟨256, true, 256, [.int .u8 0, .int .u8 0, .int .u8 0, .int .u8 0, .int .u8 0, .int .u8 0, .int .u8 0, .int .u8 0, .int .u8 0, .int .u8 0, .int .u8 0, .int .u8 0, .int .u8 0, .int .u8 0, .int .u8 0, .int .u8 0, .int .u8 0, .int .u8 0, .int .u8 0, .int .u8 0, .int .u8 0, .int .u8 0, .int .u8 0, .int .u8 0, .int .u8 0, .int .u8 0, .int .u8 0, .int .u8 0, .int .u8 0, .int .u8 0, .int .u8 0, .int .u8 0, .int .u8 0, .int .u8 0, .int .u8 0, .int .u8 0, .int .u8 0, .int .u8 0, .int .u8 0, .int .u8 0, .int .u8 0, .int .u8 0, .int .u8 0, .int .u8 0, .int .u8 0, .int .u8 0, .int .u8 0, .int .u8 0, .int .u8 0, .int .u8 0, .int .u8 0, .int .u8 0, .int .u8 0, .int .u8 0, .int .u8 0, .int .u8 0, .int .u8 0, .int .u8 0, .int .u8 0, .int .u8 0, .int .u8 0, .int .u8 0, .int .u8 0, .int .u8 0, .int .u8 0, .int .u8 0, .int .u8 0, .int .u8 0, .int .u8 0, .int .u8 0, .int .u8 0, .int .u8 0, .int .u8 0, .int .u8 0, .int .u8 0, .int .u8 0, .int .u8 0, .int .u8 0, .int .u8 0, .int .u8 0, .int .u8 0, .int .u8 0, .int .u8 0, .int .u8 0, .int .u8 0, .int .u8 0, .int .u8 0, .int .u8 0, .int .u8 0, .int .u8 0, .int .u8 0, .int .u8 0, .int .u8 0, .int .u8 0, .int .u8 0, .int .u8 0, .int .u8 0, .int .u8 0, .int .u8 0, .int .u8 0, .int .u8 0, .int .u8 0, .int .u8 0, .int .u8 0, .int .u8 0, .int .u8 0, .int .u8 0, .int .u8 0, .int .u8 0, .int .u8 0, .int .u8 0, .int .u8 0, .int .u8 0, .int .u8 0, .int .u8 0, .int .u8 0, .int .u8 0, .int .u8 0, .int .u8 0, .int .u8 0, .int .u8 0, .int .u8 0, .int .u8 0, .int .u8 0, .int .u8 0, .int .u8 0, .int .u8 0, .int .u8 0, .int .u8 0, .int .u8 0, .int .u8 0, .int .u8 0, .int .u8 0, .int .u8 0, .int .u8 0, .int .u8 0, .int .u8 0, .int .u8 0, .int .u8 0, .int .u8 0, .int .u8 0, .int .u8 0, .int .u8 0, .int .u8 0, .int .u8 0, .int .u8 0, .int .u8 0, .int .u8 0, .int .u8 0, .int .u8 0, .int .u8 0, .int .u8 0, .int .u8 0, .int .u8 0, .int .u8 0, .int .u8 0, .int .u8 0, .int .u8 0, .int .u8 0, .int .u8 0, .int .u8 0, .int .u8 0, .int .u8 0, .int .u8 0, .int .u8 0, .int .u8 0, .int .u8 0, .int .u8 0, .int .u8 0, .int .u8 0, .int .u8 0, .int .u8 0, .int .u8 0, .int .u8 0, .int .u8 0, .int .u8 0, .int .u8 0, .int .u8 0, .int .u8 0, .int .u8 0, .int .u8 0, .int .u8 0, .int .u8 0, .int .u8 0, .int .u8 0, .int .u8 0, .int .u8 0, .int .u8 0, .int .u8 0, .int .u8 0, .int .u8 0, .int .u8 0, .int .u8 0, .int .u8 0, .int .u8 0, .int .u8 0, .int .u8 0, .int .u8 0, .int .u8 0, .int .u8 0, .int .u8 0, .int .u8 0, .int .u8 0, .int .u8 0, .int .u8 0, .int .u8 0, .int .u8 0, .int .u8 0, .int .u8 0, .int .u8 0, .int .u8 0, .int .u8 0, .int .u8 0, .int .u8 0, .int .u8 0, .int .u8 0, .int .u8 0, .int .u8 0, .int .u8 0, .int .u8 0, .int .u8 0, .int .u8 0, .int .u8 0, .int .u8 0, .int .u8 0, .int .u8 0, .int .u8 0, .int .u8 0, .int .u8 0, .int .u8 0, .int .u8 0, .int .u8 0, .int .u8 0, .int .u8 0, .int .u8 0, .int .u8 0, .int .u8 0, .int .u8 0, .int .u8 0, .int .u8 0, .int .u8 0, .int .u8 0, .int .u8 0, .int .u8 0, .int .u8 0, .int .u8 0, .int .u8 0, .int .u8 0, .int .u8 0, .int .u8 0, .int .u8 0, .int .u8 0, .int .u8 0, .int .u8 0, .int .u8 0, .int .u8 0], .arr 256 5⟩ := by kernel_rfl
@[go_sem] theorem ty143 : tyR Tryd.prog 143 = some ⟨2, true, 2, [.int .u8 0, .int .u8 0], .st [(0, 5, 1), (1, 5, 1)]⟩ := by kernel_rfl
@[go_sem] theorem ty144 : tyR Tryd.prog 144 = some ⟨32, true, 32, [.int .u8 0, .int .u8 0, .int .u8 0, .int .u8 0, .int .u8 0, .int .u8 0, .int .u8 0, .int .u8 0, .int .u8 0, .int .u8 0, .int .u8 0, .int .u8 0, .int .u8 0, .int .u8 0, .int .u8 0, .int .u8 0, .int .u8 0, .int .u8 0, .int .u8 0, .int .u8 0, .int .u8 0, .int .u8 0, .int .u8 0, .int .u8 0, .int .u8 0, .int .u8 0, .int .u8 0, .int .u8 0, .int .u8 0, .int .u8 0, .int .u8 0, .int .u8 0], .arr 16 143⟩ := by kernel_rfl
@[go_sem] theorem ty147 : tyR Tryd.prog 147 = some ⟨1, true, 16, [.str []], .st [(0, 9, 1)]⟩ := by kernel_rfl
@[go_sem] theorem ty149 : tyR Tryd.prog 149 = some ⟨20, true, 160, [.int .u64 0, .int .u64 0, .int .u64 0, .int .u64 0, .int .u64 0, .int .u64 0, .int .u64 0, .int .u64 0, .int .u64 0, .int .u64 0, .int .u64 0, .int .u64 0, .int .u64 0, .int .u64 0, .int .u64 0, .int .u64 0, .int .u64 0, .int .u64 0, .int .u64 0, .int .u64 0], .arr 20 116⟩ := by kernel_rfl
@[go_sem] theorem ty150 : tyR Tryd.prog 150 = some ⟨65, true, 65, [.int .u8 0, .int .u8 0, .int .u8 0, .int .u8 0, .int .u8 0, .int .u8 0, .int .u8 0, .int .u8 0, .int .u8 0, .int .u8 0, .int .u8 0, .int .u8 0, .int .u8 0, .int .u8 0, .int .u8 0, .int .u8 0, .int .u8 0, .int .u8 0, .int .u8 0, .int .u8 0, .int .u8 0, .int .u8 0, .int .u8 0, .int .u8 0, .int .u8 0, .int .u8 0, .int .u8 0, .int .u8 0, .int .u8 0, .int .u8 0, .int .u8 0, .int .u8 0, .int .u8 0, .int .u8 0, .int .u8 0, .int .u8 0, .int .u8 0, .int .u8 0, .int .u8 0, .int .u8 0, .int .u8 0, .int .u8 0, .int .u8 0, .int .u8 0, .int .u8 0, .int .u8 0, .int .u8 0, .int .u8 0, .int .u8 0, .int .u8 0, .int .u8 0, .int .u8 0, .int .u8 0, .int .u8 0, .int .u8 0, .int .u8 0, .int .u8 0, .int .u8 0, .int .u8 0, .int .u8 0, .int .u8 0, .int .u8 0, .int .u8 0, .int .u8 0, .int .u8 0], .arr 65 5⟩ := by kernel_rfl
@[go_sem] theorem ty157 : tyR Tryd.prog 157 = some ⟨32, true, 32, [.int .u8 0, .int .u8 0, .int .u8 0, .int .u8 0, .int .u8 0, .int .u8 0, .int .u8 0, .int .u8 0, .int .u8 0, .int .u8 0, .int .u8 0, .int .u8 0, .int .u8 0, .int .u8 0, .int .u8 0, .int .u8 0, .int .u8 0, .int .u8 0, .int .u8 0, .int .u8 0, .int .u8 0, .int .u8 0, .int .u8 0, .int .u8 0, .int .u8 0, .int .u8 0, .int .u8 0, .int .u8 0, .int .u8 0, .int .u8 0, .int .u8 0, .int .u8 0], .arr 32 5⟩ := by kernel_rfl
@[go_sem] theorem ty158 : tyR Tryd.prog 158 = some ⟨64, true, 64, [.int .u8 0, .int .u8 0, .int .u8 0, .int .u8 0, .int .u8 0, .int .u8 0, .int .u8 0, .int .u8 0, .int .u8 0, .int .u8 0, .int .u8 0, .int .u8 0, .int .u8 0, .int .u8 0, .int .u8 0, .int .u8 0, .int .u8 0, .int .u8 0, .int .u8 0, .int .u8 0, .int .u8 0, .int .u8 0, .int .u8 0, .int .u8 0, .int .u8 0, .int .u8 0, .int .u8 0, .int .u8 0, .int .u8 0, .int .u8 0, .int .u8 0, .int .u8 0, .int .u8 0, .int .u8 0, .int .u8 0, .int .u8 0, .int .u8 0, .int .u8 0, .int .u8 0, .int .u8 0, .int .u8 0, .int .u8 0, .int .u8 0, .int .u8 0, .int .u8 0, .int .u8 0, .int .u8 0, .int .u8 0, .int .u8 0, .int .u8 0, .int .u8 0, .int .u8 0, .int .u8 0, .int .u8 0, .int .u8 0, .int .u8 0, .int .u8 0, .int .u8 0, .int .u8 0, .int .u8 0, .int .u8 0, .int .u8 0, .int .u8 0, .int .u8 0], .arr 64 5⟩ := by kernel_rfl
theorem mix : Tryd.prog.follows .mixedOrders = true := by kernel_rfl
open Go.Proofs
set_option linter.unusedVariables false
set_option linter.unusedSimpArgs false
abbrev I (n : Int) : HVal := .int .i64 n
abbrev sls {α : Type} (sz : Nat) (c : α → List HVal) (l : List α) : HVal := .sl sz (l.map c) false

theorem upd_get (h : Heap) (n m : Nat) (o : HObj) : upd h n o m = if m = n then some o else h m := rfl
theorem getElem_of_eq {α : Type} {a b : List α} (e : a = b) {k : Nat} (ha : k < a.length) {hb : k < b.length} : a[k] = b[k] := by subst e; rfl
theorem take_step {α : Type} {a b : List α} {k : Nat} (ha : k < a.length) (hb : k < b.length) (hp : a.take k = b.take k) (he : a[k] = b[k]) : a.take (k + 1) = b.take (k + 1) := by
  rw [List.take_succ_eq_append_getElem ha, List.take_succ_eq_append_getElem hb, hp, he]
theorem eq_of_take {α : Type} {a b : List α} (hl : a.length = b.length) (h : a.take a.length = b.take a.length) : a = b := by
  rw [List.take_length, hl, List.take_length] at h; exact h
theorem all_step {α : Type} {P : α → Prop} {l : List α} {k : Nat} (h : k < l.length) (hp : ∀ x ∈ l.take k, P x) (he : P l[k]) : ∀ x ∈ l.take (k + 1), P x := by
  rw [List.take_succ_eq_append_getElem h]
  intro x hx
  rcases List.mem_append.1 hx with hx | hx
  · exact hp x hx
  · rw [List.mem_singleton.1 hx]; exact he
/-- The first place where p holds, or -1. -/
def idxOf {α : Type} (p : α → Bool) (l : List α) : Int := match l.findIdx? p with | some i => i | none => -1
theorem idxOf_none {α : Type} {p : α → Bool} {l : List α} (h : ∀ x ∈ l, p x = false) : idxOf p l = -1 := by
  have : l.findIdx? p = none := List.findIdx?_eq_none_iff.2 h
  simp only [idxOf, this]
theorem idxOf_some {α : Type} {p : α → Bool} {l : List α} {k : Nat} (hk : k < l.length) (h : ∀ x ∈ l.take k, p x = false) (he : p l[k] = true) : idxOf p l = k := by
  have : l.findIdx? p = some k := by
    rw [List.findIdx?_eq_some_iff_getElem]
    refine ⟨hk, he, fun j hj => ?_⟩
    have := h l[j] (List.mem_take_iff_getElem.2 ⟨j, by omega, rfl⟩)
    simp [this]
  simp only [idxOf, this]
theorem idxOf_nonneg {α : Type} {p : α → Bool} {l : List α} : decide (0 ≤ idxOf p l) = l.any p := by
  unfold idxOf
  cases h : l.findIdx? p with
  | none =>
    have := List.findIdx?_eq_none_iff.1 h
    simp only
    rw [Bool.eq_false_iff.2 (show l.any p ≠ true from ?_)]
    · simp
    · intro hx
      obtain ⟨x, hx, hp⟩ := List.any_eq_true.1 hx
      rw [this x hx] at hp; cases hp
  | some i =>
    obtain ⟨hi, hp, _⟩ := List.findIdx?_eq_some_iff_getElem.1 h
    have : l.any p = true := List.any_eq_true.2 ⟨_, List.getElem_mem hi, hp⟩
    rw [this]; simp
/-- A number of the field. -/
def Num (n : Int) : Prop := 0 ≤ n ∧ n ≤ 1000002
instance (n : Int) : Decidable (Num n) := inferInstanceAs (Decidable (0 ≤ n ∧ n ≤ 1000002))
def Nums (l : List Int) : Prop := ∀ x ∈ l, Num x
instance (l : List Int) : Decidable (Nums l) := inferInstanceAs (Decidable (∀ x ∈ l, Num x))
theorem any_not {α : Type} {P : α → Prop} [DecidablePred P] {l : List α} [Decidable (∀ x ∈ l, P x)] : (!l.any fun x => !decide (P x)) = decide (∀ x ∈ l, P x) := by
  rw [Bool.eq_iff_iff]
  simp [List.any_eq_false]
structure DAct where
  fKind : Int
  fA : Int
  fB : Int
  fNumbers : (List Int)
def DAct.c (x : DAct) : List HVal := [(.int .i64 x.fKind), (.int .i64 x.fA), (.int .i64 x.fB), (sls 1 (fun n => [I n]) x.fNumbers)]
def DAct.s (x : DAct) : Nat := x.fNumbers.length
theorem DAct.c_eq (x : DAct) : x.c = [(.int .i64 x.fKind), (.int .i64 x.fA), (.int .i64 x.fB), (sls 1 (fun n => [I n]) x.fNumbers)] := rfl
theorem DAct.s_eq (x : DAct) : x.s = x.fNumbers.length := rfl
@[simp] theorem DAct.c_len (x : DAct) : x.c.length = 4 := by rw [DAct.c_eq]; rfl
theorem DAct.eq_iff {a b : DAct} : a = b ↔ a.fKind = b.fKind ∧ a.fA = b.fA ∧ a.fB = b.fB ∧ a.fNumbers = b.fNumbers := by cases a; cases b; simp
noncomputable instance : DecidableEq DAct := fun a b => Classical.propDecidable (a = b)


open Go.Proofs
set_option linter.unusedVariables false
set_option linter.unusedSimpArgs false



open Go.Proofs
set_option linter.unusedVariables false
set_option linter.unusedSimpArgs false
def DAct.o (x : DAct) (e : List OV) : Prop := ∃ y3, e = [.v (.int .i64 x.fKind), .v (.int .i64 x.fA), .v (.int .i64 x.fB), y3] ∧ OS (oP I) 1 x.fNumbers y3
theorem DAct.o_dat {x : DAct} {e : List OV} (h : x.o e) : e.map OV.dat = x.c := by
  obtain ⟨y3, rfl, o3⟩ := h
  have d3 := OS.dat (c := (fun n => [I n])) (fun _ _ q => oP_dat q) o3
  rw [DAct.c_eq]
  simp only [List.map_cons, List.map_nil, OV.dat, d3]

theorem DAct.o_sol (x : DAct) (e : List OV) (h : x.o e) : OV.solRow e = true := by
  obtain ⟨y3, rfl, o3⟩ := h
  have d3 := OS.solm (fun _ _ _ q => oP_sol (fun _ => rfl) q) o3
  simp [OV.solRow, OV.sol, HVal.solid, d3]
theorem DAct.o_ct (x : DAct) (e : List OV) (h : x.o e) : OV.ctRow e ≤ 16 * (1 + x.s) := by
  obtain ⟨y3, rfl, o3⟩ := h
  have d3 := o3.ctP
  have s0 := DAct.s_eq x
  clear o3
  simp only [OV.ctRow, OV.ct_v]
  refine Nat.le_trans (Nat.add_le_add (Nat.le_refl 1) (Nat.add_le_add (Nat.le_refl 1) (Nat.add_le_add (Nat.le_refl 1) (Nat.add_le_add d3 (Nat.le_refl 0))))) ?_
  clear d3
  try generalize x.fNumbers.length = z3 at *
  omega
theorem DAct.o_top (x : DAct) (e : List OV) (h : x.o e) : OV.ctTop e ≤ 16 * (1 + x.s) := by
  have h1 := DAct.o_ct x e h
  have h2 : ∀ e : List OV, OV.ctTop e ≤ OV.ctRow e := fun e => by
    induction e with
    | nil => simp [OV.ctTop]
    | cons a e ih => rw [OV.ctTop, OV.ctRow]; cases a <;> simp [OV.ctT] <;> omega
  exact Nat.le_trans (h2 e) h1

open Go.Proofs
set_option linter.unusedVariables false
set_option linter.unusedSimpArgs false




open Go.Proofs
set_option linter.unusedVariables false
set_option linter.unusedSimpArgs false
open Go.Proofs
set_option linter.unusedVariables false
set_option linter.unusedSimpArgs false

def keep29 : List Nat := [0, 1, 4, 5, 9]
def ib29 : List Nat := []
def mk29 : Marks := fun _ => ([], .nil, [])
set_option maxRecDepth 100000 in
theorem mark_Int64S (l : List Int) : MarkS Tryd.prog 29 (OS (oP I) 1 l) := by
  intro y k h hy h0 h1 ho nd
  rcases hy with ⟨rfl, hl⟩ | ⟨n, es, rfl, hor⟩
  · rw [OV.mk_nil, OV.nil_rows, OV.ct_nil, OV.val_nil]
    refine fnHF 19 keep29 ib29 mk29 mix Tryd.func29 rfl (by kernel_rfl) (by simp) ?_
    simp (maxSteps := 1000000) -dsimp -implicitDefEqProofs only [go_sem, ↓reduceIte, keep29, ib29, mk29, Tryd.f29]
    refine loopF (keep := keep29) (ib := ib29) (mk := mk29) mix (by kernel_rfl) (fun _ : Unit => [(0, .sl 1 [] true), (1, I k), (5, I 0)]) (fun _ => h) (fun _ => True) (fun _ => 0) () (by simp [SatL, tget, Heap.le_refl]) ?_
    intro _ _
    simp (maxSteps := 1000000) -dsimp -implicitDefEqProofs only [go_sem, ↓reduceIte, keep29, ib29, mk29, Tryd.f29, zero_cast, Int.lt_irrefl]
    try intro _
    refine ⟨h, Heap.le_refl _, ?_⟩
    first | exact Chg.refl (by simp [Owns]) | exact ⟨by simp, Chg.refl (by simp [Owns])⟩
  · rw [OV.mk_sl, OV.sl_rows, OV.sl_rows, OV.ct_sl, OV.val_sl]
    rw [OV.ct_sl] at h1
    rw [OV.sl_rows] at ho nd
    generalize hL0 : (n, HObj.row 1 (OV.cells es)) :: OV.rowsRows es = L0 at nd ⊢
    refine fnHF 19 keep29 ib29 mk29 mix Tryd.func29 rfl (by kernel_rfl) (by simp) ?_
    simp (maxSteps := 1000000) -dsimp -implicitDefEqProofs only [go_sem, ↓reduceIte, keep29, ib29, mk29, Tryd.f29]
    refine loopF (keep := keep29) (ib := ib29) (mk := mk29) mix (by kernel_rfl) (fun x : Nat × Heap => [(0, .os n 1 0 es.length), (1, I (k + OV.ctRows (es.take x.1))), (5, I x.1)]) (fun x => x.2) (fun x => x.1 ≤ es.length ∧ Chg h x.2 L0 ((n, .row 1 (OV.cells (OV.mkRows k (es.take x.1) ++ es.drop x.1))) :: OV.rowsRows (OV.mkRows k (es.take x.1) ++ es.drop x.1))) (fun x => es.length - x.1) (0, h) (by
      refine ⟨by simp [SatL, tget, OV.ctRows], Heap.le_refl _, Nat.zero_le _, ?_⟩
      rw [← hL0]
      simpa [OV.mkRows] using Chg.refl ho) ?_
    rintro ⟨i, g⟩ ⟨hi, hc⟩
    simp only at hi hc ⊢
    rcases Nat.lt_or_ge i es.length with hlt | hge
    · have hll : i < l.length := by rw [hor.length]; exact hlt
      obtain ⟨A, e, B, rfl, hA, he⟩ := hor.split i hll
      have t1 : (A ++ e :: B).take i = A := by rw [← hA]; simp
      have t2 : (A ++ e :: B).drop i = e :: B := by rw [← hA]; simp
      have t0 : A ++ e :: B = (A ++ [e]) ++ B := by simp
      have t3 : (A ++ e :: B).take (i + 1) = A ++ [e] := by rw [t0]; exact List.take_left' (by simp [hA])
      have t4 : (A ++ e :: B).drop (i + 1) = B := by rw [t0]; exact List.drop_left' (by simp [hA])
      clear t0
      have hct := OV.ctRows_append A (e :: B)
      rw [OV.ctRows] at hct
      rw [t1, t2] at hc
      rw [t1]
      have hA2 : (OV.cells (OV.mkRows k A)).length = i := by rw [OV.cells, List.length_map, OV.mkRows_len, hA]
      have hs2 := OV.mkRows_snoc k A e
      have hs3 := OV.ctRows_snoc A e
      obtain rfl : _ = _ := he
      simp only [OV.ctRow_cons, OV.ctRow_nil, OV.ct_v, Nat.add_zero, OV.mkRow_cons, OV.mkRow_nil, OV.mk_v, leaf_int, leaf_bool, leaf_str, one_cast] at hct hs2 hs3
      generalize hkk : k + (OV.ctRows A : Int) = kk at hs2 ⊢
      generalize OV.mkRows k A = A2 at hs2 hc hA2
      have gm : ∀ (c : List Cell) (Y : List (List Cell)), (OV.cells A2 ++ c :: Y)[i]? = some c := fun c Y => get_mid hA2
      have sm : ∀ (c c2 : List Cell) (Y : List (List Cell)), (OV.cells A2 ++ c :: Y).set i c2 = OV.cells A2 ++ c2 :: Y := fun c c2 Y => set_mid hA2
      have hc0 := hc
      simp only [List.append_assoc, List.cons_append, List.nil_append, List.append_nil, OV.row_cons, OV.row_nil, OV.v_rows, rowsRows_cons, rowsRows_app, cells_append, cells_cons, cellv_cons, cellv_nil, OV.val_v] at hc0
      have hgn := hc0.owns (n, _) List.mem_cons_self
      simp only at hgn
      have iw0_0 : IntKind.i64.wrap (kk + 1) = kk + 1 := IntWalk.i64_in _ (by omega)
      simp (maxSteps := 1000000) -dsimp -implicitDefEqProofs only [go_sem, ↓reduceIte, keep29, ib29, mk29, Tryd.f29, hgn, gm, sm, upd_upd, upd_same, iw0_0]
      repeat' (with_reducible first | intro _ | refine And.intro ?_ ?_)
      all_goals try omega
      have hq0 := hc0.trans (Chg.set (o' := .row 1 (OV.cells A2 ++ [.v (.int .i64 (kk))] :: OV.cells B)) hc0.owns (hc0.nodup nd))
      have hg0 : upd g n (.row 1 (OV.cells A2 ++ [.v (.int .i64 (kk))] :: OV.cells B)) n = some (.row 1 (OV.cells A2 ++ [.v (.int .i64 (kk))] :: OV.cells B)) := upd_same _ _ _
      refine ⟨(i + 1, (upd g n (.row 1 (OV.cells A2 ++ [.v (.int .i64 (kk))] :: OV.cells B)))), ?_⟩
      simp only [t3, t4, hs2, hs3]
      refine ⟨?_, Heap.le_refl _, ⟨by omega, ?_⟩, by omega⟩
      · repeat' (with_reducible refine And.intro ?_ ?_)
        all_goals first | rfl | trivial | omega | (rw [IntWalk.i64_in _ (by omega)]; omega)
      · simpa only [List.append_assoc, List.cons_append, List.nil_append, List.append_nil, OV.row_cons, OV.row_nil, OV.v_rows, rowsRows_cons, rowsRows_app, cells_append, cells_cons, cellv_cons, cellv_nil, OV.val_v] using hq0
    · have hi2 : i = es.length := by omega
      subst hi2
      rw [List.take_length, List.drop_length, List.append_nil] at hc
      rw [List.take_length]
      simp (maxSteps := 1000000) -dsimp -implicitDefEqProofs only [go_sem, ↓reduceIte, keep29, ib29, mk29, Tryd.f29, Int.lt_irrefl, Nat.lt_irrefl]
      try intro _
      refine ⟨g, Heap.le_refl _, ?_⟩
      first | exact hc | exact ⟨rfl, hc⟩

def keep8 : List Nat := [0, 1, 2, 4]
def ib8 : List Nat := [2]
def mk8 : Marks := fun _ => ([], .nil, [])
set_option maxRecDepth 100000 in
theorem mark_Act (x : DAct) : MarkA Tryd.prog 8 x.o := by
  intro e k h he h0 h1 ho nd
  obtain ⟨y_3, rfl, o_3⟩ := he
  simp only [OV.ctTop_cons, OV.ctTop_nil, OV.ctT_v, OV.mkTop_cons, OV.mkTop_nil, OV.mkT_v, Nat.add_zero, Nat.zero_add, zero_cast, Int.add_zero, Int.zero_add, o_3.ctT, o_3.mkT] at h1 ⊢
  have hc0 := Chg.refl ho
  simp only [List.append_assoc, List.cons_append, List.nil_append, List.append_nil, OV.row_cons, OV.row_nil, OV.v_rows, rowsRows_cons, rowsRows_app, cells_append, cells_cons, cellv_cons, cellv_nil, OV.val_v] at hc0 nd ⊢
  obtain ⟨L0, hL0⟩ : ∃ L : List (Nat × HObj), L = (y_3.rows) := ⟨_, rfl⟩
  replace hc0 : Chg h h L0 (y_3.rows) := by rw [hL0]; exact hc0
  rw [← hL0] at nd ⊢
  refine fnHF 10 keep8 ib8 mk8 mix Tryd.func8 rfl (by kernel_rfl) (by simp) ?_
  simp (maxSteps := 1000000) -dsimp -implicitDefEqProofs only [go_sem, ↓reduceIte, keep8, ib8, mk8, Tryd.f8, OV.map_val, OV.map_val_nil, OV.val_v, o_3.flat, o_3.one]
  have hp0 : Chg h h L0 ((([] : List (Nat × HObj))) ++ ((y_3.rows) ++ (([] : List (Nat × HObj))))) := by simpa only [List.append_assoc, List.cons_append, List.nil_append, List.append_nil, OV.row_cons, OV.row_nil, OV.v_rows, rowsRows_cons, rowsRows_app, cells_append, cells_cons, cellv_cons, cellv_nil, OV.val_v] using hc0
  refine HFnF.mkH (mark_Int64S x.fNumbers y_3 (k) _ o_3 (by omega) (by omega) hp0.owns.right.left (nodup_mid (hp0.nodup nd))) ?_
  rintro r g0 ⟨rfl, hch0⟩
  have hr0 := hp0.trans (Chg.mid hp0.owns (hp0.nodup nd) (by simpa only [List.append_assoc, List.cons_append, List.nil_append, List.append_nil, OV.row_cons, OV.row_nil, OV.v_rows, rowsRows_cons, rowsRows_app, cells_append, cells_cons, cellv_cons, cellv_nil, OV.val_v] using hch0))
  simp (maxSteps := 1000000) -dsimp -implicitDefEqProofs only [go_sem, ↓reduceIte, keep8, ib8, mk8, Tryd.f8, OV.map_val, OV.map_val_nil, OV.val_v, o_3.flat, o_3.one]
  refine ⟨g0, Heap.le_refl _, ?_⟩
  first
    | exact ⟨by congr 1; omega, by simpa only [List.append_assoc, List.cons_append, List.nil_append, List.append_nil, OV.row_cons, OV.row_nil, OV.v_rows, rowsRows_cons, rowsRows_app, cells_append, cells_cons, cellv_cons, cellv_nil, OV.val_v, Int.natCast_add, ← Int.add_assoc] using hr0⟩
    | exact ⟨by omega, by simpa only [List.append_assoc, List.cons_append, List.nil_append, List.append_nil, OV.row_cons, OV.row_nil, OV.v_rows, rowsRows_cons, rowsRows_app, cells_append, cells_cons, cellv_cons, cellv_nil, OV.val_v, Int.natCast_add, ← Int.add_assoc] using hr0⟩
    | simpa only [List.append_assoc, List.cons_append, List.nil_append, List.append_nil, OV.row_cons, OV.row_nil, OV.v_rows, rowsRows_cons, rowsRows_app, cells_append, cells_cons, cellv_cons, cellv_nil, OV.val_v, Int.natCast_add, ← Int.add_assoc] using hr0

open Go.Proofs
set_option linter.unusedVariables false
set_option linter.unusedSimpArgs false

def keep30 : List Nat := [0, 1, 4, 5, 9, 17]
def ib30 : List Nat := []
def mk30 : Marks := fun _ => ([], .nil, [])
set_option maxRecDepth 100000 in
theorem held_Int64S (l : List Int) : HeldS Tryd.prog 30 (OS (oP I) 1 l) := by
  intro y k hy h0 h1
  rcases hy with ⟨rfl, hl⟩ | ⟨n, es, rfl, hor⟩
  · rw [OV.mk_nil, dat_nil, OV.ct_nil]
    refine fn0F 21 keep30 ib30 mk30 mix Tryd.func30 rfl (by kernel_rfl) (by simp) fun h => ?_
    simp (maxSteps := 1000000) -dsimp -implicitDefEqProofs only [go_sem, ↓reduceIte, keep30, ib30, mk30, Tryd.f30]
    refine loopF (keep := keep30) (ib := ib30) (mk := mk30) mix (by kernel_rfl) (fun _ : Unit => [(0, .sl 1 [] false), (1, I k), (5, I 0)]) (fun _ => h) (fun _ => True) (fun _ => 0) () (by simp [SatL, tget, Heap.le_refl]) ?_
    intro _ _
    simp (maxSteps := 1000000) -dsimp -implicitDefEqProofs only [go_sem, ↓reduceIte, keep30, ib30, mk30, Tryd.f30, zero_cast, Int.lt_irrefl]
    first | done | (intro _; simp) | simp
  · rw [OV.mk_sl, dat_sl, OV.ct_sl]
    rw [OV.ct_sl] at h1
    have hlen : (OV.datRows (OV.mkRows k es)).length = es.length := by rw [datRows_len, OV.mkRows_len]
    refine fn0F 21 keep30 ib30 mk30 mix Tryd.func30 rfl (by kernel_rfl) (by simp) fun h => ?_
    simp (maxSteps := 1000000) -dsimp -implicitDefEqProofs only [go_sem, ↓reduceIte, keep30, ib30, mk30, Tryd.f30, hlen]
    refine loopF (keep := keep30) (ib := ib30) (mk := mk30) mix (by kernel_rfl) (fun i : Nat => [(0, .sl 1 (OV.datRows (OV.mkRows k es)) false), (1, I (k + OV.ctRows (es.take i))), (5, I i)]) (fun _ => h) (fun i => i ≤ es.length) (fun i => es.length - i) 0 (by simp [SatL, tget, OV.ctRows, Heap.le_refl]) ?_
    intro i hi
    rcases Nat.lt_or_ge i es.length with hlt | hge
    · have hll : i < l.length := by rw [hor.length]; exact hlt
      obtain ⟨A, e, B, rfl, hA, he⟩ := hor.split i hll
      have t1 : (A ++ e :: B).take i = A := by rw [← hA]; simp
      have t0 : A ++ e :: B = (A ++ [e]) ++ B := by simp
      have t3 : (A ++ e :: B).take (i + 1) = A ++ [e] := by rw [t0]; exact List.take_left' (by simp [hA])
      clear t0
      have hct := OV.ctRows_append A (e :: B)
      rw [OV.ctRows] at hct
      rw [t1]
      have hs3 := OV.ctRows_snoc A e
      have hD : OV.datRows (OV.mkRows k (A ++ e :: B)) = OV.datRows (OV.mkRows k A) ++ (OV.mkRow (k + (OV.ctRows A : Int)) e).map OV.dat :: OV.datRows (OV.mkRows (k + (OV.ctRows A : Int) + (OV.ctRow e : Int)) B) := by
        rw [OV.mkRows_append, datRows_append, OV.mkRows, datRows_cons]
      have hA2 : (OV.datRows (OV.mkRows k A)).length = i := by rw [datRows_len, OV.mkRows_len, hA]
      have hi2 : (i : Int) < (A ++ e :: B).length := by omega
      obtain rfl : _ = _ := he
      simp only [OV.ctRow_cons, OV.ctRow_nil, OV.ct_v, Nat.add_zero, one_cast] at hct hs3
      generalize hkk : k + (OV.ctRows A : Int) = kk at hD ⊢
      have gm : (OV.datRows (OV.mkRows k (A ++ [.v (.int .i64 l[i])] :: B)))[i]? = some ((OV.mkRow kk [.v (.int .i64 l[i])]).map OV.dat) := by rw [hD]; exact get_mid hA2
      simp only [OV.mkRow_cons, OV.mkRow_nil, OV.mk_v, leaf_int, leaf_bool, leaf_str, OV.ct_v, one_cast, map_dat_cons, map_dat_nil, dat_v] at gm
      clear hD
      generalize OV.datRows (OV.mkRows k (A ++ [.v (.int .i64 l[i])] :: B)) = DD at gm hlen ⊢
      have iw0_0 : IntKind.i64.wrap (kk + 1) = kk + 1 := IntWalk.i64_in _ (by omega)
      simp (maxSteps := 1000000) -dsimp -implicitDefEqProofs only [go_sem, ↓reduceIte, keep30, ib30, mk30, Tryd.f30, hlen, hi2, gm, eq_self, decide_true, Bool.not_true, bne_self_eq_false, iw0_0]
      repeat' (with_reducible first | intro _ | refine And.intro ?_ ?_)
      all_goals try omega
      all_goals try (exact absurd rfl (by assumption))
      refine ⟨i + 1, ?_⟩
      simp only [t3, hs3]
      repeat' (with_reducible first | intro _ | refine And.intro ?_ ?_)
      all_goals first | rfl | trivial | omega | exact Heap.le_refl _ | (rw [IntWalk.i64_in _ (by omega)]; omega)
    · have hi2 : i = es.length := by omega
      subst hi2
      rw [List.take_length]
      simp (maxSteps := 1000000) -dsimp -implicitDefEqProofs only [go_sem, ↓reduceIte, keep30, ib30, mk30, Tryd.f30, hlen, Int.lt_irrefl, Nat.lt_irrefl]
      first | done | (intro _; rfl) | rfl

def keep9 : List Nat := [0, 1, 2, 4, 10]
def ib9 : List Nat := [2]
def mk9 : Marks := fun _ => ([], .nil, [])
set_option maxRecDepth 100000 in
theorem held_Act (x : DAct) : HeldA Tryd.prog 9 x.o := by
  intro e k he h0 h1
  obtain ⟨y_3, rfl, o_3⟩ := he
  simp only [OV.ctTop_cons, OV.ctTop_nil, OV.ctT_v, OV.mkTop_cons, OV.mkTop_nil, OV.mkT_v, Nat.add_zero, Nat.zero_add, zero_cast, Int.add_zero, Int.zero_add, o_3.ctT, o_3.mkT, map_dat_cons, map_dat_nil, dat_v] at h1 ⊢
  refine fn0F 12 keep9 ib9 mk9 mix Tryd.func9 rfl (by kernel_rfl) (by simp) fun h => ?_
  simp (maxSteps := 1000000) -dsimp -implicitDefEqProofs only [go_sem, ↓reduceIte, keep9, ib9, mk9, Tryd.f9, o_3.datflat, o_3.datone]
  repeat' (with_reducible first | intro _ | refine And.intro ?_ ?_)
  all_goals try omega
  refine HFnF.mk (held_Int64S x.fNumbers y_3 (k) o_3 (by omega) (by omega)) ?_
  simp (maxSteps := 1000000) -dsimp -implicitDefEqProofs only [go_sem, ↓reduceIte, keep9, ib9, mk9, Tryd.f9, o_3.datflat, o_3.datone]
  repeat' (with_reducible first | intro _ | refine And.intro ?_ ?_)
  all_goals try omega
  all_goals first | done | rfl | trivial | (congr 1; omega) | omega | (simp only [go_sem]; omega)


open Go.Proofs
set_option linter.unusedVariables false
set_option linter.unusedSimpArgs false
end Go.Hl
namespace Go.Proofs
open Go.Shelf
def Tryd.laysM173_ren : Go.Shelf.Ren := ⟨fun | 173 => 80 | 246 => 93 | 283 => 103 | 284 => 104 | 285 => 105 | 286 => 106 | 129 => 111 | 317 => 110 | 318 => 112 | 319 => 113 | 320 => 114 | 337 => 117 | 338 => 118 | n => n, fun | 2 => 2 | 3 => 3 | 9 => 9 | 4 => 4 | 171 => 135 | 0 => 0 | 53 => 116 | 37 => 102 | 5 => 5 | 173 => 138 | 212 => 149 | 51 => 112 | 20 => 20 | 213 => 150 | 46 => 105 | 232 => 157 | 233 => 158 | n => n, fun | 17 => 5 | 18 => 6 | 19 => 7 | n => n⟩
theorem Tryd.laysM173 : Go.Proofs.LaysM.n173 Tryd.prog Tryd.laysM173_ren := {
  mixed := by kernel_rfl
  f129 := Tryd.func111.trans (congrArg some (by kernel_rfl))
  f173 := Tryd.func80.trans (congrArg some (by kernel_rfl))
  f246 := Tryd.func93.trans (congrArg some (by kernel_rfl))
  f283 := Tryd.func103.trans (congrArg some (by kernel_rfl))
  f284 := Tryd.func104.trans (congrArg some (by kernel_rfl))
  f285 := Tryd.func105.trans (congrArg some (by kernel_rfl))
  f286 := Tryd.func106.trans (congrArg some (by kernel_rfl))
  f317 := Tryd.func110.trans (congrArg some (by kernel_rfl))
  f318 := Tryd.func112.trans (congrArg some (by kernel_rfl))
  f319 := Tryd.func113.trans (congrArg some (by kernel_rfl))
  f320 := Tryd.func114.trans (congrArg some (by kernel_rfl))
  f337 := Tryd.func117.trans (congrArg some (by kernel_rfl))
  f338 := Tryd.func118.trans (congrArg some (by kernel_rfl))
  t0 := Tryd.underlying0
  a0 := Tryd.isAgg0
  z0 := Tryd.sizeOf0
  v0 := Tryd.zeroValue0
  t2 := Tryd.underlying2
  a2 := Tryd.isAgg2
  z2 := Tryd.sizeOf2
  v2 := Tryd.zeroValue2
  t3 := Tryd.underlying3
  a3 := Tryd.isAgg3
  z3 := Tryd.sizeOf3
  v3 := Tryd.zeroValue3
  t4 := Tryd.underlying4
  a4 := Tryd.isAgg4
  z4 := Tryd.sizeOf4
  v4 := Tryd.zeroValue4
  t5 := Tryd.underlying5
  a5 := Tryd.isAgg5
  z5 := Tryd.sizeOf5
  v5 := Tryd.zeroValue5
  t9 := Tryd.underlying9
  a9 := Tryd.isAgg9
  z9 := Tryd.sizeOf9
  v9 := Tryd.zeroValue9
  t20 := Tryd.underlying20
  a20 := Tryd.isAgg20
  z20 := Tryd.sizeOf20
  v20 := Tryd.zeroValue20
  t37 := Tryd.underlying102
  a37 := Tryd.isAgg102
  z37 := Tryd.sizeOf102
  v37 := Tryd.zeroValue102
  t46 := Tryd.underlying105
  a46 := Tryd.isAgg105
  z46 := Tryd.sizeOf105
  v46 := Tryd.zeroValue105
  t51 := Tryd.underlying112
  a51 := Tryd.isAgg112
  z51 := Tryd.sizeOf112
  v51 := Tryd.zeroValue112
  t53 := Tryd.underlying116
  a53 := Tryd.isAgg116
  z53 := Tryd.sizeOf116
  v53 := Tryd.zeroValue116
  t171 := Tryd.underlying135
  a171 := Tryd.isAgg135
  z171 := Tryd.sizeOf135
  v171 := Tryd.zeroValue135
  t173 := Tryd.underlying138
  a173 := Tryd.isAgg138
  z173 := Tryd.sizeOf138
  v173 := Tryd.zeroValue138
  t212 := Tryd.underlying149
  a212 := Tryd.isAgg149
  z212 := Tryd.sizeOf149
  v212 := Tryd.zeroValue149
  t213 := Tryd.underlying150
  a213 := Tryd.isAgg150
  z213 := Tryd.sizeOf150
  t232 := Tryd.underlying157
  a232 := Tryd.isAgg157
  z232 := Tryd.sizeOf157
  v232 := Tryd.zeroValue157
  t233 := Tryd.underlying158
  a233 := Tryd.isAgg158
  z233 := Tryd.sizeOf158
  v233 := Tryd.zeroValue158
  g17 := by kernel_rfl
  g18 := by kernel_rfl
  g19 := by kernel_rfl
  i0 := by kernel_rfl
  i2 := by kernel_rfl
  i3 := by kernel_rfl
  i4 := by kernel_rfl
  i5 := by kernel_rfl
  i9 := by kernel_rfl
  i20 := by kernel_rfl
  i37 := by kernel_rfl
  i46 := by kernel_rfl
  i51 := by kernel_rfl
  i53 := by kernel_rfl
  i171 := by kernel_rfl
  i173 := by kernel_rfl
  i212 := by kernel_rfl
  i232 := by kernel_rfl
  i233 := by kernel_rfl
  m17 := by kernel_rfl
  m18 := by kernel_rfl
  m19 := by kernel_rfl }
open Go.RowKit Go.Sort Go.Lib in
theorem Tryd.strconv_FormatInt_10 (n : Int) (h0 : -9223372036854775808 ≤ n) (h1 : n ≤ 9223372036854775807) (w : World) (htab : Lib.TabIs Tryd.prog w "internal/strconv.uint64pow10" .u64 Lib.pow10Tab) :
    Calls Tryd.prog 80 #[.int .i64 n, .int .i64 10] w fun e w' => e = .returned (.string ⟨(Lib.itoa n).toArray⟩) ∧ ∃ k os, w' = grow (w.drewN k) os := Any.strconv_FormatInt_10 Tryd.laysM173 n h0 h1 w htab
def Tryd.lays156_ren : Go.Shelf.Ren := ⟨fun | 156 => 82 | 165 => 94 | 166 => 95 | 169 => 96 | 240 => 107 | 241 => 108 | 276 => 115 | 277 => 116 | n => n, fun | 31 => 38 | 9 => 9 | 3 => 3 | 4 => 4 | 0 => 0 | 20 => 20 | 72 => 124 | 76 => 126 | 70 => 122 | 37 => 102 | 75 => 95 | 127 => 140 | 164 => 153 | 5 => 5 | 80 => 128 | n => n, fun | n => n⟩
theorem Tryd.lays156 : Go.Proofs.Lays.n156 Tryd.prog Tryd.lays156_ren := {
  mixed := by kernel_rfl
  f156 := Tryd.func82.trans (congrArg some (by kernel_rfl))
  f165 := Tryd.func94.trans (congrArg some (by kernel_rfl))
  f166 := Tryd.func95.trans (congrArg some (by kernel_rfl))
  f169 := Tryd.func96.trans (congrArg some (by kernel_rfl))
  f240 := Tryd.func107.trans (congrArg some (by kernel_rfl))
  f241 := Tryd.func108.trans (congrArg some (by kernel_rfl))
  f276 := Tryd.func115.trans (congrArg some (by kernel_rfl))
  f277 := Tryd.func116.trans (congrArg some (by kernel_rfl))
  t0 := Tryd.underlying0
  a0 := Tryd.isAgg0
  z0 := Tryd.sizeOf0
  v0 := Tryd.zeroValue0
  t3 := Tryd.underlying3
  a3 := Tryd.isAgg3
  z3 := Tryd.sizeOf3
  v3 := Tryd.zeroValue3
  t4 := Tryd.underlying4
  a4 := Tryd.isAgg4
  z4 := Tryd.sizeOf4
  v4 := Tryd.zeroValue4
  t9 := Tryd.underlying9
  a9 := Tryd.isAgg9
  z9 := Tryd.sizeOf9
  v9 := Tryd.zeroValue9
  t20 := Tryd.underlying20
  a20 := Tryd.isAgg20
  z20 := Tryd.sizeOf20
  v20 := Tryd.zeroValue20
  t31 := Tryd.underlying38
  a31 := Tryd.isAgg38
  z31 := Tryd.sizeOf38
  v31 := Tryd.zeroValue38
  t37 := Tryd.underlying102
  a37 := Tryd.isAgg102
  z37 := Tryd.sizeOf102
  v37 := Tryd.zeroValue102
  t70 := Tryd.underlying122
  a70 := Tryd.isAgg122
  z70 := Tryd.sizeOf122
  v70 := Tryd.zeroValue122
  t72 := Tryd.underlying124
  a72 := Tryd.isAgg124
  z72 := Tryd.sizeOf124
  v72 := Tryd.zeroValue124
  t75 := Tryd.underlying95
  a75 := Tryd.isAgg95
  z75 := Tryd.sizeOf95
  v75 := Tryd.zeroValue95
  t76 := Tryd.underlying126
  a76 := Tryd.isAgg126
  z76 := Tryd.sizeOf126
  v76 := Tryd.zeroValue126
  t127 := Tryd.underlying140
  a127 := Tryd.isAgg140
  z127 := Tryd.sizeOf140
  v127 := Tryd.zeroValue140
  t164 := Tryd.underlying153
  a164 := Tryd.isAgg153
  z164 := Tryd.sizeOf153
  v164 := Tryd.zeroValue153 }
theorem Tryd.Builder_Extra_156 : Builder.Extra Tryd.prog Tryd.lays156_ren := {
  sizeBuilder := by kernel_rfl
  liesBuilder := by kernel_rfl
  t5 := Tryd.underlying5
  a5 := Tryd.isAgg5
  z5 := Tryd.sizeOf5
  v5 := Tryd.zeroValue5
  infoByte := by kernel_rfl
  cellsByte := by kernel_rfl
  sizeByte := by kernel_rfl
  neB5 := by decide }
open Go.RowKit in
theorem Tryd.strings_Join_none (a : Option Addr) (c : Nat) (sep : ByteArray) (w : World) :
    Calls Tryd.prog 82 #[.slice a 0 c, .string sep] w fun e w' => e = .returned (.string ⟨#[]⟩) ∧ w' = w := Any.strings_Join_none Tryd.lays156 Tryd.Builder_Extra_156 a c sep w
open Go.RowKit in
theorem Tryd.strings_Join (bk o c : Nat) (xs : List ByteArray) (sep : ByteArray) (w : World) (hcells : ∀ (j : Nat) x, xs[j]? = some x → w.cell? ⟨bk, o + j, none⟩ = some (.string x)) (hbk : bk < w.heap.size) (hN : xs.length ≤ 140737488355328) (hcap : xs.length ≤ c) (hlen : (Lib.join (xs.map (·.data.toList)) sep.data.toList).length ≤ 140737488355328) :
    Calls Tryd.prog 82 #[.slice (some ⟨bk, o, none⟩) xs.length c, .string sep] w fun e w' => e = .returned (.string ⟨(Lib.join (xs.map (·.data.toList)) sep.data.toList).toArray⟩) ∧ Below w.heap.size w w' := Any.strings_Join Tryd.lays156 Tryd.Builder_Extra_156 bk o c xs sep w hcells hbk hN hcap hlen
end Go.Proofs
namespace Go.Hl

open Go.Proofs
set_option linter.unusedVariables false
set_option linter.unusedSimpArgs false
/-! ### texts cut at a byte -/
def spB (c : UInt8) : List UInt8 → List (List UInt8)
  | [] => [[]]
  | x :: l => if x = c then [] :: spB c l else match spB c l with | [] => [[x]] | a :: r => (x :: a) :: r
theorem spB_nil (c : UInt8) : spB c [] = [[]] := rfl
theorem spB_hit (c : UInt8) (l : List UInt8) : spB c (c :: l) = [] :: spB c l := by rw [spB, if_pos rfl]
theorem spB_ne (c : UInt8) : ∀ l, spB c l ≠ []
  | [] => by simp [spB]
  | x :: l => by
    rw [spB]; split
    · simp
    · split <;> simp
theorem spB_miss {c x : UInt8} (h : x ≠ c) (l : List UInt8) : ∃ a r, spB c l = a :: r ∧ spB c (x :: l) = (x :: a) :: r := by
  cases e : spB c l with
  | nil => exact absurd e (spB_ne c l)
  | cons a r => exact ⟨a, r, rfl, by rw [spB, if_neg h, e]⟩
theorem spB_pre {c : UInt8} : ∀ (a : List UInt8) (l : List UInt8), c ∉ a → spB c (a ++ c :: l) = a :: spB c l
  | [], l, _ => spB_hit c l
  | x :: a, l, h => by
    simp only [List.mem_cons, not_or] at h
    obtain ⟨p, r, h1, h2⟩ := spB_miss (c := c) (x := x) (fun e => h.1 e.symm) (a ++ c :: l)
    rw [spB_pre a l h.2] at h1
    rw [List.cons_append, h2]
    injection h1 with h1 h3
    subst h1; subst h3; rfl
theorem spB_one {c : UInt8} : ∀ (a : List UInt8), c ∉ a → spB c a = [a]
  | [], _ => rfl
  | x :: a, h => by
    simp only [List.mem_cons, not_or] at h
    obtain ⟨p, r, h1, h2⟩ := spB_miss (c := c) (x := x) (fun e => h.1 e.symm) a
    rw [spB_one a h.2] at h1
    rw [h2]
    injection h1 with h1 h3
    subst h1; subst h3; rfl
/-- A text: without the byte, or a piece, the byte, and a rest. -/
theorem spB_cases (c : UInt8) : ∀ l : List UInt8, (c ∉ l) ∨ ∃ a r, c ∉ a ∧ l = a ++ c :: r
  | [] => .inl (by simp)
  | x :: l => by
    by_cases e : x = c
    · subst e; exact .inr ⟨[], l, by simp, rfl⟩
    · rcases spB_cases c l with h | ⟨a, r, h1, h2⟩
      · exact .inl (by simp only [List.mem_cons, not_or]; exact ⟨fun q => e q.symm, h⟩)
      · exact .inr ⟨x :: a, r, by simp only [List.mem_cons, not_or]; exact ⟨fun q => e q.symm, h1⟩, by rw [h2]; rfl⟩
theorem join_cons2 (a b : List UInt8) (r : List (List UInt8)) (s : List UInt8) : Go.Lib.join (a :: b :: r) s = a ++ s ++ Go.Lib.join (b :: r) s := by simp [Go.Lib.join, List.intercalate]
theorem drop_pre (a r : List UInt8) (c : UInt8) : (a ++ c :: r).drop (a.length + 1) = r := by
  rw [show a ++ c :: r = (a ++ [c]) ++ r by simp, show a.length + 1 = (a ++ [c]).length by simp, List.drop_left]
theorem spB_join (c : UInt8) (l : List UInt8) : Go.Lib.join (spB c l) [c] = l := by
  induction hn : l.length using Nat.strongRecOn generalizing l with
  | _ n ih =>
    rcases spB_cases c l with h | ⟨a, r, h1, rfl⟩
    · rw [spB_one l h, Go.Lib.join_one]
    · rw [spB_pre a r h1]
      cases e : spB c r with
      | nil => exact absurd e (spB_ne c r)
      | cons b t =>
        rw [join_cons2, ← e, ih r.length (by rw [← hn]; simp; omega) r rfl]; simp
/-- Pieces that have not the byte are those of their text. -/
theorem spB_of_join (c : UInt8) : ∀ (ps : List (List UInt8)), ps ≠ [] → (∀ p ∈ ps, c ∉ p) → spB c (Go.Lib.join ps [c]) = ps
  | [], h, _ => absurd rfl h
  | [a], _, h => by rw [Go.Lib.join_one]; exact spB_one a (h a (by simp))
  | a :: b :: r, _, h => by
    rw [join_cons2, List.append_assoc, List.singleton_append, spB_pre a _ (h a (by simp)), spB_of_join c (b :: r) (by simp) fun p hp => h p (by simp [hp])]
/-! ### the library's functions at a byte -/
theorem isPre_one (c x : UInt8) (l : List UInt8) : [c].isPrefixOf (x :: l) = (c == x) := by simp [List.isPrefixOf]
theorem index_hit (c : UInt8) (l : List UInt8) : ∀ a : List UInt8, c ∉ a → Go.Lib.index (a ++ c :: l) [c] = a.length
  | [], _ => by rw [List.nil_append, Go.Lib.index, isPre_one, if_pos (by simp)]; rfl
  | x :: a, h => by
    simp only [List.mem_cons, not_or] at h
    rw [List.cons_append, Go.Lib.index, isPre_one, if_neg (by simpa using h.1), index_hit c l a h.2]
    have : ((a.length : Int) == -1) = false := by rw [beq_eq_false_iff_ne]; omega
    simp [this]
theorem index_miss (c : UInt8) : ∀ a : List UInt8, c ∉ a → Go.Lib.index a [c] = -1
  | [], _ => by simp [Go.Lib.index]
  | x :: a, h => by
    simp only [List.mem_cons, not_or] at h
    rw [Go.Lib.index, isPre_one, if_neg (by simpa using h.1), index_miss c a h.2]; rfl
theorem cut_hit (c : UInt8) (a l : List UInt8) (h : c ∉ a) : Go.Lib.cut (a ++ c :: l) [c] = (a, l, true) := by
  rw [Go.Lib.cut, index_hit c l a h, if_pos (by omega)]
  simp [List.drop_append]
theorem cut_miss (c : UInt8) (a : List UInt8) (h : c ∉ a) : Go.Lib.cut a [c] = (a, [], false) := by
  rw [Go.Lib.cut, index_miss c a h, if_neg (by omega)]
theorem splitK_spB (c : UInt8) : ∀ (k : Nat) (l : List UInt8), l.count c ≤ k → Go.Lib.splitK [c] 0 k l = spB c l
  | 0, l, h => by
    have : c ∉ l := fun hm => by have := List.count_pos_iff.2 hm; omega
    rw [Go.Lib.splitK, spB_one l this]
  | k + 1, l, h => by
    rcases spB_cases c l with h1 | ⟨a, r, h1, rfl⟩
    · rw [Go.Lib.splitK, index_miss c l h1, spB_one l h1]; rfl
    · have e : ((a.length : Int) == -1) = false := by rw [beq_eq_false_iff_ne]; omega
      rw [Go.Lib.splitK, index_hit c r a h1, e, if_neg (by simp), spB_pre a r h1]
      have hc : r.count c ≤ k := by simp [List.count_append] at h; omega
      simp only [List.length_singleton, Int.toNat_natCast, Nat.add_zero]
      rw [List.take_left, drop_pre, splitK_spB c k _ hc]
theorem count_le (c : UInt8) : ∀ (f : Nat) (l : List UInt8), l.length < f → Go.Lib.countFrom [c] f l = l.count c
  | 0, l, h => by omega
  | f + 1, l, h => by
    rcases spB_cases c l with h1 | ⟨a, r, h1, rfl⟩
    · rw [Go.Lib.countFrom, index_miss c l h1, List.count_eq_zero.2 h1]; rfl
    · have e : ((a.length : Int) == -1) = false := by rw [beq_eq_false_iff_ne]; omega
      rw [Go.Lib.countFrom, index_hit c r a h1, e, if_neg (by simp)]
      simp only [List.length_singleton, Int.toNat_natCast]
      rw [drop_pre, count_le c f _ (by simp at h ⊢; omega)]
      simp [List.count_append, List.count_eq_zero.2 h1]; omega
theorem split_spB (c : UInt8) (l : List UInt8) : Go.Lib.split l [c] = spB c l := by
  rw [Go.Lib.split, Go.Lib.count, count_le c _ l (by omega), splitK_spB c _ l (Nat.le_refl _)]
/-! ### decimal numerals -/
theorem dec_one {u : Nat} (h : u < 10) : Go.Lib.decDigits u = [UInt8.ofNat (48 + u)] := by rw [Go.Lib.decDigits, dif_pos h]
theorem dec_more {u : Nat} (h : 10 ≤ u) : Go.Lib.decDigits u = Go.Lib.decDigits (u / 10) ++ [UInt8.ofNat (48 + u % 10)] := by rw [Go.Lib.decDigits, dif_neg (by omega)]
theorem dig_val {d : Nat} (h : d < 10) : (UInt8.ofNat (48 + d)).toNat = 48 + d := by
  show (48 + d) % 256 = 48 + d
  omega
def numEnd {α : Type} (x : Go.Lib.NumEnd Nat) (ok : Nat → Go.Lib.NumEnd α) : Go.Lib.NumEnd α := match x with | .ok a => ok a | Go.Lib.NumEnd.syntax => Go.Lib.NumEnd.syntax | .range => .range
theorem parseU_snoc (M : Nat) (c : UInt8) : ∀ (l : List UInt8) (acc : Nat), Go.Lib.parseUintM M acc (l ++ [c]) = numEnd (Go.Lib.parseUintM M acc l) fun a => Go.Lib.parseUintM M a [c]
  | [], acc => rfl
  | x :: l, acc => by
    rw [List.cons_append, Go.Lib.parseUintM, Go.Lib.parseUintM]
    split
    · split
      · rfl
      · split
        · rfl
        · exact parseU_snoc M c l _
    · rfl
theorem parseU_one {M acc d : Nat} (hd : d < 10) (h1 : acc < 1844674407370955162) (h2 : acc * 10 + d ≤ M) : Go.Lib.parseUintM M acc [UInt8.ofNat (48 + d)] = .ok (acc * 10 + d) := by
  rw [Go.Lib.parseUintM, dig_val hd, if_pos (by omega), if_neg (by omega), if_neg (by omega), Go.Lib.parseUintM]
  congr 1; omega
theorem parseU_dec {M : Nat} (hM : M < 18446744073709551616) (u : Nat) (h : u ≤ M) : Go.Lib.parseUintM M 0 (Go.Lib.decDigits u) = .ok u := by
  induction u using Nat.strongRecOn with
  | _ u ih =>
    by_cases e : u < 10
    · rw [dec_one e, parseU_one e (by omega) (by omega)]; congr 1; omega
    · rw [dec_more (by omega), parseU_snoc, ih (u / 10) (by omega) (by omega)]
      show Go.Lib.parseUintM M (u / 10) _ = _
      rw [parseU_one (by omega) (by omega) (by omega)]; congr 1; omega
theorem dec_head (u : Nat) : ∃ d r, Go.Lib.decDigits u = UInt8.ofNat (48 + d) :: r ∧ d < 10 ∧ (r ≠ [] → 1 ≤ d) := by
  induction u using Nat.strongRecOn with
  | _ u ih =>
    by_cases e : u < 10
    · exact ⟨u, [], dec_one e, e, fun h => absurd rfl h⟩
    · obtain ⟨d, r, h1, h2, h3⟩ := ih (u / 10) (by omega)
      refine ⟨d, r ++ [UInt8.ofNat (48 + u % 10)], by rw [dec_more (by omega), h1]; rfl, h2, fun _ => ?_⟩
      by_cases hr : r = []
      · subst hr
        by_cases e2 : u / 10 < 10
        · rw [dec_one e2] at h1
          have h4 : UInt8.ofNat (48 + u / 10) = UInt8.ofNat (48 + d) := by injection h1
          have := congrArg UInt8.toNat h4
          rw [dig_val e2, dig_val h2] at this; omega
        · rw [dec_more (by omega)] at h1
          have := congrArg List.length h1
          have h5 := (ih (u / 10 / 10) (by omega))
          obtain ⟨d', r', h6, _⟩ := h5
          rw [h6] at this; simp at this
      · exact h3 hr
theorem itoa_dec (n : Int) (h : 0 ≤ n) : Go.Lib.itoa n = Go.Lib.decDigits n.toNat := by rw [Go.Lib.itoa, if_neg (by omega)]
theorem parseI_itoa {n : Int} (h0 : 0 ≤ n) (h1 : n ≤ 9223372036854775807) : Go.Lib.parseIntB 64 (Go.Lib.itoa n) = .ok n := by
  rw [itoa_dec n h0]
  obtain ⟨d, r, hd, h2, _⟩ := dec_head n.toNat
  have hp := parseU_dec (M := 2 ^ 64 - 1) (by decide) n.toNat (by omega)
  rw [hd] at hp ⊢
  have hv := dig_val h2
  simp only [Go.Lib.parseIntB, hv]
  rw [if_neg (by omega), Go.Lib.parseUintB, if_neg (by simp), hp]
  simp only [show ¬ (48 + d = 45) by omega, not_false_eq_true, true_and, false_and, if_false]
  rw [if_neg (by omega)]
  congr 1; omega
/-- What strconv.ParseInt makes of a text. -/
def rdN (s : List UInt8) : Int := match Go.Lib.parseIntB 64 s with | .ok v => v | Go.Lib.NumEnd.syntax => 0 | .range => Go.Lib.intSat 64 s
/-- A text is the numeral of a number that is not over a bound. -/
def rdOK (hi : Int) (s : List UInt8) : Prop := 0 ≤ rdN s ∧ rdN s ≤ hi ∧ s = Go.Lib.itoa (rdN s)
instance (hi : Int) (s : List UInt8) : Decidable (rdOK hi s) := inferInstanceAs (Decidable (_ ∧ _ ∧ _))
theorem rdN_itoa {n : Int} (h0 : 0 ≤ n) (h1 : n ≤ 9223372036854775807) : rdN (Go.Lib.itoa n) = n := by rw [rdN, parseI_itoa h0 h1]
theorem rdOK_itoa {n hi : Int} (h0 : 0 ≤ n) (h1 : n ≤ 9223372036854775807) : rdOK hi (Go.Lib.itoa n) ↔ n ≤ hi := by
  rw [rdOK, rdN_itoa h0 h1]; exact ⟨fun h => h.2.1, fun h => ⟨h0, h, rfl⟩⟩
theorem rdOK_iff {hi : Int} (h : hi ≤ 9223372036854775807) (s : List UInt8) : rdOK hi s ↔ ∃ n, 0 ≤ n ∧ n ≤ hi ∧ s = Go.Lib.itoa n :=
  ⟨fun q => ⟨_, q⟩, fun ⟨n, h0, h1, e⟩ => by rw [e]; exact (rdOK_itoa h0 (by omega)).2 h1⟩
theorem dec_digits (u : Nat) : ∀ c ∈ Go.Lib.decDigits u, 48 ≤ c.toNat ∧ c.toNat ≤ 57 := by
  induction u using Nat.strongRecOn with
  | _ u ih =>
    intro c hc
    by_cases e : u < 10
    · rw [dec_one e] at hc
      rw [List.mem_singleton.1 hc, dig_val e]; omega
    · rw [dec_more (by omega)] at hc
      rcases List.mem_append.1 hc with hc | hc
      · exact ih (u / 10) (by omega) c hc
      · rw [List.mem_singleton.1 hc, dig_val (Nat.mod_lt _ (by omega))]; omega
theorem dec_ne (u : Nat) : Go.Lib.decDigits u ≠ [] := by obtain ⟨d, r, h, _⟩ := dec_head u; rw [h]; simp
theorem itoa_ne {n : Int} (h : 0 ≤ n) : Go.Lib.itoa n ≠ [] := by rw [itoa_dec n h]; exact dec_ne _
theorem itoa_no {n : Int} (h : 0 ≤ n) {c : UInt8} (hc : c.toNat < 48) : c ∉ Go.Lib.itoa n := fun q => by
  rw [itoa_dec n h] at q
  have := dec_digits _ c q
  omega
/-- The number that digits spell. -/
def decV (l : List UInt8) : Nat := l.foldl (fun n c => 10 * n + (c.toNat - 48)) 0
theorem decV_snoc (l : List UInt8) (c : UInt8) : decV (l ++ [c]) = 10 * decV l + (c.toNat - 48) := by simp [decV]
theorem decV_dec (u : Nat) : decV (Go.Lib.decDigits u) = u := by
  induction u using Nat.strongRecOn with
  | _ u ih =>
    by_cases e : u < 10
    · rw [dec_one e]; simp only [decV, List.foldl_cons, List.foldl_nil]; rw [dig_val e]; omega
    · rw [dec_more (by omega), decV_snoc, ih (u / 10) (by omega), dig_val (Nat.mod_lt _ (by omega))]; omega
/-- Digits without a zero ahead. -/
def digsOK (l : List UInt8) : Prop := l ≠ [] ∧ (∀ c ∈ l, 48 ≤ c.toNat ∧ c.toNat ≤ 57) ∧ (1 < l.length → l[0]? ≠ some 48)
theorem digsOK_dec (u : Nat) : digsOK (Go.Lib.decDigits u) := by
  refine ⟨dec_ne u, dec_digits u, fun h q => ?_⟩
  obtain ⟨d, r, h1, h2, h3⟩ := dec_head u
  rw [h1] at h q
  have h4 : UInt8.ofNat (48 + d) = 48 := by simpa using q
  have h5 := congrArg UInt8.toNat h4
  rw [dig_val h2] at h5
  have : r ≠ [] := by intro e; rw [e] at h; simp at h
  have := h3 this
  have h6 : (48 : UInt8).toNat = 48 := rfl
  omega
theorem digs_dec (l : List UInt8) (h : digsOK l) : l = Go.Lib.decDigits (decV l) := by
  induction hn : l.length using Nat.strongRecOn generalizing l with
  | _ n ih =>
    obtain ⟨h1, h2, h3⟩ := h
    rcases List.eq_nil_or_concat l with e | ⟨l', c, e⟩
    · exact absurd e h1
    · rw [List.concat_eq_append] at e
      subst e
      have hc := h2 c (by simp)
      have ec : UInt8.ofNat (48 + (c.toNat - 48)) = c := by
        apply UInt8.toNat.inj
        rw [dig_val (by omega)]; omega
      rw [decV_snoc]
      by_cases e : l' = []
      · subst e
        rw [show decV [] = 0 from rfl, Nat.mul_zero, Nat.zero_add, dec_one (by omega), ec]; rfl
      · have hl : 1 < (l' ++ [c]).length := by
          have := List.length_pos_iff.2 e
          simp; omega
        have h4 := h3 hl
        have hd : digsOK l' := ⟨e, fun x hx => h2 x (by simp [hx]), fun hl' q => h4 (by rw [List.getElem?_append_left (by omega)]; exact q)⟩
        have h5 := ih l'.length (by rw [← hn]; simp) l' hd rfl
        have hv : 1 ≤ decV l' := by
          rcases Nat.eq_zero_or_pos (decV l') with e0 | e0
          · rw [e0, dec_one (by omega)] at h5
            exact absurd (by rw [h5]; rfl) h4
          · exact e0
        rw [dec_more (by omega), show (10 * decV l' + (c.toNat - 48)) / 10 = decV l' by omega, show (10 * decV l' + (c.toNat - 48)) % 10 = c.toNat - 48 by omega, ec, ← h5]
theorem dec_len9 (u : Nat) : (Go.Lib.decDigits u).length ≤ 9 ↔ u ≤ 999999999 := by
  have h := Go.Lib.lt_pow_nDigits u
  rw [Go.Lib.decDigits_length]
  constructor
  · intro q
    have : 10 ^ Go.Lib.nDigits u ≤ 10 ^ 9 := Nat.pow_le_pow_right (by decide) q
    omega
  · intro q
    rcases Nat.lt_or_ge u 10 with e | e
    · rw [Go.Lib.nDigits_small e]; omega
    · have h1 : ∀ k, k ≤ 8 → 10 ^ k ≤ u → u < 10 ^ (k + 1) → Go.Lib.nDigits u ≤ 9 := fun k hk a b => by rw [Go.Lib.nDigits_unique k u a b]; omega
      rcases Nat.lt_or_ge u 100 with e1 | e1
      · exact h1 1 (by omega) (by omega) (by omega)
      rcases Nat.lt_or_ge u 1000 with e2 | e2
      · exact h1 2 (by omega) (by omega) (by omega)
      rcases Nat.lt_or_ge u 10000 with e3 | e3
      · exact h1 3 (by omega) (by omega) (by omega)
      rcases Nat.lt_or_ge u 100000 with e4 | e4
      · exact h1 4 (by omega) (by omega) (by omega)
      rcases Nat.lt_or_ge u 1000000 with e5 | e5
      · exact h1 5 (by omega) (by omega) (by omega)
      rcases Nat.lt_or_ge u 10000000 with e6 | e6
      · exact h1 6 (by omega) (by omega) (by omega)
      rcases Nat.lt_or_ge u 100000000 with e7 | e7
      · exact h1 7 (by omega) (by omega) (by omega)
      · exact h1 8 (by omega) (by omega) (by omega)
/-- What spec.ReadDecimal takes. -/
theorem digs_iff (l : List UInt8) : (digsOK l ∧ l.length ≤ 9) ↔ ∃ n : Int, 0 ≤ n ∧ n ≤ 999999999 ∧ l = Go.Lib.itoa n := by
  constructor
  · rintro ⟨h1, h2⟩
    have h3 := digs_dec l h1
    refine ⟨decV l, by omega, ?_, by rw [itoa_dec _ (by omega)]; exact h3⟩
    rw [h3, dec_len9] at h2
    omega
  · rintro ⟨n, h0, h1, rfl⟩
    rw [itoa_dec n h0]
    exact ⟨digsOK_dec _, (dec_len9 _).2 (by omega)⟩
theorem digs_rd (l : List UInt8) : (digsOK l ∧ l.length ≤ 9) ↔ rdOK 999999999 l := by rw [digs_iff, rdOK_iff (by decide)]
theorem decV_rd {l : List UInt8} (h : rdOK 999999999 l) : (decV l : Int) = rdN l := by
  have h2 := h.2.2
  have h0 := h.1
  generalize rdN l = n at *
  rw [h2, itoa_dec n h0, decV_dec]; omega
open Go.Proofs
set_option linter.unusedVariables false
set_option linter.unusedSimpArgs false
def wordsL : List Int → List UInt8
  | [] => []
  | n :: l => 32 :: Go.Lib.itoa n ++ wordsL l
theorem wordsL_app (l m : List Int) : wordsL (l ++ m) = wordsL l ++ wordsL m := by
  induction l with
  | nil => rfl
  | cons a l ih => simp [wordsL, ih]
/-- Numbers that are not negative and not over a bound. -/
def InRg (hi : Int) (l : List Int) : Prop := ∀ n ∈ l, 0 ≤ n ∧ n ≤ hi
/-- The numbers that texts spell. -/
def toNums (hi : Int) (ps : List (List UInt8)) : Option (List Int) := if (∀ p ∈ ps, rdOK hi p) then some (ps.map rdN) else none
theorem toNums_some {hi : Int} (h : hi ≤ 9223372036854775807) {ps : List (List UInt8)} {l : List Int} : toNums hi ps = some l ↔ ps = l.map Go.Lib.itoa ∧ InRg hi l := by
  rw [toNums]
  constructor
  · intro q
    split at q
    · rename_i hp
      have := Option.some.inj q
      subst this
      refine ⟨?_, fun n hn => ?_⟩
      · rw [List.map_map]
        refine List.ext_getElem (by simp) fun i h1 h2 => ?_
        rw [List.getElem_map]
        exact (hp _ (List.getElem_mem h1)).2.2
      · obtain ⟨p, hp', rfl⟩ := List.mem_map.1 hn
        exact ⟨(hp p hp').1, (hp p hp').2.1⟩
    · cases q
  · rintro ⟨rfl, hb⟩
    rw [if_pos ?_, List.map_map]
    · congr 1
      refine List.ext_getElem (by simp) fun i h1 h2 => ?_
      rw [List.getElem_map]
      have := hb _ (List.getElem_mem h2)
      exact rdN_itoa this.1 (by omega)
    · intro p hp
      obtain ⟨n, hn, rfl⟩ := List.mem_map.1 hp
      have := hb n hn
      exact (rdOK_itoa this.1 (by omega)).2 this.2
/-- What impl's readList makes of a text with blanks between numbers. -/
def readL (most : Nat) (hi : Int) (text : List UInt8) : Option (List Int) := if text = [] then some [] else if (spB 32 text).length ≤ most then toNums hi (spB 32 text) else none
theorem join_words (w : List UInt8) : ∀ l : List Int, Go.Lib.join (w :: l.map Go.Lib.itoa) [32] = w ++ wordsL l
  | [] => by rw [List.map_nil, Go.Lib.join_one]; simp [wordsL]
  | n :: l => by rw [List.map_cons, join_cons2, join_words (Go.Lib.itoa n) l]; simp [wordsL]
theorem spB_words {w : List UInt8} (hw : (32 : UInt8) ∉ w) {l : List Int} (hl : ∀ n ∈ l, 0 ≤ n) : spB 32 (w ++ wordsL l) = w :: l.map Go.Lib.itoa := by
  rw [← join_words, spB_of_join 32 _ (by simp)]
  intro p hp
  rcases List.mem_cons.1 hp with rfl | hp
  · exact hw
  · obtain ⟨n, hn, rfl⟩ := List.mem_map.1 hp
    exact itoa_no (hl n hn) (by decide)
theorem itoaL_inj {a b : List Int} (ha : InRg 9223372036854775807 a) (hb : InRg 9223372036854775807 b) (h : a.map Go.Lib.itoa = b.map Go.Lib.itoa) : a = b := by
  have h1 := (toNums_some (hi := 9223372036854775807) (by decide)).2 ⟨rfl, ha⟩
  have h2 := (toNums_some (hi := 9223372036854775807) (by decide)).2 ⟨rfl, hb⟩
  rw [h, h2] at h1
  exact (Option.some.inj h1).symm
theorem words_inj {w w' : List UInt8} {a b : List Int} (hw : (32 : UInt8) ∉ w) (hw' : (32 : UInt8) ∉ w') (ha : InRg 9223372036854775807 a) (hb : InRg 9223372036854775807 b) (h : w ++ wordsL a = w' ++ wordsL b) : w = w' ∧ a = b := by
  have h1 := spB_words hw fun n hn => (ha n hn).1
  have h2 := spB_words hw' fun n hn => (hb n hn).1
  rw [h, h2] at h1
  injection h1 with h1 h3
  exact ⟨h1.symm, (itoaL_inj hb ha h3).symm⟩
/-- A text cut at its first blank, and the numbers behind it. -/
theorem readL_words {most : Nat} {hi : Int} (h : hi ≤ 9223372036854775807) {w r : List UInt8} {l : List Int} (hl : l ≠ []) : (readL most hi r = some l) ↔ (w ++ 32 :: r = w ++ wordsL l ∧ l.length ≤ most ∧ InRg hi l) := by
  have key : w ++ 32 :: r = w ++ wordsL l ↔ r = Go.Lib.join (l.map Go.Lib.itoa) [32] := by
    cases l with
    | nil => exact absurd rfl hl
    | cons n l =>
      rw [List.map_cons, join_words]
      simp [wordsL]
  rw [key, readL]
  constructor
  · intro q
    split at q
    · exact absurd (Option.some.inj q).symm hl
    · split at q
      · rename_i h1 h2
        obtain ⟨h3, h4⟩ := (toNums_some h).1 q
        refine ⟨by rw [← h3, spB_join], ?_, h4⟩
        rw [h3, List.length_map] at h2; exact h2
      · cases q
  · rintro ⟨rfl, h2, h3⟩
    have h4 : spB 32 (Go.Lib.join (l.map Go.Lib.itoa) [32]) = l.map Go.Lib.itoa := spB_of_join 32 _ (by simpa using hl) fun p hp => by
      obtain ⟨n, hn, rfl⟩ := List.mem_map.1 hp
      exact itoa_no (h3 n hn).1 (by decide)
    rw [h4, List.length_map, if_pos h2, (toNums_some h).2 ⟨rfl, h3⟩, if_neg]
    intro e
    rw [e] at h4
    rw [spB_nil] at h4
    cases l with
    | nil => exact absurd rfl hl
    | cons n l =>
      rw [List.map_cons] at h4
      injection h4 with h4 h5
      exact itoa_ne (h3 n (by simp)).1 h4.symm
theorem readL_nil {most : Nat} {hi : Int} {r : List UInt8} : readL most hi r = some [] ↔ r = [] := by
  rw [readL]
  constructor
  · intro q
    split at q
    · assumption
    · split at q
      · rw [toNums] at q
        split at q
        · have := Option.some.inj q
          exact absurd (List.map_eq_nil_iff.1 this) (spB_ne 32 r)
        · cases q
      · cases q
  · intro q; rw [if_pos q]

open Go.Proofs
set_option linter.unusedVariables false
set_option linter.unusedSimpArgs false
def keep43 : List Nat := [0, 1, 2, 6]
def ib43 : List Nat := []
def mk43 : Marks := fun _ => ([], .nil, [])
theorem l00In (n a b : Int) : Fn0 Tryd.prog 43 [I n, I a, I b] (.bool (decide (a ≤ n ∧ n ≤ b))) := by
  refine fn0F 15 keep43 ib43 mk43 mix Tryd.func43 rfl (by kernel_rfl) (by simp) fun h => ?_
  simp (maxSteps := 1000000) -dsimp -implicitDefEqProofs only [go_sem, ↓reduceIte, keep43, ib43, mk43, Tryd.f43]
  repeat' (with_reducible first | intro _ | refine And.intro ?_ ?_)
  all_goals try (first | (simp [*]; done) | omega | grind)
def keep55 : List Nat := [0, 1, 2, 6]
def ib55 : List Nat := []
def mk55 : Marks := fun _ => ([], .nil, [])
theorem within (n a b : Int) : Fn0 Tryd.prog 55 [I n, I a, I b] (.bool (decide (a ≤ n ∧ n ≤ b))) := by
  refine fn0F 15 keep55 ib55 mk55 mix Tryd.func55 rfl (by kernel_rfl) (by simp) fun h => ?_
  simp (maxSteps := 1000000) -dsimp -implicitDefEqProofs only [go_sem, ↓reduceIte, keep55, ib55, mk55, Tryd.f55]
  repeat' (with_reducible first | intro _ | refine And.intro ?_ ?_)
  all_goals try (first | (simp [*]; done) | omega | grind)
def keep61 : List Nat := [0, 2]
def ib61 : List Nat := []
def mk61 : Marks := fun _ => ([], .nil, [])
theorem l01Number (n : Int) : Fn0 Tryd.prog 61 [I n] (.bool (decide (Num n))) := by
  refine fn0F 5 keep61 ib61 mk61 mix Tryd.func61 rfl (by kernel_rfl) (by simp) fun h => ?_
  simp (maxSteps := 1000000) -dsimp -implicitDefEqProofs only [go_sem, ↓reduceIte, keep61, ib61, mk61, Tryd.f61]
  first | refine HFnF.mk (l00In n 0 1000002) ?_ | refine CallSF.mk (l00In n 0 1000002) ?_ | refine HFnF.mkAt (l00In n 0 1000002) ?_ | refine CallSF.mk (FnAt.fn0 (l00In n 0 1000002)) ?_
  simp (maxSteps := 1000000) -dsimp -implicitDefEqProofs only [go_sem, ↓reduceIte, keep61, ib61, mk61, Tryd.f61]
  all_goals rfl
def keep72 : List Nat := [0, 2]
def ib72 : List Nat := []
def mk72 : Marks := fun _ => ([], .nil, [])
theorem isNumber (n : Int) : Fn0 Tryd.prog 72 [I n] (.bool (decide (Num n))) := by
  refine fn0F 5 keep72 ib72 mk72 mix Tryd.func72 rfl (by kernel_rfl) (by simp) fun h => ?_
  simp (maxSteps := 1000000) -dsimp -implicitDefEqProofs only [go_sem, ↓reduceIte, keep72, ib72, mk72, Tryd.f72]
  first | refine HFnF.mk (within n 0 1000002) ?_ | refine CallSF.mk (within n 0 1000002) ?_ | refine HFnF.mkAt (within n 0 1000002) ?_ | refine CallSF.mk (FnAt.fn0 (within n 0 1000002)) ?_
  simp (maxSteps := 1000000) -dsimp -implicitDefEqProofs only [go_sem, ↓reduceIte, keep72, ib72, mk72, Tryd.f72]
  all_goals rfl
def keep44 : List Nat := [0, 2, 3, 7, 15]
def ib44 : List Nat := []
def mk44 : Marks := fun _ => ([], .nil, [])
set_option maxRecDepth 100000 in
theorem l01Numbers (l : List Int) : Fn0 Tryd.prog 44 [sls 1 (fun n => [I n]) l] (.bool (decide (Nums l))) := by
  refine fn0F 16 keep44 ib44 mk44 mix Tryd.func44 rfl (by kernel_rfl) (by simp) fun h => ?_
  simp (maxSteps := 1000000) -dsimp -implicitDefEqProofs only [go_sem, ↓reduceIte, keep44, ib44, mk44, Tryd.f44]
  refine loopF (keep := keep44) (ib := ib44) (mk := mk44) mix (by kernel_rfl) (fun k : Nat => [(0, sls 1 (fun n => [I n]) l), (3, I k)]) (fun _ => h) (fun k => k ≤ (l).length ∧ ∀ x ∈ (l).take k, Num x) (fun k => (l).length - k) 0 (by simp [SatL, tget, Heap.le_refl]) ?_
  intro k ⟨hk, hp⟩
  rcases Nat.lt_or_ge k (l).length with hlt | hge
  · have ea : (l)[k]? = some (l)[k] := List.getElem?_eq_getElem hlt
    simp (maxSteps := 1000000) -dsimp -implicitDefEqProofs only [go_sem, ↓reduceIte, keep44, ib44, mk44, Tryd.f44, ea]
    repeat' (with_reducible first | intro _ | refine And.intro ?_ ?_)
    all_goals try omega
    first | refine HFnF.mk (l01Number l[k]) ?_ | refine CallSF.mk (l01Number l[k]) ?_ | refine HFnF.mkAt (l01Number l[k]) ?_ | refine CallSF.mk (FnAt.fn0 (l01Number l[k])) ?_
    simp (maxSteps := 1000000) -dsimp -implicitDefEqProofs only [go_sem, ↓reduceIte, keep44, ib44, mk44, Tryd.f44]
    repeat' (with_reducible first | intro _ | refine And.intro ?_ ?_)
    · rename_i he
      exact (decide_eq_false fun e => he (e _ (List.getElem_mem hlt))).symm
    · rename_i he
      refine ⟨k + 1, ?_⟩
      repeat' (with_reducible refine And.intro ?_ ?_)
      all_goals try (rw [IntWalk.i64_in _ (by omega)]; first | rfl | omega)
      all_goals try omega
      all_goals try (repeat' (with_reducible first | exact Heap.le_refl _ | refine (le_upd (by first | assumption | exact And.right (by assumption) | exact upd_none.2 (by assumption))).2 ?_))
      exact all_step hlt hp he
  · have hk' : k = (l).length := by omega
    subst hk'
    rw [List.take_length] at hp
    simp (maxSteps := 1000000) -dsimp -implicitDefEqProofs only [go_sem, ↓reduceIte, keep44, ib44, mk44, Tryd.f44, Nat.lt_irrefl]
    intro _
    exact (decide_eq_true hp).symm
def keep73 : List Nat := [0, 1, 4, 5, 7, 8, 9, 16]
def ib73 : List Nat := []
def mk73 : Marks := fun _ => ([], .nil, [])
set_option maxRecDepth 100000 in
theorem idxF_Int64S (a : List Int) (p : Int → Bool) (g : FuncId) (cap : List HVal) {h0 : Heap} (hc : ∀ x ∈ a, FnAt Tryd.prog g ([(.int .i64 x)] ++ cap) (.bool (p x)) h0) : FnAt Tryd.prog 73 [(sls 1 (fun n => [I n]) a), .fn (.func g) [] cap] (I (idxOf p a)) h0 := by
  refine fnAtF 19 keep73 ib73 mk73 mix Tryd.func73 rfl (by kernel_rfl) (by simp) fun h hle => ?_
  simp -dsimp -implicitDefEqProofs only [go_sem, ↓reduceIte, keep73, ib73, mk73, Tryd.f73, Tryd.f73]
  intro _
  refine loopF (keep := keep73) (ib := ib73) (mk := mk73) mix (by kernel_rfl) (fun k : Nat => [(0, (sls 1 (fun n => [I n]) a)), (1, .fn (.func g) [] cap), (7, I a.length), (8, I k)]) (fun _ => h) (fun k => k ≤ a.length ∧ ∀ x ∈ a.take k, p x = false) (fun k => a.length - k) 0 (by simp [SatL, tget, Heap.le_refl]) ?_
  intro k ⟨hk, hp⟩
  rcases Nat.lt_or_ge k a.length with hlt | hge
  · have ea : a[k]? = some a[k] := List.getElem?_eq_getElem hlt
    simp -dsimp -implicitDefEqProofs only [go_sem, ↓reduceIte, keep73, ib73, mk73, Tryd.f73, Tryd.f73, ea]
    repeat' (with_reducible first | intro _ | refine And.intro ?_ ?_)
    all_goals try omega
    have hx := hc a[k] (List.getElem_mem hlt)
    refine HFnF.mkAt (hx.mono hle) ?_
    cases hpk : p a[k] with
    | true =>
      simp -dsimp -implicitDefEqProofs only [go_sem, ↓reduceIte, keep73, ib73, mk73, Tryd.f73, Tryd.f73]
      repeat' (with_reducible first | intro _ | refine And.intro ?_ ?_)
      all_goals first | exact (idxOf_some hlt hp hpk).symm | rfl | (rw [idxOf_some hlt hp hpk])
    | false =>
      simp -dsimp -implicitDefEqProofs only [go_sem, ↓reduceIte, keep73, ib73, mk73, Tryd.f73, Tryd.f73]
      refine ⟨k + 1, ?_⟩
      repeat' (with_reducible refine And.intro ?_ ?_)
      all_goals try (rw [IntWalk.i64_in _ (by omega)]; first | rfl | omega)
      all_goals try omega
      exact all_step (P := fun x => p x = false) hlt hp hpk
  · have hk' : k = a.length := by omega
    subst hk'
    rw [List.take_length] at hp
    simp -dsimp -implicitDefEqProofs only [go_sem, ↓reduceIte, keep73, ib73, mk73, Tryd.f73, Tryd.f73, Nat.lt_irrefl]
    all_goals first | exact (idxOf_none hp).symm | rw [idxOf_none hp]
def keep57 : List Nat := [0, 1, 4]
def ib57 : List Nat := []
def mk57 : Marks := fun _ => ([], .nil, [])
set_option maxRecDepth 100000 in
theorem hasF_Int64S (a : List Int) (p : Int → Bool) (g : FuncId) (cap : List HVal) {h0 : Heap} (hc : ∀ x ∈ a, FnAt Tryd.prog g ([(.int .i64 x)] ++ cap) (.bool (p x)) h0) : FnAt Tryd.prog 57 [(sls 1 (fun n => [I n]) a), .fn (.func g) [] cap] (.bool (a.any p)) h0 := by
  refine fnAtF 9 keep57 ib57 mk57 mix Tryd.func57 rfl (by kernel_rfl) (by simp) fun h hle => ?_
  simp -dsimp -implicitDefEqProofs only [go_sem, ↓reduceIte, keep57, ib57, mk57, Tryd.f57, Tryd.f57]
  refine HFnF.mkAt ((idxF_Int64S a p g cap hc).mono hle) ?_
  simp -dsimp -implicitDefEqProofs only [go_sem, ↓reduceIte, keep57, ib57, mk57, Tryd.f57, Tryd.f57]
  all_goals first | done | exact idxOf_nonneg | rw [idxOf_nonneg]

def keep81 : List Nat := [0, 2]
def ib81 : List Nat := []
def mk81 : Marks := fun _ => ([], .nil, [])
theorem areNumbers1 (n : Int) : Fn0 Tryd.prog 81 [I n] (.bool (!decide (Num n))) := by
  refine fn0F 6 keep81 ib81 mk81 mix Tryd.func81 rfl (by kernel_rfl) (by simp) fun h => ?_
  simp (maxSteps := 1000000) -dsimp -implicitDefEqProofs only [go_sem, ↓reduceIte, keep81, ib81, mk81, Tryd.f81]
  first | refine HFnF.mk (isNumber n) ?_ | refine CallSF.mk (isNumber n) ?_ | refine HFnF.mkAt (isNumber n) ?_ | refine CallSF.mk (FnAt.fn0 (isNumber n)) ?_
  simp (maxSteps := 1000000) -dsimp -implicitDefEqProofs only [go_sem, ↓reduceIte, keep81, ib81, mk81, Tryd.f81]
def keep66 : List Nat := [0, 1, 4]
def ib66 : List Nat := []
def mk66 : Marks := fun _ => ([], .nil, [])
theorem areNumbers (l : List Int) (c : Int) : Fn0 Tryd.prog 66 [sls 1 (fun n => [I n]) l, I c] (.bool (decide ((l.length : Int) = c ∧ Nums l))) := by
  refine fn0F 14 keep66 ib66 mk66 mix Tryd.func66 rfl (by kernel_rfl) (by simp) fun h => ?_
  simp (maxSteps := 1000000) -dsimp -implicitDefEqProofs only [go_sem, ↓reduceIte, keep66, ib66, mk66, Tryd.f66]
  repeat' (with_reducible first | intro _ | refine And.intro ?_ ?_)
  all_goals try (first | (simp [*]; done) | omega | grind)
  first | refine HFnF.mk (hasF_Int64S l (fun n => !decide (Num n)) 81 [] fun x _ => (areNumbers1 x).toAt) ?_ | refine CallSF.mk (hasF_Int64S l (fun n => !decide (Num n)) 81 [] fun x _ => (areNumbers1 x).toAt) ?_ | refine HFnF.mkAt (hasF_Int64S l (fun n => !decide (Num n)) 81 [] fun x _ => (areNumbers1 x).toAt) ?_ | refine CallSF.mk (FnAt.fn0 (hasF_Int64S l (fun n => !decide (Num n)) 81 [] fun x _ => (areNumbers1 x).toAt)) ?_
  simp (maxSteps := 1000000) -dsimp -implicitDefEqProofs only [go_sem, ↓reduceIte, keep66, ib66, mk66, Tryd.f66]
  rename_i e
  rw [any_not, decide_eq_decide]
  exact ⟨fun q => ⟨e, q⟩, fun q => q.2⟩
open Go.Proofs
set_option linter.unusedVariables false
set_option linter.unusedSimpArgs false
theorem itoa_lt {n : Int} (h0 : 0 ≤ n) (h : n < 10) : Go.Lib.itoa n = [UInt8.ofNat (48 + n).toNat] := by
  unfold Go.Lib.itoa
  rw [if_neg (by omega), Go.Lib.decDigits, dif_pos (by omega), show (48 + n).toNat = 48 + n.toNat from by omega]
theorem itoa_ge {n : Int} (h : 10 ≤ n) : Go.Lib.itoa n = Go.Lib.itoa (n / 10) ++ [UInt8.ofNat (48 + n % 10).toNat] := by
  unfold Go.Lib.itoa
  rw [if_neg (by omega), if_neg (by omega), Go.Lib.decDigits, dif_neg (by omega), show (48 + n % 10).toNat = 48 + n.toNat % 10 from by omega, show (n / 10).toNat = n.toNat / 10 from by omega]
theorem decDigits_len20 {u k : Nat} (h : u < 10 ^ k) (hk : 1 ≤ k) : (Go.Lib.decDigits u).length ≤ k := by
  induction k generalizing u with
  | zero => omega
  | succ k ih =>
    rw [Go.Lib.decDigits]
    split
    · simp
    · rename_i hu
      rcases Nat.eq_zero_or_pos k with e | e
      · subst e; simp at h; omega
      · have := ih (u := u / 10) (by rw [Nat.pow_succ] at h; omega) e
        simp; omega
theorem itoa_len64 {n : Int} (h0 : -9223372036854775808 ≤ n) (h1 : n ≤ 9223372036854775807) : (Go.Lib.itoa n).length ≤ 21 := by
  unfold Go.Lib.itoa
  split
  · have := decDigits_len20 (u := n.natAbs) (k := 20) (by omega) (by omega)
    simp; omega
  · have := decDigits_len20 (u := n.toNat) (k := 20) (by omega) (by omega)
    omega
theorem laid_tab {E : Env} {h : Heap} {w : World} (x : LaidIn E h w) : Go.Lib.TabIs Tryd.prog w "internal/strconv.uint64pow10" .u64 Go.Lib.pow10Tab :=
  let ⟨_, h1, h2⟩ := x.var (P := Tryd.prog) (name := "internal/strconv.uint64pow10") (by kernel_rfl) (List.mem_cons_self ..)
  h1.trans (congrArg some (h2.trans (by kernel_rfl)))
theorem formatInt (n : Int) (h0 : -9223372036854775808 ≤ n) (h1 : n ≤ 9223372036854775807) : Fn0 Tryd.prog 80 [I n, I 10] (.str (Go.Lib.itoa n)) :=
  fn0_grown (by kernel_rfl) fun E h w vs R rl => by
    match vs, rl with
    | [v0, v1], rl =>
      obtain ⟨r0, r1, _⟩ := rl
      rw [rep_int r0, rep_int r1]
      refine (Go.Proofs.Tryd.strconv_FormatInt_10 n h0 h1 w (laid_tab R.laid)).mono fun e w' ⟨he, hw⟩ => ⟨_, he, fun E' h' w' => .str _ ?_, hw⟩
      have := itoa_len64 h0 h1
      simp only [maxLen]
      omega
def keep65 : List Nat := [0, 2]
def ib65 : List Nat := []
def mk65 : Marks := fun _ => ([], .nil, [])
theorem decimal (n : Int) (h : Num n) : Fn0 Tryd.prog 65 [I n] (.str (Go.Lib.itoa n)) := by
  have h0 := h.1
  have h1 := h.2
  refine fn0F 5 keep65 ib65 mk65 mix Tryd.func65 rfl (by kernel_rfl) (by simp) fun h => ?_
  simp (maxSteps := 1000000) -dsimp -implicitDefEqProofs only [go_sem, ↓reduceIte, keep65, ib65, mk65, Tryd.f65]
  first | refine HFnF.mk (formatInt n (by omega) (by omega)) ?_ | refine CallSF.mk (formatInt n (by omega) (by omega)) ?_ | refine HFnF.mkAt (formatInt n (by omega) (by omega)) ?_ | refine CallSF.mk (FnAt.fn0 (formatInt n (by omega) (by omega))) ?_
  simp (maxSteps := 1000000) -dsimp -implicitDefEqProofs only [go_sem, ↓reduceIte, keep65, ib65, mk65, Tryd.f65]
def keep62 : List Nat := [0, 2, 4]
def ib62 : List Nat := [8, 17]
def mk62 : Marks := fun id => match id with | 3 => ([], (.op 0 (.op 1 (.op 2 (.op 3 (.op 4 (.op 5 (.op 6 (.op 7 (.op 8 (.op 9 (.op 10 .nil))))))))))), []) | _ => ([], .nil, [])
set_option maxRecDepth 100000 in
theorem Decimal (m : Nat) : ∀ n : Int, 0 ≤ n → n < m → n ≤ 1000002 → Fn0 Tryd.prog 62 [I n] (.str (Go.Lib.itoa n)) := by
  induction m with
  | zero => intro n a b; omega
  | succ m ih =>
  intro n h0 hm hn
  refine fn0F 20 keep62 ib62 mk62 mix Tryd.func62 rfl (by kernel_rfl) (by simp) fun h => ?_
  simp (maxSteps := 1000000) -dsimp -implicitDefEqProofs only [go_sem, ↓reduceIte, keep62, ib62, mk62, Tryd.f62]
  repeat' (with_reducible first | intro _ | refine And.intro ?_ ?_)
  all_goals try omega
  · rw [itoa_lt h0 (by assumption), IntWalk.i64_in (48 + n) (by omega), IntWalk.u8_in (48 + n) (by omega)]
  · rw [Int.tdiv_eq_ediv_of_nonneg (by omega), IntWalk.i64_in (n / 10) (by omega)]
    first | refine HFnF.mk (ih (n / 10) (by omega) (by omega) (by omega)) ?_ | refine CallSF.mk (ih (n / 10) (by omega) (by omega) (by omega)) ?_ | refine HFnF.mkAt (ih (n / 10) (by omega) (by omega) (by omega)) ?_ | refine CallSF.mk (FnAt.fn0 (ih (n / 10) (by omega) (by omega) (by omega))) ?_
    simp (maxSteps := 1000000) -dsimp -implicitDefEqProofs only [go_sem, ↓reduceIte, keep62, ib62, mk62, Tryd.f62]
    repeat' (with_reducible first | intro _ | refine And.intro ?_ ?_)
    all_goals try (first | omega | decide)
    · have := itoa_len64 (n := n / 10) (by omega) (by omega)
      omega
    · rw [itoa_ge (n := n) (by omega), Int.tmod_eq_emod_of_nonneg (by omega), IntWalk.i64_in (48 + n % 10) (by omega), IntWalk.u8_in (48 + n % 10) (by omega)]
theorem rep_sl {E : Env} {h : Heap} {w : World} {sz : Nat} {es : List (List HVal)} {t : Bool} {v : Value} (hr : Rep E h w (.sl sz es t) v) :
    (es = [] ∧ ∃ a cap, v = .slice a 0 cap) ∨ ∃ b o cap, v = .slice (some ⟨b, o, none⟩) es.length cap ∧ b < w.heap.size ∧ es.length ≤ cap ∧ ∀ i j x, at2 es i j = some x → ∃ c, w.cell? ⟨b, o + i * sz + j, none⟩ = some c ∧ Rep E h w x c := by
  cases hr with
  | sl0 _ _ a cap => exact .inl ⟨rfl, a, cap, rfl⟩
  | sl _ _ _ b o cap cv hi hcap hmax ht hs hc h1 hr => exact .inr ⟨b, o, cap, rfl, hi.1, hcap, fun i j x q => ⟨_, hc i j x q, hr i j x q⟩⟩
theorem joinL (xs : List (List UInt8)) (sep : List UInt8) (hN : xs.length ≤ 140737488355328) (hlen : (Go.Lib.join xs sep).length ≤ 140737488355328) : Fn0 Tryd.prog 82 [sls 1 (fun s => [.str s]) xs, .str sep] (.str (Go.Lib.join xs sep)) :=
  fn0_below (by kernel_rfl) fun E h w vs R rl => by
    match vs, rl with
    | [v0, v1], rl =>
      obtain ⟨r0, r1, _⟩ := rl
      obtain ⟨rfl, hl⟩ := rep_str r1
      have hm : (xs.map fun s : List UInt8 => (⟨s.toArray⟩ : ByteArray)).map (fun b => b.data.toList) = xs := by simp [List.map_map, Function.comp_def]
      have hr : ∀ E' h' w', Rep E' h' w' (.str (Go.Lib.join xs sep)) (.string ⟨(Go.Lib.join xs sep).toArray⟩) := fun _ _ _ => .str _ (by simp only [maxLen]; omega)
      rcases rep_sl r0 with ⟨e, a, cap, rfl⟩ | ⟨b, o, cap, rfl, hb, hcap, hcs⟩
      · have e : xs = [] := by simpa using e
        subst e
        exact (Go.Proofs.Tryd.strings_Join_none a cap ⟨sep.toArray⟩ w).mono fun e w' ⟨he, hw⟩ => ⟨_, he, hr, hw ▸ Go.RowKit.Below.refl _ _⟩
      · rw [List.length_map] at hcap ⊢
        have := Go.Proofs.Tryd.strings_Join b o cap (xs.map fun s : List UInt8 => (⟨s.toArray⟩ : ByteArray)) ⟨sep.toArray⟩ w (fun j x hx => by
          simp only [List.getElem?_map, Option.map_eq_some_iff] at hx
          obtain ⟨s, hs, rfl⟩ := hx
          obtain ⟨c, h1, h2⟩ := hcs j 0 (.str s) (by simp [at2, hs])
          rw [(rep_str h2).1] at h1
          simpa using h1) hb (by simpa using hN) (by simpa using hcap) (by rw [hm]; exact hlen)
        rw [hm, List.length_map] at this
        exact this.mono fun e w' ⟨he, hw⟩ => ⟨_, he, hr, hw⟩
theorem itoa_num {n : Int} (h : Num n) : (Go.Lib.itoa n).length ≤ 21 := itoa_len64 (by have := h.1; omega) (by have := h.2; omega)
theorem wordsL_join : ∀ l : List Int, l ≠ [] → 32 :: Go.Lib.join (l.map Go.Lib.itoa) [32] = wordsL l
  | [], h => (h rfl).elim
  | [n], _ => by simp [wordsL, Go.Lib.join_one]
  | n :: m :: l, _ => by
    have := wordsL_join (m :: l) (by simp)
    rw [wordsL, ← this]
    simp [Go.Lib.join, List.intercalate]
theorem wordsL_len : ∀ l : List Int, (∀ n ∈ l, Num n) → (wordsL l).length ≤ 22 * l.length
  | [], _ => by simp [wordsL]
  | n :: l, h => by
    have := wordsL_len l fun n q => h n (List.mem_cons_of_mem _ q)
    have := itoa_num (h n (List.mem_cons_self ..))
    simp [wordsL]; omega
theorem joinI_len (l : List Int) (h : ∀ n ∈ l, Num n) : (Go.Lib.join (l.map Go.Lib.itoa) [32]).length ≤ 22 * l.length := by
  by_cases e : l = []
  · subst e; simp [Go.Lib.join_nil]
  · have := wordsL_len l h
    rw [← wordsL_join l e] at this
    simp at this ⊢; omega
open Go.Proofs
set_option linter.unusedVariables false
set_option linter.unusedSimpArgs false
def keep45 : List Nat := [0, 1, 4, 5, 9]
def ib45 : List Nat := []
def mk45 : Marks := fun _ => ([], .nil, [])
set_option maxRecDepth 100000 in
theorem l08Words (word : List UInt8) (l : List Int) (hw : word.length ≤ 1000) (hl : l.length ≤ 1000000) (hn : ∀ n ∈ l, Num n) : Fn0 Tryd.prog 45 [.str word, sls 1 (fun n => [I n]) l] (.str (word ++ wordsL l)) := by
  refine fn0F 21 keep45 ib45 mk45 mix Tryd.func45 rfl (by kernel_rfl) (by simp) fun h => ?_
  simp (maxSteps := 1000000) -dsimp -implicitDefEqProofs only [go_sem, ↓reduceIte, keep45, ib45, mk45, Tryd.f45]
  refine loopF (keep := keep45) (ib := ib45) (mk := mk45) mix (by kernel_rfl) (fun k : Nat => [(0, .str (word ++ wordsL (l.take k))), (1, sls 1 (fun n => [I n]) l), (5, I k)]) (fun _ => h) (fun k => k ≤ l.length) (fun k => l.length - k) 0 (by simp [SatL, tget, Heap.le_refl, wordsL]) ?_
  intro k hk
  rcases Nat.lt_or_ge k l.length with hlt | hge
  · have ea : l[k]? = some l[k] := List.getElem?_eq_getElem hlt
    have hnk := hn _ (List.getElem_mem hlt)
    have hlen := itoa_num hnk
    have hlw := wordsL_len (l.take k) fun n q => hn n (List.mem_of_mem_take q)
    rw [List.length_take] at hlw
    simp (maxSteps := 1000000) -dsimp -implicitDefEqProofs only [go_sem, ↓reduceIte, keep45, ib45, mk45, Tryd.f45, ea]
    repeat' (with_reducible first | intro _ | refine And.intro ?_ ?_)
    all_goals try omega
    first | refine HFnF.mk (Decimal 1000003 l[k] hnk.1 (by have := hnk.2; omega) hnk.2) ?_ | refine CallSF.mk (Decimal 1000003 l[k] hnk.1 (by have := hnk.2; omega) hnk.2) ?_ | refine HFnF.mkAt (Decimal 1000003 l[k] hnk.1 (by have := hnk.2; omega) hnk.2) ?_ | refine CallSF.mk (FnAt.fn0 (Decimal 1000003 l[k] hnk.1 (by have := hnk.2; omega) hnk.2)) ?_
    simp (maxSteps := 1000000) -dsimp -implicitDefEqProofs only [go_sem, ↓reduceIte, keep45, ib45, mk45, Tryd.f45]
    repeat' (with_reducible first | intro _ | refine And.intro ?_ ?_)
    all_goals try omega
    · simp only [List.length_append, List.length_cons]; omega
    · refine ⟨k + 1, ⟨?_, by rw [IntWalk.i64_in _ (by omega)]; rfl⟩, by omega, by omega⟩
      rw [List.take_succ_eq_append_getElem hlt, wordsL_app]
      simp [wordsL]
  · have hk' : k = l.length := by omega
    subst hk'
    rw [List.take_length]
    simp (maxSteps := 1000000) -dsimp -implicitDefEqProofs only [go_sem, ↓reduceIte, keep45, ib45, mk45, Tryd.f45, Nat.lt_irrefl]
def keep67 : List Nat := [0, 1, 4, 5, 7, 9, 10, 11, 12]
def ib67 : List Nat := [8, 18]
def mk67 : Marks := fun _ => ([], .nil, [])
set_option maxRecDepth 100000 in
theorem joined (l : List Int) (hl : l.length ≤ 1000000) (hn : ∀ n ∈ l, Num n) : Fn0 Tryd.prog 67 [sls 1 (fun n => [I n]) l, .str [32]] (.str (Go.Lib.join (l.map Go.Lib.itoa) [32])) := by
  refine fn0F 24 keep67 ib67 mk67 mix Tryd.func67 rfl (by kernel_rfl) (by simp) fun h => ?_
  simp (maxSteps := 1000000) -dsimp -implicitDefEqProofs only [go_sem, ↓reduceIte, keep67, ib67, mk67, Tryd.f67]
  repeat' (with_reducible first | intro _ | refine And.intro ?_ ?_)
  all_goals try (first | omega | decide)
  refine loopF (keep := keep67) (ib := ib67) (mk := mk67) mix (by kernel_rfl) (fun x : Nat × Option Nat => [(1, .str [32]), (5, oval 1 (l.take x.1).length x.2), (9, sls 1 (fun n => [I n]) l), (10, I l.length), (11, I x.1)]) (fun x => oheap h (.row 1 (((l.take x.1).map fun n => [.str (Go.Lib.itoa n)]).map (List.map .v))) x.2) (fun x => x.1 ≤ l.length ∧ oside h (l.take x.1) x.2) (fun x => l.length - x.1) (0, none) (by simp [SatL, tget, Heap.le_refl, oval, oheap, oside]) ?_
  rintro ⟨k, o⟩ ⟨hk, ho⟩
  simp only at hk ho ⊢
  rcases Nat.lt_or_ge k l.length with hlt | hge
  · have ea : l[k]? = some l[k] := List.getElem?_eq_getElem hlt
    have hnk := hn _ (List.getElem_mem hlt)
    have hy : l.take (k + 1) = l.take k ++ [l[k]] := List.take_succ_eq_append_getElem hlt
    have hlk : (l.take k).length ≤ l.length := by rw [List.length_take]; omega
    cases o with
    | none =>
      rw [oside_none] at ho
      rw [ho] at hy ⊢
      simp (maxSteps := 1000000) -dsimp -implicitDefEqProofs only [go_sem, ↓reduceIte, keep67, ib67, mk67, Tryd.f67, oval_none, oheap_none, ea]
      repeat' (with_reducible first | intro _ | refine And.intro ?_ ?_)
      all_goals try omega
      first | refine HFnF.mk (decimal l[k] hnk) ?_ | refine CallSF.mk (decimal l[k] hnk) ?_ | refine HFnF.mkAt (decimal l[k] hnk) ?_ | refine CallSF.mk (FnAt.fn0 (decimal l[k] hnk)) ?_
      simp (maxSteps := 1000000) -dsimp -implicitDefEqProofs only [go_sem, ↓reduceIte, keep67, ib67, mk67, Tryd.f67]
      repeat' (with_reducible first | intro _ | refine And.intro ?_ ?_)
      all_goals try (first | omega | decide)
      rename_i n hn
      refine ⟨(k + 1, some n), ?_⟩
      simp only [hy]
      refine ⟨⟨rfl, ?_⟩, Heap.le_refl _, ⟨by omega, hn⟩, by omega⟩
      rw [IntWalk.i64_in _ (by omega)]; rfl
    | some n =>
      rw [oside_some] at ho
      simp (maxSteps := 1000000) -dsimp -implicitDefEqProofs only [go_sem, ↓reduceIte, keep67, ib67, mk67, Tryd.f67, oval_some, oheap_some, ea]
      repeat' (with_reducible first | intro _ | refine And.intro ?_ ?_)
      all_goals try omega
      first | refine HFnF.mk (decimal l[k] hnk) ?_ | refine CallSF.mk (decimal l[k] hnk) ?_ | refine HFnF.mkAt (decimal l[k] hnk) ?_ | refine CallSF.mk (FnAt.fn0 (decimal l[k] hnk)) ?_
      simp (maxSteps := 1000000) -dsimp -implicitDefEqProofs only [go_sem, ↓reduceIte, keep67, ib67, mk67, Tryd.f67]
      repeat' (with_reducible first | intro _ | refine And.intro ?_ ?_)
      all_goals try (first | omega | decide | exact Nat.le_refl _)
      rename_i b hb
      refine ⟨(k + 1, some b), ?_⟩
      simp only [hy, oheap_some, oval_some, oside_some]
      refine ⟨⟨by rw [List.length_append]; rfl, ?_⟩, ?_, ⟨by omega, hb.2⟩, by omega⟩
      · rw [IntWalk.i64_in _ (by omega)]; rfl
      · rw [← grow_row]; exact le_app ho
  · have hk' : k = l.length := by omega
    subst hk'
    rw [List.take_length] at ho ⊢
    simp (maxSteps := 1000000) -dsimp -implicitDefEqProofs only [go_sem, ↓reduceIte, keep67, ib67, mk67, Tryd.f67, Nat.lt_irrefl]
    have hj := joinL (l.map Go.Lib.itoa) [32] (by simp; omega) (by have := joinI_len l hn; omega)
    rw [show sls 1 (fun s : List UInt8 => [HVal.str s]) (l.map Go.Lib.itoa) = sls 1 (fun n => [HVal.str (Go.Lib.itoa n)]) l from by simp [sls, Function.comp_def]] at hj
    obtain ⟨y, h1, h2, h3⟩ := grown (c := fun n => HVal.str (Go.Lib.itoa n)) (sz := 1) ho
    rw [← h2]
    refine HFnF.lend0 hj (ViewL.cons (View.ovD y (OS.dat (c := fun n => [HVal.str (Go.Lib.itoa n)]) (fun _ _ q => oP_dat q) h1) h3.owns) (ViewL.cons (View.same _ _) ViewL.nil)) rfl ?_
    simp (maxSteps := 1000000) -dsimp -implicitDefEqProofs only [go_sem, ↓reduceIte, keep67, ib67, mk67, Tryd.f67]
    exact h3.le
def keep49 : List Nat := [0, 1, 4, 7]
def ib49 : List Nat := []
def mk49 : Marks := fun _ => ([], .nil, [])
set_option maxRecDepth 100000 in
theorem wordsOf (word : List UInt8) (l : List Int) (hw : word.length ≤ 1000) (hl : l.length ≤ 1000000) (hn : ∀ n ∈ l, Num n) : Fn0 Tryd.prog 49 [.str word, sls 1 (fun n => [I n]) l] (.str (word ++ wordsL l)) := by
  refine fn0F 14 keep49 ib49 mk49 mix Tryd.func49 rfl (by kernel_rfl) (by simp) fun h => ?_
  simp (maxSteps := 1000000) -dsimp -implicitDefEqProofs only [go_sem, ↓reduceIte, keep49, ib49, mk49, Tryd.f49]
  have hj := joinI_len l hn
  repeat' (with_reducible first | intro _ | refine And.intro ?_ ?_)
  all_goals try (first | omega | decide)
  · rename_i e
    have e : l = [] := List.length_eq_zero_iff.1 (by omega)
    subst e
    simp [wordsL]
  · rename_i e
    first | refine HFnF.mk (joined l hl hn) ?_ | refine CallSF.mk (joined l hl hn) ?_ | refine HFnF.mkAt (joined l hl hn) ?_ | refine CallSF.mk (FnAt.fn0 (joined l hl hn)) ?_
    simp (maxSteps := 1000000) -dsimp -implicitDefEqProofs only [go_sem, ↓reduceIte, keep49, ib49, mk49, Tryd.f49]
    repeat' (with_reducible first | intro _ | refine And.intro ?_ ?_)
    all_goals try (first | omega | decide)
    · simp only [List.length_append, List.length_cons, List.length_nil]; omega
    · rw [← wordsL_join l (by intro q; subst q; exact e rfl)]
      simp
open Go.Proofs
set_option linter.unusedVariables false
set_option linter.unusedSimpArgs false
def keep17 : List Nat := [0, 2, 3, 4, 5, 7, 9, 11]
def ib17 : List Nat := []
def mk17 : Marks := fun _ => ([], .nil, [])
theorem l08Uses (k : Int) : Fn0 Tryd.prog 17 [I k] (.tup [I (if k = 1 then 2 else if k = 8 then 0 else if k = 9 then 0 else 1), .bool (decide (k = 9 ∨ k = 10))]) := by
  refine fn0F 13 keep17 ib17 mk17 mix Tryd.func17 rfl (by kernel_rfl) (by simp) fun h => ?_
  simp (maxSteps := 1000000) -dsimp -implicitDefEqProofs only [go_sem, ↓reduceIte, keep17, ib17, mk17, Tryd.f17]
  repeat' (with_reducible first | intro _ | refine And.intro ?_ ?_)
  all_goals simp_all
def keep26 : List Nat := [0, 2, 3, 4]
def ib26 : List Nat := []
def mk26 : Marks := fun _ => ([], .nil, [])
theorem isMentioned (k : Int) : Fn0 Tryd.prog 26 [I k] (.tup [.bool (decide (k ≠ 8 ∧ k ≠ 9)), .bool (decide (k = 1)), .bool (decide (k = 9 ∨ k = 10))]) := by
  refine fn0F 19 keep26 ib26 mk26 mix Tryd.func26 rfl (by kernel_rfl) (by simp) fun h => ?_
  simp (maxSteps := 1000000) -dsimp -implicitDefEqProofs only [go_sem, ↓reduceIte, keep26, ib26, mk26, Tryd.f26]
  repeat' (with_reducible first | intro _ | refine And.intro ?_ ?_)
  all_goals simp_all
def actWord (k : Int) : List UInt8 := ([[103, 105, 118, 101], [119, 111, 114, 107], [100, 101, 108, 105, 118, 101, 114], [99, 111, 112, 121], [100, 114, 111, 112], [100, 111, 119, 110], [99, 114, 97, 115, 104], [115, 121, 110, 99], [112, 111, 105, 110, 116], [116, 101, 114, 109]] : List (List UInt8)).getD (k - 1).toNat []
theorem actWord_at {k : Int} (h1 : 1 ≤ k) (h2 : k ≤ 10) : ([[HVal.str [103, 105, 118, 101]], [HVal.str [119, 111, 114, 107]], [HVal.str [100, 101, 108, 105, 118, 101, 114]], [HVal.str [99, 111, 112, 121]], [HVal.str [100, 114, 111, 112]], [HVal.str [100, 111, 119, 110]], [HVal.str [99, 114, 97, 115, 104]], [HVal.str [115, 121, 110, 99]], [HVal.str [112, 111, 105, 110, 116]], [HVal.str [116, 101, 114, 109]]] : List (List HVal))[(IntKind.i64.wrap (k - 1)).toNat]? = some [HVal.str (actWord k)] := by
  rw [IntWalk.i64_in _ (by omega)]
  rcases (by omega : k = 1 ∨ k = 2 ∨ k = 3 ∨ k = 4 ∨ k = 5 ∨ k = 6 ∨ k = 7 ∨ k = 8 ∨ k = 9 ∨ k = 10) with rfl | rfl | rfl | rfl | rfl | rfl | rfl | rfl | rfl | rfl
  all_goals rfl
theorem actWord_len (k : Int) : (actWord k).length ≤ 7 := by
  unfold actWord
  generalize (k - 1).toNat = n
  match n with
  | 0 | 1 | 2 | 3 | 4 | 5 | 6 | 7 | 8 | 9 => decide
  | n + 10 => simp
def keep18 : List Nat := [0, 2, 5]
def ib18 : List Nat := [6]
def mk18 : Marks := fun _ => ([], .nil, [])
theorem l08Word (k : Int) (h1 : 1 ≤ k) (h2 : k ≤ 10) : Fn0 Tryd.prog 18 [I k] (.str (actWord k)) := by
  refine fn0F 11 keep18 ib18 mk18 mix Tryd.func18 rfl (by kernel_rfl) (by simp) fun h => ?_
  simp (maxSteps := 1000000) -dsimp -implicitDefEqProofs only [go_sem, ↓reduceIte, keep18, ib18, mk18, Tryd.f18]
  first | refine HFnF.mk (l00In k 1 10) ?_ | refine CallSF.mk (l00In k 1 10) ?_ | refine HFnF.mkAt (l00In k 1 10) ?_ | refine CallSF.mk (FnAt.fn0 (l00In k 1 10)) ?_
  simp (maxSteps := 1000000) -dsimp -implicitDefEqProofs only [go_sem, ↓reduceIte, keep18, ib18, mk18, Tryd.f18]
  repeat' (with_reducible first | intro _ | refine And.intro ?_ ?_)
  all_goals try (first | omega | decide)
  all_goals try (rw [IntWalk.i64_in _ (by omega)]; omega)
  simp (maxSteps := 1000000) -dsimp -implicitDefEqProofs only [go_sem, ↓reduceIte, keep18, ib18, mk18, Tryd.f18, actWord_at h1 h2]
def keep24 : List Nat := [0]
def ib24 : List Nat := [1]
def mk24 : Marks := fun _ => ([], .nil, [])
theorem actWords : Fn0 Tryd.prog 24 [] (.sl 1 [[HVal.str [103, 105, 118, 101]], [HVal.str [119, 111, 114, 107]], [HVal.str [100, 101, 108, 105, 118, 101, 114]], [HVal.str [99, 111, 112, 121]], [HVal.str [100, 114, 111, 112]], [HVal.str [100, 111, 119, 110]], [HVal.str [99, 114, 97, 115, 104]], [HVal.str [115, 121, 110, 99]], [HVal.str [112, 111, 105, 110, 116]], [HVal.str [116, 101, 114, 109]]] true) := by
  refine fn0F 2 keep24 ib24 mk24 mix Tryd.func24 rfl (by kernel_rfl) (by simp) fun h => ?_
  simp (maxSteps := 1000000) -dsimp -implicitDefEqProofs only [go_sem, ↓reduceIte, keep24, ib24, mk24, Tryd.f24]
  repeat' (with_reducible first | intro _ | refine And.intro ?_ ?_)
  all_goals try (first | omega | decide)
open Go.Proofs
set_option linter.unusedVariables false
set_option linter.unusedSimpArgs false
structure DAct.ok (a : DAct) : Prop where
  kind : 1 ≤ a.fKind ∧ a.fKind ≤ 10
  hA : 0 ≤ a.fA ∧ a.fA ≤ 6000
  hB : 0 ≤ a.fB ∧ a.fB ≤ 6000
  num : Nums a.fNumbers
  len : a.fNumbers.length ≤ 12
  first : a.fKind = 8 ∨ a.fKind = 9 → a.fA = 0
  second : a.fKind ≠ 1 → a.fB = 0
  numbers : ¬ (a.fKind = 9 ∨ a.fKind = 10) → a.fNumbers.length = 0
noncomputable instance (a : DAct) : Decidable a.ok := Classical.propDecidable _
def keep20 : List Nat := [0, 2, 3, 4, 34, 66]
def ib20 : List Nat := []
def mk20 : Marks := fun _ => ([], .nil, [])
set_option maxRecDepth 100000 in
theorem l08Act (a : DAct) (hs : a.s ≤ 1048576) : Fn0 Tryd.prog 20 [.ip 4 [a.c] 0 0] (.bool (decide a.ok)) := by
  have hl := a.s_eq
  simp only [DAct.c_eq]
  refine fn0F 80 keep20 ib20 mk20 mix Tryd.func20 rfl (by kernel_rfl) (by simp) fun h => ?_
  simp (maxSteps := 1000000) -dsimp -implicitDefEqProofs only [go_sem, ↓reduceIte, keep20, ib20, mk20, Tryd.f20]
  first | refine HFnF.mk (l08Uses a.fKind) ?_ | refine CallSF.mk (l08Uses a.fKind) ?_ | refine HFnF.mkAt (l08Uses a.fKind) ?_ | refine CallSF.mk (FnAt.fn0 (l08Uses a.fKind)) ?_
  simp (maxSteps := 1000000) -dsimp -implicitDefEqProofs only [go_sem, ↓reduceIte, keep20, ib20, mk20, Tryd.f20]
  first | refine HFnF.mk (l00In a.fKind 1 10) ?_ | refine CallSF.mk (l00In a.fKind 1 10) ?_ | refine HFnF.mkAt (l00In a.fKind 1 10) ?_ | refine CallSF.mk (FnAt.fn0 (l00In a.fKind 1 10)) ?_
  simp (maxSteps := 1000000) -dsimp -implicitDefEqProofs only [go_sem, ↓reduceIte, keep20, ib20, mk20, Tryd.f20]
  repeat' (with_reducible first | intro _ | refine And.intro ?_ ?_)
  rotate_left
  · (refine (decide_eq_false fun q => ?_).symm; have q1 := q.kind; have q2 := q.hA; have q3 := q.hB; have q4 := q.len; have q5 := q.first; have q6 := q.second; have q7 := q.numbers; first | omega | (simp_all; done) | (simp_all; omega))
  first | refine HFnF.mk (l00In a.fA 0 6000) ?_ | refine CallSF.mk (l00In a.fA 0 6000) ?_ | refine HFnF.mkAt (l00In a.fA 0 6000) ?_ | refine CallSF.mk (FnAt.fn0 (l00In a.fA 0 6000)) ?_
  simp (maxSteps := 1000000) -dsimp -implicitDefEqProofs only [go_sem, ↓reduceIte, keep20, ib20, mk20, Tryd.f20]
  repeat' (with_reducible first | intro _ | refine And.intro ?_ ?_)
  rotate_left
  · (refine (decide_eq_false fun q => ?_).symm; have q1 := q.kind; have q2 := q.hA; have q3 := q.hB; have q4 := q.len; have q5 := q.first; have q6 := q.second; have q7 := q.numbers; first | omega | (simp_all; done) | (simp_all; omega))
  first | refine HFnF.mk (l00In a.fB 0 6000) ?_ | refine CallSF.mk (l00In a.fB 0 6000) ?_ | refine HFnF.mkAt (l00In a.fB 0 6000) ?_ | refine CallSF.mk (FnAt.fn0 (l00In a.fB 0 6000)) ?_
  simp (maxSteps := 1000000) -dsimp -implicitDefEqProofs only [go_sem, ↓reduceIte, keep20, ib20, mk20, Tryd.f20]
  repeat' (with_reducible first | intro _ | refine And.intro ?_ ?_)
  all_goals try (refine (decide_eq_false fun q => ?_).symm; have q1 := q.kind; have q2 := q.hA; have q3 := q.hB; have q4 := q.len; have q5 := q.first; have q6 := q.second; have q7 := q.numbers; first | omega | (simp_all; done) | (simp_all; omega))
  all_goals
    first | refine HFnF.mk (l01Numbers a.fNumbers) ?_ | refine CallSF.mk (l01Numbers a.fNumbers) ?_ | refine HFnF.mkAt (l01Numbers a.fNumbers) ?_ | refine CallSF.mk (FnAt.fn0 (l01Numbers a.fNumbers)) ?_
    simp (maxSteps := 1000000) -dsimp -implicitDefEqProofs only [go_sem, ↓reduceIte, keep20, ib20, mk20, Tryd.f20]
    by_cases hn : Nums a.fNumbers
    · rw [decide_eq_true hn]
      refine (decide_eq_true ?_).symm
      constructor <;> first | assumption | omega | (simp_all; done) | (simp_all; omega)
    · rw [decide_eq_false hn]
      exact (decide_eq_false fun q : a.ok => hn q.num).symm
def keep48 : List Nat := [0, 1, 2, 3, 4, 5, 36]
def ib48 : List Nat := [1]
def mk48 : Marks := fun _ => ([], .nil, [])
set_option maxRecDepth 100000 in
theorem isAct (a : DAct) (hs : a.s ≤ 1048576) : Fn0 Tryd.prog 48 [.agg a.c] (.bool (decide a.ok)) := by
  have hl := a.s_eq
  simp only [DAct.c_eq]
  refine fn0F 67 keep48 ib48 mk48 mix Tryd.func48 rfl (by kernel_rfl) (by simp) fun h => ?_
  simp (maxSteps := 1000000) -dsimp -implicitDefEqProofs only [go_sem, ↓reduceIte, keep48, ib48, mk48, Tryd.f48]
  first | refine HFnF.mk (within a.fKind 1 10) ?_ | refine CallSF.mk (within a.fKind 1 10) ?_ | refine HFnF.mkAt (within a.fKind 1 10) ?_ | refine CallSF.mk (FnAt.fn0 (within a.fKind 1 10)) ?_
  simp (maxSteps := 1000000) -dsimp -implicitDefEqProofs only [go_sem, ↓reduceIte, keep48, ib48, mk48, Tryd.f48]
  repeat' (with_reducible first | intro _ | refine And.intro ?_ ?_)
  rotate_left
  · (refine (decide_eq_false fun q => ?_).symm; have q1 := q.kind; have q2 := q.hA; have q3 := q.hB; have q4 := q.len; have q5 := q.first; have q6 := q.second; have q7 := q.numbers; first | omega | (simp_all; done) | (simp_all; omega))
  first | refine HFnF.mk (within a.fA 0 6000) ?_ | refine CallSF.mk (within a.fA 0 6000) ?_ | refine HFnF.mkAt (within a.fA 0 6000) ?_ | refine CallSF.mk (FnAt.fn0 (within a.fA 0 6000)) ?_
  simp (maxSteps := 1000000) -dsimp -implicitDefEqProofs only [go_sem, ↓reduceIte, keep48, ib48, mk48, Tryd.f48]
  repeat' (with_reducible first | intro _ | refine And.intro ?_ ?_)
  rotate_left
  · (refine (decide_eq_false fun q => ?_).symm; have q1 := q.kind; have q2 := q.hA; have q3 := q.hB; have q4 := q.len; have q5 := q.first; have q6 := q.second; have q7 := q.numbers; first | omega | (simp_all; done) | (simp_all; omega))
  first | refine HFnF.mk (within a.fB 0 6000) ?_ | refine CallSF.mk (within a.fB 0 6000) ?_ | refine HFnF.mkAt (within a.fB 0 6000) ?_ | refine CallSF.mk (FnAt.fn0 (within a.fB 0 6000)) ?_
  simp (maxSteps := 1000000) -dsimp -implicitDefEqProofs only [go_sem, ↓reduceIte, keep48, ib48, mk48, Tryd.f48]
  repeat' (with_reducible first | intro _ | refine And.intro ?_ ?_)
  all_goals try (refine (decide_eq_false fun q => ?_).symm; have q1 := q.kind; have q2 := q.hA; have q3 := q.hB; have q4 := q.len; have q5 := q.first; have q6 := q.second; have q7 := q.numbers; first | omega | (simp_all; done) | (simp_all; omega))
  first | refine HFnF.mk (areNumbers a.fNumbers a.fNumbers.length) ?_ | refine CallSF.mk (areNumbers a.fNumbers a.fNumbers.length) ?_ | refine HFnF.mkAt (areNumbers a.fNumbers a.fNumbers.length) ?_ | refine CallSF.mk (FnAt.fn0 (areNumbers a.fNumbers a.fNumbers.length)) ?_
  simp (maxSteps := 1000000) -dsimp -implicitDefEqProofs only [go_sem, ↓reduceIte, keep48, ib48, mk48, Tryd.f48]
  by_cases hn : Nums a.fNumbers
  rotate_left
  · simp only [hn, and_false, decide_false]
    simp (maxSteps := 1000000) -dsimp -implicitDefEqProofs only [go_sem, ↓reduceIte, keep48, ib48, mk48, Tryd.f48]
    exact (decide_eq_false fun q => hn q.num).symm
  simp only [hn, and_true, decide_true]
  simp (maxSteps := 1000000) -dsimp -implicitDefEqProofs only [go_sem, ↓reduceIte, keep48, ib48, mk48, Tryd.f48]
  first | refine HFnF.mk (isMentioned a.fKind) ?_ | refine CallSF.mk (isMentioned a.fKind) ?_ | refine HFnF.mkAt (isMentioned a.fKind) ?_ | refine CallSF.mk (FnAt.fn0 (isMentioned a.fKind)) ?_
  simp (maxSteps := 1000000) -dsimp -implicitDefEqProofs only [go_sem, ↓reduceIte, keep48, ib48, mk48, Tryd.f48]
  repeat' (with_reducible first | intro _ | refine And.intro ?_ ?_)
  all_goals try (refine (decide_eq_false fun q => ?_).symm; have q1 := q.kind; have q2 := q.hA; have q3 := q.hB; have q4 := q.len; have q5 := q.first; have q6 := q.second; have q7 := q.numbers; first | omega | (simp_all; done) | (simp_all; omega))
  all_goals try (refine (decide_eq_true ?_).symm; constructor <;> first | assumption | omega | (simp_all; done) | (simp_all; omega))
  all_goals try (rw [decide_eq_decide]; constructor; { intro q; constructor <;> first | assumption | omega | (simp_all; done) | (simp_all; omega) }; { intro q; have q7 := q.numbers; first | omega | (simp_all; done) | (simp_all; omega) })
open Go.Proofs
set_option linter.unusedVariables false
set_option linter.unusedSimpArgs false
/-- The numbers behind the act's word. -/
def actNums (a : DAct) : List Int := (if a.fKind = 8 ∨ a.fKind = 9 then [] else if a.fKind = 1 then [a.fA, a.fB] else [a.fA]) ++ a.fNumbers
noncomputable def actText (a : DAct) : List UInt8 := if a.ok then actWord a.fKind ++ wordsL (actNums a) else []
theorem actNums_num {a : DAct} (h : a.ok) : ∀ n ∈ actNums a, Num n := by
  have h1 := h.hA
  have h2 := h.hB
  intro n hn
  unfold actNums at hn
  rcases List.mem_append.1 hn with q | q
  · split at q
    · cases q
    · split at q <;> simp at q <;> (constructor <;> omega)
  · exact h.num n q
theorem actNums_len {a : DAct} (h : a.ok) : (actNums a).length ≤ 14 := by
  have := h.len
  unfold actNums
  rw [List.length_append]
  split
  · simp; omega
  · split <;> simp <;> omega
theorem or_prim {α : Type} {c : α → HVal} : ∀ {l : List α} {es : List (List OV)}, OR (oP c) l es → es = l.map fun x => [OV.v (c x)]
  | [], [], _ => rfl
  | x :: l, e :: es, h => by rw [List.map_cons, ← or_prim h.2, h.1]
  | [], _ :: _, h => h.elim
  | _ :: _, [], h => h.elim
/-- An own slice, as what has grown. -/
theorem ungrown {α : Type} {c : α → HVal} {h g : Heap} {sz : Nat} {l : List α} {y : OV} (oy : OS (oP c) sz l y) (w : New h y.rows g) :
    ∃ o, oside h l o ∧ y.val = oval sz l.length o ∧ g = oheap h (.row sz ((l.map fun x => [c x]).map (List.map .v))) o := by
  rcases oy with ⟨rfl, rfl⟩ | ⟨n, es, rfl, hr⟩
  · rw [OV.nil_rows] at w
    exact ⟨none, rfl, rfl, funext fun m => w.upto m (by simp [namesOf])⟩
  · have he := or_prim hr
    subst he
    have hn : h n = none := w.fresh n (by rw [OV.sl_rows]; simp [namesOf])
    refine ⟨some n, hn, by simp [OV.val, oval], ?_⟩
    have hrow : (OV.sl n sz (l.map fun x => [OV.v (c x)])).rows = [(n, .row sz ((l.map fun x => [c x]).map (List.map .v)))] := by
      rw [OV.sl_rows, rows_map]
      simp [OV.cells, OV.val]
    rw [hrow] at w
    funext m
    by_cases e : m = n
    · subst e
      rw [oheap_some, upd_same]
      exact w.owns (m, _) (List.mem_cons_self ..)
    · rw [oheap_some, upd_ne _ _ _ _ e]
      exact w.upto m (by simp [namesOf, e])
theorem view_row {α : Type} {c : α → HVal} {h : Heap} {n : Nat} {l : List α} {k : Nat} {R : List (List Cell)} (hn : h n = none) (hk : k = l.length) (hR : R = (l.map fun x => [c x]).map (List.map Cell.v)) : View (upd h n (.row 1 R)) (.os n 1 0 k) (sls 1 (fun x => [c x]) l) := by
  subst hk
  subst hR
  obtain ⟨y, h1, h2, h3⟩ := grown (c := c) (sz := 1) (o := some n) (l := l) (h := h) hn
  rw [oval_some] at h2
  exact h2 ▸ View.ovD y (OS.dat (fun _ _ q => oP_dat q) h1) h3.owns
def keep19 : List Nat := [0, 2]
def ib19 : List Nat := [3]
def mk19 : Marks := fun _ => ([], .nil, [])
set_option maxRecDepth 100000 in
theorem l00Own (l : List Int) (hl : l.length ≤ 1048576) : FnN Tryd.prog 19 [sls 1 (fun n => [I n]) l] (QS (OS (oP I) 1 l)) := by
  refine fnNF 6 keep19 ib19 mk19 mix Tryd.func19 rfl (by kernel_rfl) (by simp) fun h => ?_
  simp (maxSteps := 1000000) -dsimp -implicitDefEqProofs only [go_sem, ↓reduceIte, keep19, ib19, mk19, Tryd.f19]
  repeat' (with_reducible first | intro _ | refine And.intro ?_ ?_)
  all_goals try (first | exact own_nil (by assumption) | exact own_emp (by assumption) | exact own_row (by assumption) | omega)
def keep21 : List Nat := [0, 2, 3, 5]
def ib21 : List Nat := [22]
def mk21 : Marks := fun id => match id with | 2 => ([], (.op 0 (.op 1 (.op 2 (.op 3 (.op 4 (.op 5 (.op 6 (.op 7 (.op 8 (.op 9 .nil)))))))))), []) | 3 => ([4, 8, 13, 14], (.op 0 (.op 1 (.op 2 (.op 3 (.op 5 (.op 6 (.op 7 (.op 9 (.op 10 (.op 11 (.op 12 (.op 4 (.op 8 (.op 13 (.op 14 (.op 15 .nil)))))))))))))))), []) | _ => ([], .nil, [])
set_option maxRecDepth 100000 in
theorem l08ActText (a : DAct) (ha : a.ok) : Fn0 Tryd.prog 21 [.ip 4 [a.c] 0 0] (.str (actWord a.fKind ++ wordsL (actNums a))) := by
  have hk := ha.kind
  have hl := ha.len
  have hw := actWord_len a.fKind
  have hn := actNums_num ha
  have hnl := actNums_len ha
  simp only [DAct.c_eq]
  have hu : ∃ u : Nat, u ≤ 2 ∧ (if a.fKind = 1 then 2 else if a.fKind = 8 then 0 else if a.fKind = 9 then 0 else 1 : Int) = u ∧ actNums a = [a.fA, a.fB].take u ++ a.fNumbers := by
    unfold actNums
    rcases (by omega : a.fKind = 1 ∨ a.fKind = 8 ∨ a.fKind = 9 ∨ (a.fKind ≠ 1 ∧ a.fKind ≠ 8 ∧ a.fKind ≠ 9)) with e | e | e | e
    · exact ⟨2, by omega, by simp [e], by simp [e]⟩
    · exact ⟨0, by omega, by simp [e], by simp [e]⟩
    · exact ⟨0, by omega, by simp [e], by simp [e]⟩
    · exact ⟨1, by omega, by simp [e], by simp [e]⟩
  obtain ⟨u, hu2, hue, hun⟩ := hu
  refine fn0F 38 keep21 ib21 mk21 mix Tryd.func21 rfl (by kernel_rfl) (by simp) fun h => ?_
  simp (maxSteps := 1000000) -dsimp -implicitDefEqProofs only [go_sem, ↓reduceIte, keep21, ib21, mk21, Tryd.f21]
  first | refine HFnF.mk ((hue ▸ l08Uses a.fKind)) ?_ | refine CallSF.mk ((hue ▸ l08Uses a.fKind)) ?_ | refine HFnF.mkAt ((hue ▸ l08Uses a.fKind)) ?_ | refine CallSF.mk (FnAt.fn0 ((hue ▸ l08Uses a.fKind))) ?_
  simp (maxSteps := 1000000) -dsimp -implicitDefEqProofs only [go_sem, ↓reduceIte, keep21, ib21, mk21, Tryd.f21]
  repeat' (with_reducible first | intro _ | refine And.intro ?_ ?_)
  all_goals try (first | omega | decide)
  simp (maxSteps := 1000000) -dsimp -implicitDefEqProofs only [go_sem, ↓reduceIte, keep21, ib21, mk21, Tryd.f21, Option.toArray_none, Option.toArray_some, List.filterMap_cons, List.filterMap_nil, List.elem_cons_self, List.nil_append, List.append_nil, List.toList_toArray]
  repeat' (with_reducible first | intro _ | refine And.intro ?_ ?_)
  all_goals try (first | omega | decide)
  have ho : FnN Tryd.prog 19 [.sl 1 (([a.fA, a.fB].map fun n => [I n]).take u) (decide (u = 2))] (QS (OS (oP I) 1 ([a.fA, a.fB].take u))) :=
    FnN.sub (SubL.cons (by rw [← List.map_take]; exact Sub.loose _ _ _) SubL.nil) (l00Own ([a.fA, a.fB].take u) (by simp; omega))
  first | refine HFnF.mk (l08Word a.fKind hk.1 hk.2) ?_ | refine CallSF.mk (l08Word a.fKind hk.1 hk.2) ?_ | refine HFnF.mkAt (l08Word a.fKind hk.1 hk.2) ?_ | refine CallSF.mk (FnAt.fn0 (l08Word a.fKind hk.1 hk.2)) ?_
  simp (maxSteps := 1000000) -dsimp -implicitDefEqProofs only [go_sem, ↓reduceIte, keep21, ib21, mk21, Tryd.f21]
  refine HFnF.nw ho ?_
  rintro r l_ g ⟨y, oy, rfl, rfl⟩ w1
  obtain ⟨o, ho, hv, hg⟩ := ungrown oy w1
  have htl : (List.take u [a.fA, a.fB]).length ≤ 2 := by simp; omega
  rw [hun] at hn hnl ⊢
  rw [hv]
  subst hg
  cases o with
  | none =>
    rw [oside_none] at ho
    rw [ho, List.nil_append] at hn ⊢
    simp (maxSteps := 1000000) -dsimp -implicitDefEqProofs only [go_sem, ↓reduceIte, keep21, ib21, mk21, Tryd.f21, oval_none, oheap_none]
    repeat' (with_reducible first | intro _ | refine And.intro ?_ ?_)
    all_goals try (first | omega | decide)
    all_goals refine HFnF.lend0 (l08Words (actWord a.fKind) a.fNumbers (by omega) (by omega) hn) (ViewL.cons (View.same _ _) (ViewL.cons ?_ ViewL.nil)) rfl ?_
    all_goals try (exact view_row (by assumption) rfl rfl)
    all_goals try (exact (View.same _ _).sub (by rw [show a.fNumbers = [] by simp_all]; exact Sub.loose _ _ _))
    all_goals simp (maxSteps := 1000000) -dsimp -implicitDefEqProofs only [go_sem, ↓reduceIte, keep21, ib21, mk21, Tryd.f21]
    all_goals try (intro m; by_cases e : h m = none; { exact .inl e }; { refine .inr ?_; simp only [upd]; (repeat' split); all_goals first | rfl | (subst_vars; simp_all; done) })
  | some n =>
    rw [oside_some] at ho
    simp (maxSteps := 1000000) -dsimp -implicitDefEqProofs only [go_sem, ↓reduceIte, keep21, ib21, mk21, Tryd.f21, oval_some, oheap_some]
    repeat' (with_reducible first | intro _ | refine And.intro ?_ ?_)
    all_goals try (first | omega | exact Nat.le_refl _ | decide)
    refine HFnF.lend0 (l08Words (actWord a.fKind) _ (by omega) (by omega) hn) (ViewL.cons (View.same _ _) (ViewL.cons ?_ ViewL.nil)) rfl ?_
    · refine view_row (by simp_all [upd]) (by rw [List.length_append]) ?_
      rw [List.take_of_length_le (by simp), List.map_append, List.map_append]
    simp (maxSteps := 1000000) -dsimp -implicitDefEqProofs only [go_sem, ↓reduceIte, keep21, ib21, mk21, Tryd.f21]
    (intro m; by_cases e : h m = none; { exact .inl e }; { refine .inr ?_; simp only [upd]; (repeat' split); all_goals first | rfl | (subst_vars; simp_all; done) })
def keep27 : List Nat := [0, 1, 2, 3, 4, 6, 9, 18, 24]
def ib27 : List Nat := [1, 17, 22, 28]
def mk27 : Marks := fun id => match id with | 9 => ([0, 9, 10], (.op 1 (.op 2 (.op 3 (.op 6 (.op 7 (.op 8 (.op 0 (.op 4 (.op 5 (.op 9 (.op 10 (.op 11 .nil)))))))))))), []) | _ => ([], .nil, [])
set_option maxRecDepth 100000 in
theorem implActText (a : DAct) (hs : a.s ≤ 1048576) : Fn0 Tryd.prog 27 [.agg a.c] (.str (actText a)) := by
  simp only [DAct.c_eq]
  refine fn0F 41 keep27 ib27 mk27 mix Tryd.func27 rfl (by kernel_rfl) (by simp) fun h => ?_
  simp (maxSteps := 1000000) -dsimp -implicitDefEqProofs only [go_sem, ↓reduceIte, keep27, ib27, mk27, Tryd.f27]
  first | refine HFnF.mk (isAct a hs) ?_ | refine CallSF.mk (isAct a hs) ?_ | refine HFnF.mkAt (isAct a hs) ?_ | refine CallSF.mk (FnAt.fn0 (isAct a hs)) ?_
  simp (maxSteps := 1000000) -dsimp -implicitDefEqProofs only [go_sem, ↓reduceIte, keep27, ib27, mk27, Tryd.f27, DAct.c_eq]
  repeat' (with_reducible first | intro _ | refine And.intro ?_ ?_)
  · rename_i e; rw [actText, if_neg e]
  rename_i ha
  have hk := ha.kind
  have hl := ha.len
  have hw := actWord_len a.fKind
  have hn := actNums_num ha
  have hnl := actNums_len ha
  first | refine HFnF.mk (isMentioned a.fKind) ?_ | refine CallSF.mk (isMentioned a.fKind) ?_ | refine HFnF.mkAt (isMentioned a.fKind) ?_ | refine CallSF.mk (FnAt.fn0 (isMentioned a.fKind)) ?_
  simp (maxSteps := 1000000) -dsimp -implicitDefEqProofs only [go_sem, ↓reduceIte, keep27, ib27, mk27, Tryd.f27]
  repeat' (with_reducible first | intro _ | refine And.intro ?_ ?_)
  all_goals try (exfalso; omega)
  all_goals try (first | omega | decide)
  all_goals
    first | refine HFnF.mk (actWords) ?_ | refine CallSF.mk (actWords) ?_ | refine HFnF.mkAt (actWords) ?_ | refine CallSF.mk (FnAt.fn0 (actWords)) ?_
    simp (maxSteps := 1000000) -dsimp -implicitDefEqProofs only [go_sem, ↓reduceIte, keep27, ib27, mk27, Tryd.f27]
    repeat' (with_reducible first | intro _ | refine And.intro ?_ ?_)
    all_goals try (rw [IntWalk.i64_in _ (by omega)]; omega)
    simp (maxSteps := 1000000) -dsimp -implicitDefEqProofs only [go_sem, ↓reduceIte, keep27, ib27, mk27, Tryd.f27, actWord_at hk.1 hk.2]
    repeat' (with_reducible first | intro _ | refine And.intro ?_ ?_)
    all_goals try (first | omega | decide)
  all_goals refine HFnF.lend0 (wordsOf (actWord a.fKind) (actNums a) (by omega) (by omega) hn) (ViewL.cons (View.same _ _) (ViewL.cons ?_ ViewL.nil)) rfl ?_
  all_goals try (refine view_row (by simp_all [upd]) (by simp_all [actNums]; try omega) (by simp_all [actNums]))
  all_goals try (exact (View.same _ _).sub (by rw [show actNums a = [] by simp_all [actNums]]; exact Sub.loose _ _ _))
  all_goals simp (maxSteps := 1000000) -dsimp -implicitDefEqProofs only [go_sem, ↓reduceIte, keep27, ib27, mk27, Tryd.f27]
  all_goals try (refine ⟨by rw [actText, if_pos ha], ?_⟩)
  all_goals try (rw [actText, if_pos ha])
  all_goals try (intro m; by_cases e : h m = none; { exact .inl e }; { refine .inr ?_; simp only [upd]; (repeat' split); all_goals first | rfl | (subst_vars; simp_all; done) })
end Go.Hl

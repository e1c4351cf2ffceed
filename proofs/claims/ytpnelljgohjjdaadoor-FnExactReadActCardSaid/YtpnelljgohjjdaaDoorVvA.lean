/-
  Contracts of functions and laws of the layer over the walk.
-/
import Derived.Test.YtpnelljgohjjdaaDoorHlD
import Derived.Test.YtpnelljgohjjdaaDoorProg
import Derived.KernelRfl
import Derived.Shelf.Strconv.Itoa4
import Derived.Shelf.Strings.OnBuilder
import Derived.Shelf.LaysM
import Derived.Lib.Split
import Derived.Lib.ParseIntB
import Derived.Lib.ItoaNum
import Derived.Lib.ItoaMem
import Derived.Lib.Join
import Derived.Shelf.Strings.Split
import Derived.Shelf.Strings.Cut
import Derived.Shelf.Strconv.ParseIntPublic10
import Derived.Shelf.Slices.Turned
namespace Go.Hl
open Go.Proofs
set_option linter.unusedVariables false
set_option linter.unusedSimpArgs false
@[go_sem] theorem ty2 : b3 Tryd.prog 2 = some ⟨1, false, 8, [.int .i64 0], .int .i64⟩ := by kernel_rfl
@[go_sem] theorem ty3 : b3 Tryd.prog 3 = some ⟨1, false, 8, [.int .i64 0], .int .i64⟩ := by kernel_rfl
@[go_sem] theorem ty4 : b3 Tryd.prog 4 = some ⟨1, false, 1, [.bool false], .bool⟩ := by kernel_rfl
@[go_sem] theorem ty5 : b3 Tryd.prog 5 = some ⟨1, false, 1, [.int .u8 0], .int .u8⟩ := by kernel_rfl
@[go_sem] theorem ty9 : b3 Tryd.prog 9 = some ⟨1, false, 16, [.str []], .str⟩ := by kernel_rfl
@[go_sem] theorem aOK : b3 Tryd.prog 21 = some ⟨1, false, 4, [.int .i32 0], .int .i32⟩ := by kernel_rfl
@[go_sem] theorem aOL : b3 Tryd.prog 22 = some ⟨1, false, 24, [.aV], .slice 2⟩ := by kernel_rfl
@[go_sem] theorem aOM : b3 Tryd.prog 24 = some ⟨4, true, 48, [.int .i64 0, .int .i64 0, .int .i64 0, .aV], .st [(0, 2, 1), (1, 2, 1), (2, 2, 1), (3, 22, 1)]⟩ := by kernel_rfl
@[go_sem] theorem aON : b3 Tryd.prog 30 = some ⟨1, false, 24, [.aV], .slice 86⟩ := by kernel_rfl
@[go_sem] theorem aOO : b3 Tryd.prog 31 = some ⟨1, false, 24, [.aV], .slice 82⟩ := by kernel_rfl
@[go_sem] theorem aOP : b3 Tryd.prog 33 = some ⟨4, true, 80, [.int .i64 0, .aV, .aV, .aV], .st [(0, 2, 1), (1, 30, 1), (2, 31, 1), (3, 22, 1)]⟩ := by kernel_rfl
@[go_sem] theorem aOQ : b3 Tryd.prog 38 = some ⟨1, false, 24, [.aV], .slice 9⟩ := by kernel_rfl
@[go_sem] theorem aOR : b3 Tryd.prog 61 = some ⟨5, true, 88, [.int .i64 0, .aV, .aV, .aV, .int .i64 0], .st [(0, 33, 4), (4, 2, 1)]⟩ := by kernel_rfl
@[go_sem] theorem aOS : b3 Tryd.prog 67 = some ⟨6, true, 88, [.int .i64 0, .aV, .aV, .aV, .bool false, .bool false], .st [(0, 33, 4), (4, 4, 1), (5, 4, 1)]⟩ := by kernel_rfl
@[go_sem] theorem aOT : b3 Tryd.prog 82 = some ⟨2, true, 16, [.int .i64 0, .bool false], .st [(0, 2, 1), (1, 4, 1)]⟩ := by kernel_rfl
@[go_sem] theorem aOU : b3 Tryd.prog 86 = some ⟨4, true, 32, [.int .i64 0, .int .i64 0, .int .i64 0, .int .i64 0], .st [(0, 2, 1), (1, 2, 1), (2, 2, 1), (3, 2, 1)]⟩ := by kernel_rfl
@[go_sem] theorem aOV : b3 Tryd.prog 95 = some ⟨1, false, 16, [.cK], .other⟩ := by kernel_rfl
@[go_sem] theorem aNN : b3 Tryd.prog 102 = some ⟨1, false, 24, [.aV], .slice 5⟩ := by kernel_rfl
@[go_sem] theorem aNO : b3 Tryd.prog 105 = some ⟨1, false, 8, [.int .u64 0], .int .u64⟩ := by kernel_rfl
@[go_sem] theorem aNP : b3 Tryd.prog 112 = some ⟨1, false, 4, [.int .u32 0], .int .u32⟩ := by kernel_rfl
@[go_sem] theorem aNQ : b3 Tryd.prog 116 = some ⟨1, false, 8, [.int .u64 0], .int .u64⟩ := by kernel_rfl
@[go_sem] theorem aNR : b3 Tryd.prog 122 = some ⟨1, false, 8, [.dJ], .ptr 124⟩ := by kernel_rfl
@[go_sem] theorem aNS : b3 Tryd.prog 124 = some ⟨2, true, 32, [.dJ, .aV], .st [(0, 122, 1), (1, 102, 1)]⟩ := by kernel_rfl
@[go_sem] theorem aNT : b3 Tryd.prog 132 = some ⟨3, true, 48, [.str [], .str [], .cK], .st [(0, 9, 1), (1, 9, 1), (2, 95, 1)]⟩ := by kernel_rfl
@[go_sem] theorem aNU : b3 Tryd.prog 135 = some ⟨24, true, 24, [.int .u8 0, .int .u8 0, .int .u8 0, .int .u8 0, .int .u8 0, .int .u8 0, .int .u8 0, .int .u8 0, .int .u8 0, .int .u8 0, .int .u8 0, .int .u8 0, .int .u8 0, .int .u8 0, .int .u8 0, .int .u8 0, .int .u8 0, .int .u8 0, .int .u8 0, .int .u8 0, .int .u8 0, .int .u8 0, .int .u8 0, .int .u8 0], .arr 24 5⟩ := by kernel_rfl
@[go_sem] theorem aNV : b3 Tryd.prog 140 = some ⟨1, false, 8, [.dJ], .ptr 5⟩ := by kernel_rfl
@[go_sem] theorem aNW : b3 Tryd.prog 141 = some ⟨256, true, 256, [.int .u8 0, .int .u8 0, .int .u8 0, .int .u8 0, .int .u8 0, .int .u8 0, .int .u8 0, .int .u8 0, .int .u8 0, .int .u8 0, .int .u8 0, .int .u8 0, .int .u8 0, .int .u8 0, .int .u8 0, .int .u8 0, .int .u8 0, .int .u8 0, .int .u8 0, .int .u8 0, .int .u8 0, .int .u8 0, .int .u8 0, .int .u8 0, .int .u8 0, .int .u8 0, .int .u8 0, .int .u8 0, .int .u8 0, .int .u8 0, .int .u8 0, .int .u8 0, .int .u8 0, .int .u8 0, .int .u8 0, .int .u8 0, .int .u8 0, .int .u8 0, .int .u8 0, .int .u8 0, .int .u8 0, .int .u8 0, .int .u8 0, .int .u8 0, .int .u8 0, .int .u8 0, .int .u8 0, .int .u8 0, .int .u8 0, .int .u8 0, .int .u8 0, .int .u8 0, .int .u8 0, .int .u8 0, .int .u8 0, .int .u8 0, .int .u8 0, .int .u8 0, .int .u8 0, .int .u8 0, .int .u8 0, .int .u8 0, .int .u8 0, .int .u8 0, .int .u8 0, .int .u8 0, .int .u8 0, .int .u8 0, .int .u8 0, .int .u8 0, .int .u8 0, .int .u8 0, .int .u8 0, .int .u8 0, .int .u8 0, .int .u8 0, .int .u8 0, .int .u8 0, .int .u8 0, .int .u8 0, .int .u8 0, .int .u8 0, .int .u8 0, .int .u8 0, .int .u8 0, .int .u8 0, .int .u8 0, .int .u8 0, .int .u8 0, .int .u8 0, .int .u8 0, .int .u8 0, .int .u8 0, .int .u8 0, .int .u8 0, .int .u8 0, .int .u8 0, .int .u8 0, .int .u8 0, .int .u8 0, .int .u8 0, .int .u8 0, .int .u8 0, .int .u8 0, .int .u8 0, .int .u8 0, .int .u8 0, .int .u8 0, .int .u8 0, .int .u8 0, .int .u8 0, .int .u8 0, .int .u8 0, .int .u8 0, .int .u8 0, .int .u8 0, .int .u8 0, .int .u8 0, .int .u8 0, .int .u8 0, .int .u8 0, .int .u8 0, .int .u8 0, .int .u8 0, .int .u8 0, .int .u8 0, .int .u8 0, .int .u8 0, .int .u8 0, .int .u8 0, .int .u8 0, .int .u8 0, .int .u8 0, .int .u8 0, .int .u8 0, .int .u8 0, .int .u8 0, .int .u8 0, .int .u8 0, .int .u8 0, .int .u8 0, .int .u8 0, .int .u8 0, .int .u8 0, .int .u8 0, .int .u8 0, .int .u8 0, .int .u8 0, .int .u8 0, .int .u8 0, .int .u8 0, .int .u8 0, .int .u8 0, .int .u8 0, .int .u8 0, .int .u8 0, .int .u8 0, .int .u8 0, .int .u8 0, .int .u8 0, .int .u8 0, .int .u8 0, .int .u8 0, .int .u8 0, .int .u8 0, .int .u8 0, .int .u8 0, .int .u8 0, .int .u8 0, .int .u8 0, .int .u8 0, .int .u8 0, .int .u8 0, .int .u8 0, .int .u8 0, .int .u8 0, .int .u8 0, .int .u8 0, .int .u8 0, .int .u8 0, .int .u8 0, .int .u8 0, .int .u8 0, .int .u8 0, .int .u8 0, .int .u8 0, .int .u8 0, .int .u8 0, .int .u8 0, .int .u8 0, .int .u8 0, .int .u8 0, .int .u8 0, .int .u8 0, .int .u8 0, .int .u8 0, .int .u8 0, .int .u8 0, .int .u8 0, .int .u8 0, .int .u8 0, .int .u8 0, .int .u8 0, .int .u8 0, .int .u8 0, .int .u8 0, .int .u8 0, .int .u8 0, .int .u8 0, .int .u8 0, .int .u8 0, .int .u8 0, .int .u8 0, .int .u8 0, .int .u8 0, .int .u8 0, .int .u8 0, .int .u8 0, .int .u8 0, .int .u8 0, .int .u8 0, .int .u8 0, .int .u8 0, .int .u8 0, .int .u8 0, .int .u8 0, .int .u8 0, .int .u8 0, .int .u8 0, .int .u8 0, .int .u8 0, .int .u8 0, .int .u8 0, .int .u8 0, .int .u8 0, .int .u8 0, .int .u8 0, .int .u8 0, .int .u8 0, .int .u8 0, .int .u8 0, .int .u8 0, .int .u8 0, .int .u8 0, .int .u8 0, .int .u8 0, .int .u8 0, .int .u8 0, .int .u8 0, .int .u8 0, .int .u8 0, .int .u8 0, .int .u8 0, .int .u8 0, .int .u8 0, .int .u8 0], .arr 256 5⟩ := by kernel_rfl
@[go_sem] theorem aNX : b3 Tryd.prog 143 = some ⟨2, true, 2, [.int .u8 0, .int .u8 0], .st [(0, 5, 1), (1, 5, 1)]⟩ := by kernel_rfl
@[go_sem] theorem aNY : b3 Tryd.prog 144 = some ⟨32, true, 32, [.int .u8 0, .int .u8 0, .int .u8 0, .int .u8 0, .int .u8 0, .int .u8 0, .int .u8 0, .int .u8 0, .int .u8 0, .int .u8 0, .int .u8 0, .int .u8 0, .int .u8 0, .int .u8 0, .int .u8 0, .int .u8 0, .int .u8 0, .int .u8 0, .int .u8 0, .int .u8 0, .int .u8 0, .int .u8 0, .int .u8 0, .int .u8 0, .int .u8 0, .int .u8 0, .int .u8 0, .int .u8 0, .int .u8 0, .int .u8 0, .int .u8 0, .int .u8 0], .arr 16 143⟩ := by kernel_rfl
@[go_sem] theorem aNZ : b3 Tryd.prog 147 = some ⟨1, true, 16, [.str []], .st [(0, 9, 1)]⟩ := by kernel_rfl
@[go_sem] theorem aN0 : b3 Tryd.prog 149 = some ⟨20, true, 160, [.int .u64 0, .int .u64 0, .int .u64 0, .int .u64 0, .int .u64 0, .int .u64 0, .int .u64 0, .int .u64 0, .int .u64 0, .int .u64 0, .int .u64 0, .int .u64 0, .int .u64 0, .int .u64 0, .int .u64 0, .int .u64 0, .int .u64 0, .int .u64 0, .int .u64 0, .int .u64 0], .arr 20 116⟩ := by kernel_rfl
@[go_sem] theorem aN1 : b3 Tryd.prog 150 = some ⟨65, true, 65, [.int .u8 0, .int .u8 0, .int .u8 0, .int .u8 0, .int .u8 0, .int .u8 0, .int .u8 0, .int .u8 0, .int .u8 0, .int .u8 0, .int .u8 0, .int .u8 0, .int .u8 0, .int .u8 0, .int .u8 0, .int .u8 0, .int .u8 0, .int .u8 0, .int .u8 0, .int .u8 0, .int .u8 0, .int .u8 0, .int .u8 0, .int .u8 0, .int .u8 0, .int .u8 0, .int .u8 0, .int .u8 0, .int .u8 0, .int .u8 0, .int .u8 0, .int .u8 0, .int .u8 0, .int .u8 0, .int .u8 0, .int .u8 0, .int .u8 0, .int .u8 0, .int .u8 0, .int .u8 0, .int .u8 0, .int .u8 0, .int .u8 0, .int .u8 0, .int .u8 0, .int .u8 0, .int .u8 0, .int .u8 0, .int .u8 0, .int .u8 0, .int .u8 0, .int .u8 0, .int .u8 0, .int .u8 0, .int .u8 0, .int .u8 0, .int .u8 0, .int .u8 0, .int .u8 0, .int .u8 0, .int .u8 0, .int .u8 0, .int .u8 0, .int .u8 0, .int .u8 0], .arr 65 5⟩ := by kernel_rfl
@[go_sem] theorem aN2 : b3 Tryd.prog 157 = some ⟨32, true, 32, [.int .u8 0, .int .u8 0, .int .u8 0, .int .u8 0, .int .u8 0, .int .u8 0, .int .u8 0, .int .u8 0, .int .u8 0, .int .u8 0, .int .u8 0, .int .u8 0, .int .u8 0, .int .u8 0, .int .u8 0, .int .u8 0, .int .u8 0, .int .u8 0, .int .u8 0, .int .u8 0, .int .u8 0, .int .u8 0, .int .u8 0, .int .u8 0, .int .u8 0, .int .u8 0, .int .u8 0, .int .u8 0, .int .u8 0, .int .u8 0, .int .u8 0, .int .u8 0], .arr 32 5⟩ := by kernel_rfl
@[go_sem] theorem aN3 : b3 Tryd.prog 158 = some ⟨64, true, 64, [.int .u8 0, .int .u8 0, .int .u8 0, .int .u8 0, .int .u8 0, .int .u8 0, .int .u8 0, .int .u8 0, .int .u8 0, .int .u8 0, .int .u8 0, .int .u8 0, .int .u8 0, .int .u8 0, .int .u8 0, .int .u8 0, .int .u8 0, .int .u8 0, .int .u8 0, .int .u8 0, .int .u8 0, .int .u8 0, .int .u8 0, .int .u8 0, .int .u8 0, .int .u8 0, .int .u8 0, .int .u8 0, .int .u8 0, .int .u8 0, .int .u8 0, .int .u8 0, .int .u8 0, .int .u8 0, .int .u8 0, .int .u8 0, .int .u8 0, .int .u8 0, .int .u8 0, .int .u8 0, .int .u8 0, .int .u8 0, .int .u8 0, .int .u8 0, .int .u8 0, .int .u8 0, .int .u8 0, .int .u8 0, .int .u8 0, .int .u8 0, .int .u8 0, .int .u8 0, .int .u8 0, .int .u8 0, .int .u8 0, .int .u8 0, .int .u8 0, .int .u8 0, .int .u8 0, .int .u8 0, .int .u8 0, .int .u8 0, .int .u8 0, .int .u8 0], .arr 64 5⟩ := by kernel_rfl
theorem mix : Tryd.prog.follows .mixedOrders = true := by kernel_rfl
open Go.Proofs
set_option linter.unusedVariables false
set_option linter.unusedSimpArgs false
abbrev I (n : Int) : aA := .int .i64 n
abbrev lN {α : Type} (sz : Nat) (c : α → List aA) (l : List α) : aA := .sl sz (l.map c) false
theorem dW (h : Heap) (n m : Nat) (o : aM) : a7 h n o m = if m = n then some o else h m := rfl
theorem getElem_of_eq {α : Type} {a b : List α} (e : a = b) {k : Nat} (ha : k < a.length) {hb : k < b.length} : a[k] = b[k] := by subst e; rfl
theorem xM {α : Type} {a b : List α} {k : Nat} (ha : k < a.length) (hb : k < b.length) (hp : a.take k = b.take k) (he : a[k] = b[k]) : a.take (k + 1) = b.take (k + 1) := by
 rw [List.take_succ_eq_append_getElem ha, List.take_succ_eq_append_getElem hb, hp, he]
theorem vK {α : Type} {a b : List α} (hl : a.length = b.length) (h : a.take a.length = b.take a.length) : a = b := by
 rw [List.take_length, hl, List.take_length] at h; exact h
theorem tW {α : Type} {P : α → Prop} {l : List α} {k : Nat} (h : k < l.length) (hp : ∀ x ∈ l.take k, P x) (he : P l[k]) : ∀ x ∈ l.take (k + 1), P x := by
 rw [List.take_succ_eq_append_getElem h]
 intro x hx
 rcases List.mem_append.1 hx with hx | hx
 ·exact hp x hx
 ·rw [List.mem_singleton.1 hx]; exact he
def idxOf {α : Type} (p : α → Bool) (l : List α) : Int := match l.findIdx? p with | some i => i | none => -1
theorem pI {α : Type} {p : α → Bool} {l : List α} (h : ∀ x ∈ l, p x = false) : idxOf p l = -1 := by
 have : l.findIdx? p = none := List.findIdx?_eq_none_iff.2 h
 simp only [idxOf, this]
theorem pJ {α : Type} {p : α → Bool} {l : List α} {k : Nat} (hk : k < l.length) (h : ∀ x ∈ l.take k, p x = false) (he : p l[k] = true) : idxOf p l = k := by
 have : l.findIdx? p = some k := by
  rw [List.findIdx?_eq_some_iff_getElem]
  refine ⟨hk, he, fun j hj => ?_⟩
  have := h l[j] (List.mem_take_iff_getElem.2 ⟨j, by omega, rfl⟩)
  simp [this]
 simp only [idxOf, this]
theorem mC {α : Type} {p : α → Bool} {l : List α} : decide (0 ≤ idxOf p l) = l.any p := by
 unfold idxOf
 cases h : l.findIdx? p with
 |none =>
  have := List.findIdx?_eq_none_iff.1 h
  simp only
  rw [Bool.eq_false_iff.2 (show l.any p ≠ true from ?_)]
  ·simp
  ·intro hx
   obtain ⟨x, hx, hp⟩ := List.any_eq_true.1 hx
   rw [this x hx] at hp; cases hp
 |some i =>
  obtain ⟨hi, hp, _⟩ := List.findIdx?_eq_some_iff_getElem.1 h
  have : l.any p = true := List.any_eq_true.2 ⟨_, List.getElem_mem hi, hp⟩
  rw [this]; simp
def r6 (n : Int) : Prop := 0 ≤ n ∧ n ≤ 1000002
instance (n : Int) : Decidable (r6 n) := inferInstanceAs (Decidable (0 ≤ n ∧ n ≤ 1000002))
def xN (l : List Int) : Prop := ∀ x ∈ l, r6 x
instance (l : List Int) : Decidable (xN l) := inferInstanceAs (Decidable (∀ x ∈ l, r6 x))
theorem aBC {α : Type} {P : α → Prop} [DecidablePred P] {l : List α} [Decidable (∀ x ∈ l, P x)] : (!l.any fun x => !decide (P x)) = decide (∀ x ∈ l, P x) := by
 rw [Bool.eq_iff_iff]
 simp [List.any_eq_false]
structure aT where
 aD : Int
 fA : Int
 fB : Int
 aL : (List Int)
def aT.c (x : aT) : List aA := [(.int .i64 x.aD), (.int .i64 x.fA), (.int .i64 x.fB), (lN 1 (fun n => [I n]) x.aL)]
def aT.s (x : aT) : Nat := x.aL.length
theorem aT.iI (x : aT) : x.c = [(.int .i64 x.aD), (.int .i64 x.fA), (.int .i64 x.fB), (lN 1 (fun n => [I n]) x.aL)] := rfl
theorem aT.xO (x : aT) : x.s = x.aL.length := rfl
@[simp] theorem aT.aN4 (x : aT) : x.c.length = 4 := by rw [aT.iI]; rfl
theorem aT.eq_iff {a b : aT} : a = b ↔ a.aD = b.aD ∧ a.fA = b.fA ∧ a.fB = b.fB ∧ a.aL = b.aL := by cases a; cases b; simp
noncomputable instance : DecidableEq aT := fun a b => Classical.propDecidable (a = b)
open Go.Proofs
set_option linter.unusedVariables false
set_option linter.unusedSimpArgs false
open Go.Proofs
set_option linter.unusedVariables false
set_option linter.unusedSimpArgs false
def aT.o (x : aT) (e : List OV) : Prop := ∃ y3, e = [.v (.int .i64 x.aD), .v (.int .i64 x.fA), .v (.int .i64 x.fB), y3] ∧ OS (oP I) 1 x.aL y3
theorem aT.pY {x : aT} {e : List OV} (h : x.o e) : e.map OV.e9 = x.c := by
 obtain ⟨y3, rfl, o3⟩ := h
 have d3 := OS.e9 (c := (fun n => [I n])) (fun _ _ q => pK q) o3
 rw [aT.iI]
 simp only [List.map_cons, List.map_nil, OV.e9, d3]
theorem aT.aH8 (x : aT) (e : List OV) (h : x.o e) : OV.eC e = true := by
 obtain ⟨y3, rfl, o3⟩ := h
 have d3 := OS.aBH (fun _ _ _ q => aD0 (fun _ => rfl) q) o3
 simp [OV.eC, OV.x4, aA.bF, d3]
theorem aT.aLI (x : aT) (e : List OV) (h : x.o e) : OV.eV e ≤ 16 * (1 + x.s) := by
 obtain ⟨y3, rfl, o3⟩ := h
 have d3 := o3.ctP
 have s0 := aT.xO x
 clear o3
 simp only [OV.eV, OV.aBE]
 refine Nat.le_trans (Nat.add_le_add (Nat.le_refl 1) (Nat.add_le_add (Nat.le_refl 1) (Nat.add_le_add (Nat.le_refl 1) (Nat.add_le_add d3 (Nat.le_refl 0))))) ?_
 clear d3
 try generalize x.aL.length = z3 at *
 omega
theorem aT.aH9 (x : aT) (e : List OV) (h : x.o e) : OV.hF e ≤ 16 * (1 + x.s) := by
 have h1 := aT.aLI x e h
 have h2 : ∀ e : List OV, OV.hF e ≤ OV.eV e := fun e => by
  induction e with
  |nil => simp [OV.hF]
  |cons a e ih => rw [OV.hF, OV.eV]; cases a <;> simp [OV.ctT] <;> omega
 exact Nat.le_trans (h2 e) h1
open Go.Proofs
set_option linter.unusedVariables false
set_option linter.unusedSimpArgs false
open Go.Proofs
set_option linter.unusedVariables false
set_option linter.unusedSimpArgs false
set_option maxRecDepth 100000
open Go.Proofs
set_option linter.unusedVariables false
set_option linter.unusedSimpArgs false
@[go_sem] def sA : List Nat := [0, 1, 4, 5, 9]
@[go_sem] def aBI : List Nat := []
@[go_sem] def aBJ : Marks := fun _ => ([], .nil, [])
theorem uE (l : List Int) : aH1 Tryd.prog 29 (OS (oP I) 1 l) := by
 intro y k h hy h0 h1 ho nd
 rcases hy with ⟨rfl, hl⟩ | ⟨n, es, rfl, hor⟩
 ·rw [OV.pR, OV.kN, OV.vN, OV.aBD]
  refine xL 19 sA aBI aBJ mix Tryd.func29 rfl (by kernel_rfl) (by simp) ?_
  simp -dsimp -implicitDefEqProofs only [go_sem, ↓reduceIte, Tryd.f29]
  refine fV (keep := sA) (ib := aBI) (mk := aBJ) mix (by kernel_rfl) (fun _ : Unit => [(0, .sl 1 [] true), (1, I k), (5, I 0)]) (fun _ => h) (fun _ => True) (fun _ => 0) () (by simp [fX, bG, Heap.le_refl]) ?_
  intro _ _
  simp -dsimp -implicitDefEqProofs only [go_sem, ↓reduceIte, Tryd.f29, kX, Int.lt_irrefl]
  try intro _
  refine ⟨h, Heap.le_refl _, ?_⟩
  first | exact j2.refl (by simp [cE]) | exact ⟨by simp, j2.refl (by simp [cE])⟩
 ·rw [OV.uB, OV.fZ, OV.fZ, OV.uA, OV.r7]
  rw [OV.uA] at h1
  rw [OV.fZ] at ho nd
  generalize hL0 : (n, aM.row 1 (OV.cells es)) :: OV.aS es = L0 at nd ⊢
  refine xL 19 sA aBI aBJ mix Tryd.func29 rfl (by kernel_rfl) (by simp) ?_
  simp -dsimp -implicitDefEqProofs only [go_sem, ↓reduceIte, Tryd.f29]
  refine fV (keep := sA) (ib := aBI) (mk := aBJ) mix (by kernel_rfl) (fun x : Nat × Heap => [(0, .os n 1 0 es.length), (1, I (k + OV.bW (es.take x.1))), (5, I x.1)]) (fun x => x.2) (fun x => x.1 ≤ es.length ∧ j2 h x.2 L0 ((n, .row 1 (OV.cells (OV.b4 k (es.take x.1) ++ es.drop x.1))) :: OV.aS (OV.b4 k (es.take x.1) ++ es.drop x.1))) (fun x => es.length - x.1) (0, h) (by
   refine ⟨by simp [fX, bG, OV.bW], Heap.le_refl _, Nat.zero_le _, ?_⟩
   rw [← hL0]
   simpa [OV.b4] using j2.refl ho) ?_
  rintro ⟨i, g⟩ ⟨hi, hc⟩
  simp only at hi hc ⊢
  rcases Nat.lt_or_ge i es.length with hlt | hge
  ·have hll : i < l.length := by rw [hor.length]; exact hlt
   obtain ⟨A, e, B, rfl, hA, he⟩ := hor.split i hll
   have t1 : (A ++ e :: B).take i = A := by rw [← hA]; simp
   have t2 : (A ++ e :: B).drop i = e :: B := by rw [← hA]; simp
   have t0 : A ++ e :: B = (A ++ [e]) ++ B := by simp
   have t3 : (A ++ e :: B).take (i + 1) = A ++ [e] := by rw [t0]; exact List.take_left' (by simp [hA])
   have t4 : (A ++ e :: B).drop (i + 1) = B := by rw [t0]; exact List.drop_left' (by simp [hA])
   clear t0
   have hct := OV.fJ A (e :: B)
   rw [OV.bW] at hct
   rw [t1, t2] at hc
   rw [t1]
   have hA2 : (OV.cells (OV.b4 k A)).length = i := by rw [OV.cells, List.length_map, OV.gR, hA]
   have hs2 := OV.tZ k A e
   have hs3 := OV.nQ A e
   obtain rfl : _ = _ := he
   simp only [OV.pQ, OV.rB, OV.aBE, Nat.add_zero, OV.pS, OV.rC, OV.aH0, uC, rD, uD, pT] at hct hs2 hs3
   generalize hkk : k + (OV.bW A : Int) = kk at hs2 ⊢
   generalize OV.b4 k A = A2 at hs2 hc hA2
   have gm : ∀ (c : List Cell) (Y : List (List Cell)), (OV.cells A2 ++ c :: Y)[i]? = some c := fun c Y => wQ hA2
   have sm : ∀ (c c2 : List Cell) (Y : List (List Cell)), (OV.cells A2 ++ c :: Y).set i c2 = OV.cells A2 ++ c2 :: Y := fun c c2 Y => aBF hA2
   have xK := hc
   simp only [List.append_assoc, List.cons_append, List.nil_append, List.append_nil, OV.cL, OV.dC, OV.eD, cG, cV, cU, dP, cM, cY, OV.bL] at xK
   have hgn := xK.fO (n, _) List.mem_cons_self
   simp only at hgn
   have y5 : IntKind.i64.wrap (kk + 1) = kk + 1 := IntWalk.i64_in _ (by omega)
   simp -dsimp -implicitDefEqProofs only [go_sem, ↓reduceIte, Tryd.f29, hgn, gm, sm, aQ, aW, y5]
   repeat' (with_reducible first | intro _ | refine And.intro ?_ ?_)
   all_goals try omega
   have hq0 := xK.trans (j2.set (o' := .row 1 (OV.cells A2 ++ [.v (.int .i64 (kk))] :: OV.cells B)) xK.fO (xK.nodup nd))
   have hg0 : a7 g n (.row 1 (OV.cells A2 ++ [.v (.int .i64 (kk))] :: OV.cells B)) n = some (.row 1 (OV.cells A2 ++ [.v (.int .i64 (kk))] :: OV.cells B)) := aW _ _ _
   refine ⟨(i + 1, (a7 g n (.row 1 (OV.cells A2 ++ [.v (.int .i64 (kk))] :: OV.cells B)))), ?_⟩
   simp only [t3, t4, hs2, hs3]
   refine ⟨?_, Heap.le_refl _, ⟨by omega, ?_⟩, by omega⟩
   ·repeat' (with_reducible refine And.intro ?_ ?_)
    all_goals first | rfl | trivial | omega | (rw [IntWalk.i64_in _ (by omega)]; omega)
   ·simpa only [List.append_assoc, List.cons_append, List.nil_append, List.append_nil, OV.cL, OV.dC, OV.eD, cG, cV, cU, dP, cM, cY, OV.bL] using hq0
  ·have hi2 : i = es.length := by omega
   subst hi2
   rw [List.take_length, List.drop_length, List.append_nil] at hc
   rw [List.take_length]
   simp -dsimp -implicitDefEqProofs only [go_sem, ↓reduceIte, Tryd.f29, Int.lt_irrefl, Nat.lt_irrefl]
   try intro _
   refine ⟨g, Heap.le_refl _, ?_⟩
   first | exact hc | exact ⟨rfl, hc⟩
@[go_sem] def aID : List Nat := [0, 1, 2, 4]
@[go_sem] def ib8 : List Nat := [2]
@[go_sem] def mk8 : Marks := fun _ => ([], .nil, [])
theorem y6 (x : aT) : aH3 Tryd.prog 8 x.o := by
 intro e k h he h0 h1 ho nd
 obtain ⟨y_3, rfl, vQ⟩ := he
 simp only [OV.pV, OV.rE, OV.aCS, OV.pW, OV.rF, OV.aCT, Nat.add_zero, Nat.zero_add, kX, Int.add_zero, Int.zero_add, vQ.ctT, vQ.mkT] at h1 ⊢
 have xK := j2.refl ho
 simp only [List.append_assoc, List.cons_append, List.nil_append, List.append_nil, OV.cL, OV.dC, OV.eD, cG, cV, cU, dP, cM, cY, OV.bL] at xK nd ⊢
 obtain ⟨L0, hL0⟩ : ∃ L : List (Nat × aM), L = (y_3.rows) := ⟨_, rfl⟩
 replace xK : j2 h h L0 (y_3.rows) := by rw [hL0]; exact xK
 rw [← hL0] at nd ⊢
 refine xL 10 aID ib8 mk8 mix Tryd.func8 rfl (by kernel_rfl) (by simp) ?_
 simp -dsimp -implicitDefEqProofs only [go_sem, ↓reduceIte, Tryd.f8, OV.aU, OV.aF, OV.bL, vQ.flat, vQ.one]
 have hp0 : j2 h h L0 ((([] : List (Nat × aM))) ++ ((y_3.rows) ++ (([] : List (Nat × aM))))) := by simpa only [List.append_assoc, List.cons_append, List.nil_append, List.append_nil, OV.cL, OV.dC, OV.eD, cG, cV, cU, dP, cM, cY, OV.bL] using xK
 refine aI.mkH (uE x.aL y_3 (k) _ vQ (by omega) (by omega) hp0.fO.right.left (xQ (hp0.nodup nd))) ?_
 rintro r g0 ⟨rfl, aLJ⟩
 have hr0 := hp0.trans (j2.mid hp0.fO (hp0.nodup nd) (by simpa only [List.append_assoc, List.cons_append, List.nil_append, List.append_nil, OV.cL, OV.dC, OV.eD, cG, cV, cU, dP, cM, cY, OV.bL] using aLJ))
 simp -dsimp -implicitDefEqProofs only [go_sem, ↓reduceIte, Tryd.f8, OV.aU, OV.aF, OV.bL, vQ.flat, vQ.one]
 refine ⟨g0, Heap.le_refl _, ?_⟩
 first
  |exact ⟨by congr 1; omega, by simpa only [List.append_assoc, List.cons_append, List.nil_append, List.append_nil, OV.cL, OV.dC, OV.eD, cG, cV, cU, dP, cM, cY, OV.bL, Int.natCast_add, ← Int.add_assoc] using hr0⟩
  |exact ⟨by omega, by simpa only [List.append_assoc, List.cons_append, List.nil_append, List.append_nil, OV.cL, OV.dC, OV.eD, cG, cV, cU, dP, cM, cY, OV.bL, Int.natCast_add, ← Int.add_assoc] using hr0⟩
  |simpa only [List.append_assoc, List.cons_append, List.nil_append, List.append_nil, OV.cL, OV.dC, OV.eD, cG, cV, cU, dP, cM, cY, OV.bL, Int.natCast_add, ← Int.add_assoc] using hr0
set_option maxRecDepth 100000
open Go.Proofs
set_option linter.unusedVariables false
set_option linter.unusedSimpArgs false
@[go_sem] def sB : List Nat := [0, 1, 4, 5, 9, 17]
@[go_sem] def aBK : List Nat := []
@[go_sem] def aBL : Marks := fun _ => ([], .nil, [])
theorem uF (l : List Int) : aH2 Tryd.prog 30 (OS (oP I) 1 l) := by
 intro y k hy h0 h1
 rcases hy with ⟨rfl, hl⟩ | ⟨n, es, rfl, hor⟩
 ·rw [OV.pR, r9, OV.vN]
  refine dS 21 sB aBK aBL mix Tryd.func30 rfl (by kernel_rfl) (by simp) fun h => ?_
  simp -dsimp -implicitDefEqProofs only [go_sem, ↓reduceIte, Tryd.f30]
  refine fV (keep := sB) (ib := aBK) (mk := aBL) mix (by kernel_rfl) (fun _ : Unit => [(0, .sl 1 [] false), (1, I k), (5, I 0)]) (fun _ => h) (fun _ => True) (fun _ => 0) () (by simp [fX, bG, Heap.le_refl]) ?_
  intro _ _
  simp -dsimp -implicitDefEqProofs only [go_sem, ↓reduceIte, Tryd.f30, kX, Int.lt_irrefl]
  first | done | (intro _; simp) | simp
 ·rw [OV.uB, vO, OV.uA]
  rw [OV.uA] at h1
  have hlen : (OV.bA (OV.b4 k es)).length = es.length := by rw [nR, OV.gR]
  refine dS 21 sB aBK aBL mix Tryd.func30 rfl (by kernel_rfl) (by simp) fun h => ?_
  simp -dsimp -implicitDefEqProofs only [go_sem, ↓reduceIte, Tryd.f30, hlen]
  refine fV (keep := sB) (ib := aBK) (mk := aBL) mix (by kernel_rfl) (fun i : Nat => [(0, .sl 1 (OV.bA (OV.b4 k es)) false), (1, I (k + OV.bW (es.take i))), (5, I i)]) (fun _ => h) (fun i => i ≤ es.length) (fun i => es.length - i) 0 (by simp [fX, bG, OV.bW, Heap.le_refl]) ?_
  intro i hi
  rcases Nat.lt_or_ge i es.length with hlt | hge
  ·have hll : i < l.length := by rw [hor.length]; exact hlt
   obtain ⟨A, e, B, rfl, hA, he⟩ := hor.split i hll
   have t1 : (A ++ e :: B).take i = A := by rw [← hA]; simp
   have t0 : A ++ e :: B = (A ++ [e]) ++ B := by simp
   have t3 : (A ++ e :: B).take (i + 1) = A ++ [e] := by rw [t0]; exact List.take_left' (by simp [hA])
   clear t0
   have hct := OV.fJ A (e :: B)
   rw [OV.bW] at hct
   rw [t1]
   have hs3 := OV.nQ A e
   have hD : OV.bA (OV.b4 k (A ++ e :: B)) = OV.bA (OV.b4 k A) ++ (OV.lB (k + (OV.bW A : Int)) e).map OV.e9 :: OV.bA (OV.b4 (k + (OV.bW A : Int) + (OV.eV e : Int)) B) := by
    rw [OV.iK, pU, OV.b4, r8]
   have hA2 : (OV.bA (OV.b4 k A)).length = i := by rw [nR, OV.gR, hA]
   have hi2 : (i : Int) < (A ++ e :: B).length := by omega
   obtain rfl : _ = _ := he
   simp only [OV.pQ, OV.rB, OV.aBE, Nat.add_zero, pT] at hct hs3
   generalize hkk : k + (OV.bW A : Int) = kk at hD ⊢
   have gm : (OV.bA (OV.b4 k (A ++ [.v (.int .i64 l[i])] :: B)))[i]? = some ((OV.lB kk [.v (.int .i64 l[i])]).map OV.e9) := by rw [hD]; exact wQ hA2
   simp only [OV.pS, OV.rC, OV.aH0, uC, rD, uD, OV.aBE, pT, mD, nS, aCQ] at gm
   clear hD
   generalize OV.bA (OV.b4 k (A ++ [.v (.int .i64 l[i])] :: B)) = DD at gm hlen ⊢
   have y5 : IntKind.i64.wrap (kk + 1) = kk + 1 := IntWalk.i64_in _ (by omega)
   simp -dsimp -implicitDefEqProofs only [go_sem, ↓reduceIte, Tryd.f30, hlen, hi2, gm, eq_self, decide_true, Bool.not_true, bne_self_eq_false, y5]
   repeat' (with_reducible first | intro _ | refine And.intro ?_ ?_)
   all_goals try omega
   all_goals try (exact absurd rfl (by assumption))
   refine ⟨i + 1, ?_⟩
   simp only [t3, hs3]
   repeat' (with_reducible first | intro _ | refine And.intro ?_ ?_)
   all_goals first | rfl | trivial | omega | exact Heap.le_refl _ | (rw [IntWalk.i64_in _ (by omega)]; omega)
  ·have hi2 : i = es.length := by omega
   subst hi2
   rw [List.take_length]
   simp -dsimp -implicitDefEqProofs only [go_sem, ↓reduceIte, Tryd.f30, hlen, Int.lt_irrefl, Nat.lt_irrefl]
   first | done | (intro _; rfl) | rfl
@[go_sem] def aIF : List Nat := [0, 1, 2, 4, 10]
@[go_sem] def ib9 : List Nat := [2]
@[go_sem] def mk9 : Marks := fun _ => ([], .nil, [])
theorem uG (x : aT) : aH4 Tryd.prog 9 x.o := by
 intro e k he h0 h1
 obtain ⟨y_3, rfl, vQ⟩ := he
 simp only [OV.pV, OV.rE, OV.aCS, OV.pW, OV.rF, OV.aCT, Nat.add_zero, Nat.zero_add, kX, Int.add_zero, Int.zero_add, vQ.ctT, vQ.mkT, mD, nS, aCQ] at h1 ⊢
 refine dS 12 aIF ib9 mk9 mix Tryd.func9 rfl (by kernel_rfl) (by simp) fun h => ?_
 simp -dsimp -implicitDefEqProofs only [go_sem, ↓reduceIte, Tryd.f9, vQ.wR, vQ.y2]
 repeat' (with_reducible first | intro _ | refine And.intro ?_ ?_)
 all_goals try omega
 refine aI.mk (uF x.aL y_3 (k) vQ (by omega) (by omega)) ?_
 simp -dsimp -implicitDefEqProofs only [go_sem, ↓reduceIte, Tryd.f9, vQ.wR, vQ.y2]
 repeat' (with_reducible first | intro _ | refine And.intro ?_ ?_)
 all_goals try omega
 all_goals first | done | rfl | trivial | (congr 1; omega) | omega | (simp only [go_sem]; omega)
open Go.Proofs
set_option linter.unusedVariables false
set_option linter.unusedSimpArgs false
end Go.Hl
namespace Go.Proofs
open Go.Shelf
def Tryd.sE : Go.Shelf.Ren := ⟨fun | 173 => 80 | 246 => 93 | 283 => 103 | 284 => 104 | 285 => 105 | 286 => 106 | 129 => 111 | 317 => 110 | 318 => 112 | 319 => 113 | 320 => 114 | 337 => 117 | 338 => 118 | n => n, fun | 2 => 2 | 3 => 3 | 9 => 9 | 4 => 4 | 171 => 135 | 0 => 0 | 53 => 116 | 37 => 102 | 5 => 5 | 173 => 138 | 212 => 149 | 51 => 112 | 20 => 20 | 213 => 150 | 46 => 105 | 232 => 157 | 233 => 158 | n => n, fun | 17 => 5 | 18 => 6 | 19 => 7 | n => n⟩
theorem Tryd.y9 : Go.Proofs.LaysM.n173 Tryd.prog Tryd.sE := {
 mixed := by kernel_rfl
 f129 := Tryd.func111.trans (congrArg some (by kernel_rfl))
 f173 := Tryd.func80.trans (congrArg some (by kernel_rfl))
 f246 := Tryd.func93.trans (congrArg some (by kernel_rfl))
 f283 := Tryd.func103.trans (congrArg some (by kernel_rfl))
 f284 := Tryd.func104.trans (congrArg some (by kernel_rfl))
 f285 := Tryd.func105.trans (congrArg some (by kernel_rfl))
 f286 := Tryd.func106.trans (congrArg some (by kernel_rfl))
 f317 := Tryd.func110.trans (congrArg some (by kernel_rfl))
 f318 := Tryd.func112.trans (congrArg some (by kernel_rfl))
 f319 := Tryd.func113.trans (congrArg some (by kernel_rfl))
 f320 := Tryd.func114.trans (congrArg some (by kernel_rfl))
 f337 := Tryd.func117.trans (congrArg some (by kernel_rfl))
 f338 := Tryd.func118.trans (congrArg some (by kernel_rfl))
 t0 := Tryd.underlying0
 a0 := Tryd.isAgg0
 z0 := Tryd.sizeOf0
 v0 := Tryd.zeroValue0
 t2 := Tryd.underlying2
 a2 := Tryd.isAgg2
 z2 := Tryd.sizeOf2
 v2 := Tryd.zeroValue2
 t3 := Tryd.underlying3
 a3 := Tryd.isAgg3
 z3 := Tryd.sizeOf3
 v3 := Tryd.zeroValue3
 t4 := Tryd.underlying4
 a4 := Tryd.isAgg4
 z4 := Tryd.sizeOf4
 v4 := Tryd.zeroValue4
 t5 := Tryd.underlying5
 a5 := Tryd.isAgg5
 z5 := Tryd.sizeOf5
 v5 := Tryd.zeroValue5
 t9 := Tryd.underlying9
 a9 := Tryd.isAgg9
 z9 := Tryd.sizeOf9
 v9 := Tryd.zeroValue9
 t20 := Tryd.underlying20
 a20 := Tryd.isAgg20
 z20 := Tryd.sizeOf20
 v20 := Tryd.zeroValue20
 t37 := Tryd.underlying102
 a37 := Tryd.isAgg102
 z37 := Tryd.sizeOf102
 v37 := Tryd.zeroValue102
 t46 := Tryd.underlying105
 a46 := Tryd.isAgg105
 z46 := Tryd.sizeOf105
 v46 := Tryd.zeroValue105
 t51 := Tryd.underlying112
 a51 := Tryd.isAgg112
 z51 := Tryd.sizeOf112
 v51 := Tryd.zeroValue112
 t53 := Tryd.underlying116
 a53 := Tryd.isAgg116
 z53 := Tryd.sizeOf116
 v53 := Tryd.zeroValue116
 t171 := Tryd.underlying135
 a171 := Tryd.isAgg135
 z171 := Tryd.sizeOf135
 v171 := Tryd.zeroValue135
 t173 := Tryd.underlying138
 a173 := Tryd.isAgg138
 z173 := Tryd.sizeOf138
 v173 := Tryd.zeroValue138
 t212 := Tryd.underlying149
 a212 := Tryd.isAgg149
 z212 := Tryd.sizeOf149
 v212 := Tryd.zeroValue149
 t213 := Tryd.underlying150
 a213 := Tryd.isAgg150
 z213 := Tryd.sizeOf150
 t232 := Tryd.underlying157
 a232 := Tryd.isAgg157
 z232 := Tryd.sizeOf157
 v232 := Tryd.zeroValue157
 t233 := Tryd.underlying158
 a233 := Tryd.isAgg158
 z233 := Tryd.sizeOf158
 v233 := Tryd.zeroValue158
 g17 := by kernel_rfl
 g18 := by kernel_rfl
 g19 := by kernel_rfl
 i0 := by kernel_rfl
 i2 := by kernel_rfl
 i3 := by kernel_rfl
 i4 := by kernel_rfl
 i5 := by kernel_rfl
 i9 := by kernel_rfl
 i20 := by kernel_rfl
 i37 := by kernel_rfl
 i46 := by kernel_rfl
 i51 := by kernel_rfl
 i53 := by kernel_rfl
 i171 := by kernel_rfl
 i173 := by kernel_rfl
 i212 := by kernel_rfl
 i232 := by kernel_rfl
 i233 := by kernel_rfl
 m17 := by kernel_rfl
 m18 := by kernel_rfl
 m19 := by kernel_rfl }
open Go.RowKit Go.Sort Go.Lib in
theorem Tryd.strconv_FormatInt_10 (n : Int) (h0 : -9223372036854775808 ≤ n) (h1 : n ≤ 9223372036854775807) (w : World) (htab : Lib.TabIs Tryd.prog w "internal/strconv.uint64pow10" .u64 Lib.pow10Tab) :
  Calls Tryd.prog 80 #[.int .i64 n, .int .i64 10] w fun e w' => e = .returned (.string ⟨(Lib.itoa n).toArray⟩) ∧ ∃ k os, w' = grow (w.drewN k) os := Any.strconv_FormatInt_10 Tryd.y9 n h0 h1 w htab
def Tryd.nT : Go.Shelf.Ren := ⟨fun | 156 => 82 | 165 => 94 | 166 => 95 | 169 => 96 | 240 => 107 | 241 => 108 | 276 => 115 | 277 => 116 | n => n, fun | 31 => 38 | 9 => 9 | 3 => 3 | 4 => 4 | 0 => 0 | 20 => 20 | 72 => 124 | 76 => 126 | 70 => 122 | 37 => 102 | 75 => 95 | 127 => 140 | 164 => 153 | 5 => 5 | 80 => 128 | n => n, fun | n => n⟩
theorem Tryd.wU : Go.Proofs.Lays.n156 Tryd.prog Tryd.nT := {
 mixed := by kernel_rfl
 f156 := Tryd.func82.trans (congrArg some (by kernel_rfl))
 f165 := Tryd.func94.trans (congrArg some (by kernel_rfl))
 f166 := Tryd.func95.trans (congrArg some (by kernel_rfl))
 f169 := Tryd.func96.trans (congrArg some (by kernel_rfl))
 f240 := Tryd.func107.trans (congrArg some (by kernel_rfl))
 f241 := Tryd.func108.trans (congrArg some (by kernel_rfl))
 f276 := Tryd.func115.trans (congrArg some (by kernel_rfl))
 f277 := Tryd.func116.trans (congrArg some (by kernel_rfl))
 t0 := Tryd.underlying0
 a0 := Tryd.isAgg0
 z0 := Tryd.sizeOf0
 v0 := Tryd.zeroValue0
 t3 := Tryd.underlying3
 a3 := Tryd.isAgg3
 z3 := Tryd.sizeOf3
 v3 := Tryd.zeroValue3
 t4 := Tryd.underlying4
 a4 := Tryd.isAgg4
 z4 := Tryd.sizeOf4
 v4 := Tryd.zeroValue4
 t9 := Tryd.underlying9
 a9 := Tryd.isAgg9
 z9 := Tryd.sizeOf9
 v9 := Tryd.zeroValue9
 t20 := Tryd.underlying20
 a20 := Tryd.isAgg20
 z20 := Tryd.sizeOf20
 v20 := Tryd.zeroValue20
 t31 := Tryd.underlying38
 a31 := Tryd.isAgg38
 z31 := Tryd.sizeOf38
 v31 := Tryd.zeroValue38
 t37 := Tryd.underlying102
 a37 := Tryd.isAgg102
 z37 := Tryd.sizeOf102
 v37 := Tryd.zeroValue102
 t70 := Tryd.underlying122
 a70 := Tryd.isAgg122
 z70 := Tryd.sizeOf122
 v70 := Tryd.zeroValue122
 t72 := Tryd.underlying124
 a72 := Tryd.isAgg124
 z72 := Tryd.sizeOf124
 v72 := Tryd.zeroValue124
 t75 := Tryd.underlying95
 a75 := Tryd.isAgg95
 z75 := Tryd.sizeOf95
 v75 := Tryd.zeroValue95
 t76 := Tryd.underlying126
 a76 := Tryd.isAgg126
 z76 := Tryd.sizeOf126
 v76 := Tryd.zeroValue126
 t127 := Tryd.underlying140
 a127 := Tryd.isAgg140
 z127 := Tryd.sizeOf140
 v127 := Tryd.zeroValue140
 t164 := Tryd.underlying153
 a164 := Tryd.isAgg153
 z164 := Tryd.sizeOf153
 v164 := Tryd.zeroValue153 }
theorem Tryd.hG : Builder.Extra Tryd.prog Tryd.nT := {
 sizeBuilder := by kernel_rfl
 liesBuilder := by kernel_rfl
 t5 := Tryd.underlying5
 a5 := Tryd.isAgg5
 z5 := Tryd.sizeOf5
 v5 := Tryd.zeroValue5
 infoByte := by kernel_rfl
 cellsByte := by kernel_rfl
 sizeByte := by kernel_rfl
 neB5 := by decide }
open Go.RowKit in
theorem Tryd.strings_Join_none (a : Option Addr) (c : Nat) (sep : ByteArray) (w : World) :
  Calls Tryd.prog 82 #[.slice a 0 c, .string sep] w fun e w' => e = .returned (.string ⟨#[]⟩) ∧ w' = w := Any.strings_Join_none Tryd.wU Tryd.hG a c sep w
open Go.RowKit in
theorem Tryd.strings_Join (bk o c : Nat) (xs : List ByteArray) (sep : ByteArray) (w : World) (hcells : ∀ (j : Nat) x, xs[j]? = some x → w.cell? ⟨bk, o + j, none⟩ = some (.string x)) (hbk : bk < w.heap.size) (hN : xs.length ≤ 140737488355328) (hcap : xs.length ≤ c) (hlen : (Lib.join (xs.map (·.data.toList)) sep.data.toList).length ≤ 140737488355328) :
  Calls Tryd.prog 82 #[.slice (some ⟨bk, o, none⟩) xs.length c, .string sep] w fun e w' => e = .returned (.string ⟨(Lib.join (xs.map (·.data.toList)) sep.data.toList).toArray⟩) ∧ Below w.heap.size w w' := Any.strings_Join Tryd.wU Tryd.hG bk o c xs sep w hcells hbk hN hcap hlen
end Go.Proofs
namespace Go.Hl
open Go.Proofs
set_option linter.unusedVariables false
set_option linter.unusedSimpArgs false
def dT (c : UInt8) : List UInt8 → List (List UInt8)
 | [] => [[]]
 |x :: l => if x = c then [] :: dT c l else match dT c l with | [] => [[x]] | a :: r => (x :: a) :: r
theorem aBN (c : UInt8) : dT c [] = [[]] := rfl
theorem aBO (c : UInt8) (l : List UInt8) : dT c (c :: l) = [] :: dT c l := by rw [dT, if_pos rfl]
theorem p2 (c : UInt8) : ∀ l, dT c l ≠ []
 | [] => by simp [dT]
 |x :: l => by
  rw [dT]; split
  ·simp
  ·split <;> simp
theorem uJ {c x : UInt8} (h : x ≠ c) (l : List UInt8) : ∃ a r, dT c l = a :: r ∧ dT c (x :: l) = (x :: a) :: r := by
 cases e : dT c l with
 |nil => exact absurd e (p2 c l)
 |cons a r => exact ⟨a, r, rfl, by rw [dT, if_neg h, e]⟩
theorem kZ {c : UInt8} : ∀ (a : List UInt8) (l : List UInt8), c ∉ a → dT c (a ++ c :: l) = a :: dT c l
 | [], l, _ => aBO c l
 |x :: a, l, h => by
  simp only [List.mem_cons, not_or] at h
  obtain ⟨p, r, h1, h2⟩ := uJ (c := c) (x := x) (fun e => h.1 e.symm) (a ++ c :: l)
  rw [kZ a l h.2] at h1
  rw [List.cons_append, h2]
  injection h1 with h1 h3
  subst h1; subst h3; rfl
theorem jM {c : UInt8} : ∀ (a : List UInt8), c ∉ a → dT c a = [a]
 | [], _ => rfl
 |x :: a, h => by
  simp only [List.mem_cons, not_or] at h
  obtain ⟨p, r, h1, h2⟩ := uJ (c := c) (x := x) (fun e => h.1 e.symm) a
  rw [jM a h.2] at h1
  rw [h2]
  injection h1 with h1 h3
  subst h1; subst h3; rfl
theorem iW (c : UInt8) : ∀ l : List UInt8, (c ∉ l) ∨ ∃ a r, c ∉ a ∧ l = a ++ c :: r
 | [] => .inl (by simp)
 |x :: l => by
  by_cases e : x = c
  ·subst e; exact .inr ⟨[], l, by simp, rfl⟩
  ·rcases iW c l with h | ⟨a, r, h1, h2⟩
   ·exact .inl (by simp only [List.mem_cons, not_or]; exact ⟨fun q => e q.symm, h⟩)
   ·exact .inr ⟨x :: a, r, by simp only [List.mem_cons, not_or]; exact ⟨fun q => e q.symm, h1⟩, by rw [h2]; rfl⟩
theorem lQ (a b : List UInt8) (r : List (List UInt8)) (s : List UInt8) : Go.Lib.join (a :: b :: r) s = a ++ s ++ Go.Lib.join (b :: r) s := by simp [Go.Lib.join, List.intercalate]
theorem uK (a r : List UInt8) (c : UInt8) : (a ++ c :: r).drop (a.length + 1) = r := by
 rw [show a ++ c :: r = (a ++ [c]) ++ r by simp, show a.length + 1 = (a ++ [c]).length by simp, List.drop_left]
theorem zA (c : UInt8) (l : List UInt8) : Go.Lib.join (dT c l) [c] = l := by
 induction hn : l.length using Nat.strongRecOn generalizing l with
 | _ n ih =>
  rcases iW c l with h | ⟨a, r, h1, rfl⟩
  ·rw [jM l h, Go.Lib.join_one]
  ·rw [kZ a r h1]
   cases e : dT c r with
   |nil => exact absurd e (p2 c r)
   |cons b t =>
    rw [lQ, ← e, ih r.length (by rw [← hn]; simp; omega) r rfl]; simp
theorem kQ (c : UInt8) : ∀ (ps : List (List UInt8)), ps ≠ [] → (∀ p ∈ ps, c ∉ p) → dT c (Go.Lib.join ps [c]) = ps
 | [], h, _ => absurd rfl h
 | [a], _, h => by rw [Go.Lib.join_one]; exact jM a (h a (by simp))
 |a :: b :: r, _, h => by
  rw [lQ, List.append_assoc, List.singleton_append, kZ a _ (h a (by simp)), kQ c (b :: r) (by simp) fun p hp => h p (by simp [hp])]
theorem mZ (c x : UInt8) (l : List UInt8) : [c].isPrefixOf (x :: l) = (c == x) := by simp [List.isPrefixOf]
theorem index_hit (c : UInt8) (l : List UInt8) : ∀ a : List UInt8, c ∉ a → Go.Lib.index (a ++ c :: l) [c] = a.length
 | [], _ => by rw [List.nil_append, Go.Lib.index, mZ, if_pos (by simp)]; rfl
 |x :: a, h => by
  simp only [List.mem_cons, not_or] at h
  rw [List.cons_append, Go.Lib.index, mZ, if_neg (by simpa using h.1), index_hit c l a h.2]
  have : ((a.length : Int) == -1) = false := by rw [beq_eq_false_iff_ne]; omega
  simp [this]
theorem jN (c : UInt8) : ∀ a : List UInt8, c ∉ a → Go.Lib.index a [c] = -1
 | [], _ => by simp [Go.Lib.index]
 |x :: a, h => by
  simp only [List.mem_cons, not_or] at h
  rw [Go.Lib.index, mZ, if_neg (by simpa using h.1), jN c a h.2]; rfl
theorem aBP (c : UInt8) (a l : List UInt8) (h : c ∉ a) : Go.Lib.cut (a ++ c :: l) [c] = (a, l, true) := by
 rw [Go.Lib.cut, index_hit c l a h, if_pos (by omega)]
 simp [List.drop_append]
theorem zB (c : UInt8) (a : List UInt8) (h : c ∉ a) : Go.Lib.cut a [c] = (a, [], false) := by
 rw [Go.Lib.cut, jN c a h, if_neg (by omega)]
theorem p3 (c : UInt8) : ∀ (k : Nat) (l : List UInt8), l.count c ≤ k → Go.Lib.splitK [c] 0 k l = dT c l
 |0, l, h => by
  have : c ∉ l := fun hm => by have := List.count_pos_iff.2 hm; omega
  rw [Go.Lib.splitK, jM l this]
 |k + 1, l, h => by
  rcases iW c l with h1 | ⟨a, r, h1, rfl⟩
  ·rw [Go.Lib.splitK, jN c l h1, jM l h1]; rfl
  ·have e : ((a.length : Int) == -1) = false := by rw [beq_eq_false_iff_ne]; omega
   rw [Go.Lib.splitK, index_hit c r a h1, e, if_neg (by simp), kZ a r h1]
   have hc : r.count c ≤ k := by simp [List.count_append] at h; omega
   simp only [List.length_singleton, Int.toNat_natCast, Nat.add_zero]
   rw [List.take_left, uK, p3 c k _ hc]
theorem count_le (c : UInt8) : ∀ (f : Nat) (l : List UInt8), l.length < f → Go.Lib.countFrom [c] f l = l.count c
 |0, l, h => by omega
 |f + 1, l, h => by
  rcases iW c l with h1 | ⟨a, r, h1, rfl⟩
  ·rw [Go.Lib.countFrom, jN c l h1, List.count_eq_zero.2 h1]; rfl
  ·have e : ((a.length : Int) == -1) = false := by rw [beq_eq_false_iff_ne]; omega
   rw [Go.Lib.countFrom, index_hit c r a h1, e, if_neg (by simp)]
   simp only [List.length_singleton, Int.toNat_natCast]
   rw [uK, count_le c f _ (by simp at h ⊢; omega)]
   simp [List.count_append, List.count_eq_zero.2 h1]; omega
theorem xS (c : UInt8) (l : List UInt8) : Go.Lib.split l [c] = dT c l := by
 rw [Go.Lib.split, Go.Lib.count, count_le c _ l (by omega), p3 c _ l (Nat.le_refl _)]
theorem jO {u : Nat} (h : u < 10) : Go.Lib.decDigits u = [UInt8.ofNat (48 + u)] := by rw [Go.Lib.decDigits, dif_pos h]
theorem iX {u : Nat} (h : 10 ≤ u) : Go.Lib.decDigits u = Go.Lib.decDigits (u / 10) ++ [UInt8.ofNat (48 + u % 10)] := by rw [Go.Lib.decDigits, dif_neg (by omega)]
theorem fK {d : Nat} (h : d < 10) : (UInt8.ofNat (48 + d)).toNat = 48 + d := by
 show (48 + d) % 256 = 48 + d
 omega
def aD3 {α : Type} (x : Go.Lib.NumEnd Nat) (ok : Nat → Go.Lib.NumEnd α) : Go.Lib.NumEnd α := match x with | .ok a => ok a | .syntax => .syntax | .range => .range
theorem nU (M : Nat) (c : UInt8) : ∀ (l : List UInt8) (acc : Nat), Go.Lib.parseUintM M acc (l ++ [c]) = aD3 (Go.Lib.parseUintM M acc l) fun a => Go.Lib.parseUintM M a [c]
 | [], acc => rfl
 |x :: l, acc => by
  rw [List.cons_append, Go.Lib.parseUintM, Go.Lib.parseUintM]
  split
  ·split
   ·rfl
   ·split
    ·rfl
    ·exact nU M c l _
  ·rfl
theorem p4 {M acc d : Nat} (hd : d < 10) (h1 : acc < 1844674407370955162) (h2 : acc * 10 + d ≤ M) : Go.Lib.parseUintM M acc [UInt8.ofNat (48 + d)] = .ok (acc * 10 + d) := by
 rw [Go.Lib.parseUintM, fK hd, if_pos (by omega), if_neg (by omega), if_neg (by omega), Go.Lib.parseUintM]
 congr 1; omega
theorem vS {M : Nat} (hM : M < 18446744073709551616) (u : Nat) (h : u ≤ M) : Go.Lib.parseUintM M 0 (Go.Lib.decDigits u) = .ok u := by
 induction u using Nat.strongRecOn with
 | _ u ih =>
  by_cases e : u < 10
  ·rw [jO e, p4 e (by omega) (by omega)]; congr 1; omega
  ·rw [iX (by omega), nU, ih (u / 10) (by omega) (by omega)]
   show Go.Lib.parseUintM M (u / 10) _ = _
   rw [p4 (by omega) (by omega) (by omega)]; congr 1; omega
theorem p5 (u : Nat) : ∃ d r, Go.Lib.decDigits u = UInt8.ofNat (48 + d) :: r ∧ d < 10 ∧ (r ≠ [] → 1 ≤ d) := by
 induction u using Nat.strongRecOn with
 | _ u ih =>
  by_cases e : u < 10
  ·exact ⟨u, [], jO e, e, fun h => absurd rfl h⟩
  ·obtain ⟨d, r, h1, h2, h3⟩ := ih (u / 10) (by omega)
   refine ⟨d, r ++ [UInt8.ofNat (48 + u % 10)], by rw [iX (by omega), h1]; rfl, h2, fun _ => ?_⟩
   by_cases hr : r = []
   ·subst hr
    by_cases e2 : u / 10 < 10
    ·rw [jO e2] at h1
     have h4 : UInt8.ofNat (48 + u / 10) = UInt8.ofNat (48 + d) := by injection h1
     have := congrArg UInt8.toNat h4
     rw [fK e2, fK h2] at this; omega
    ·rw [iX (by omega)] at h1
     have := congrArg List.length h1
     have h5 := (ih (u / 10 / 10) (by omega))
     obtain ⟨d', r', h6, _⟩ := h5
     rw [h6] at this; simp at this
   ·exact h3 hr
theorem iY (n : Int) (h : 0 ≤ n) : Go.Lib.itoa n = Go.Lib.decDigits n.toNat := by rw [Go.Lib.itoa, if_neg (by omega)]
theorem nV {n : Int} (h0 : 0 ≤ n) (h1 : n ≤ 9223372036854775807) : Go.Lib.parseIntB 64 (Go.Lib.itoa n) = .ok n := by
 rw [iY n h0]
 obtain ⟨d, r, hd, h2, _⟩ := p5 n.toNat
 have hp := vS (M := 2 ^ 64 - 1) (by decide) n.toNat (by omega)
 rw [hd] at hp ⊢
 have hv := fK h2
 simp only [Go.Lib.parseIntB, hv]
 rw [if_neg (by omega), Go.Lib.parseUintB, if_neg (by simp), hp]
 simp only [show ¬ (48 + d = 45) by omega, not_false_eq_true, true_and, false_and, if_false]
 rw [if_neg (by omega)]
 congr 1; omega
def k5 (s : List UInt8) : Int := match Go.Lib.parseIntB 64 s with | .ok v => v | .syntax => 0 | .range => Go.Lib.intSat 64 s
def eE (hi : Int) (s : List UInt8) : Prop := 0 ≤ k5 s ∧ k5 s ≤ hi ∧ s = Go.Lib.itoa (k5 s)
instance (hi : Int) (s : List UInt8) : Decidable (eE hi s) := inferInstanceAs (Decidable (_ ∧ _ ∧ _))
theorem uL {n : Int} (h0 : 0 ≤ n) (h1 : n ≤ 9223372036854775807) : k5 (Go.Lib.itoa n) = n := by rw [k5, nV h0 h1]
theorem rI {n hi : Int} (h0 : 0 ≤ n) (h1 : n ≤ 9223372036854775807) : eE hi (Go.Lib.itoa n) ↔ n ≤ hi := by
 rw [eE, uL h0 h1]; exact ⟨fun h => h.2.1, fun h => ⟨h0, h, rfl⟩⟩
theorem zC {hi : Int} (h : hi ≤ 9223372036854775807) (s : List UInt8) : eE hi s ↔ ∃ n, 0 ≤ n ∧ n ≤ hi ∧ s = Go.Lib.itoa n :=
 ⟨fun q => ⟨_, q⟩, fun ⟨n, h0, h1, e⟩ => by rw [e]; exact (rI h0 (by omega)).2 h1⟩
theorem p6 (u : Nat) : ∀ c ∈ Go.Lib.decDigits u, 48 ≤ c.toNat ∧ c.toNat ≤ 57 := by
 induction u using Nat.strongRecOn with
 | _ u ih =>
  intro c hc
  by_cases e : u < 10
  ·rw [jO e] at hc
   rw [List.mem_singleton.1 hc, fK e]; omega
  ·rw [iX (by omega)] at hc
   rcases List.mem_append.1 hc with hc | hc
   ·exact ih (u / 10) (by omega) c hc
   ·rw [List.mem_singleton.1 hc, fK (Nat.mod_lt _ (by omega))]; omega
theorem zD (u : Nat) : Go.Lib.decDigits u ≠ [] := by obtain ⟨d, r, h, _⟩ := p5 u; rw [h]; simp
theorem aBQ {n : Int} (h : 0 ≤ n) : Go.Lib.itoa n ≠ [] := by rw [iY n h]; exact zD _
theorem wV {n : Int} (h : 0 ≤ n) {c : UInt8} (hc : c.toNat < 48) : c ∉ Go.Lib.itoa n := fun q => by
 rw [iY n h] at q
 have := p6 _ c q
 omega
def iZ (l : List UInt8) : Nat := l.foldl (fun n c => 10 * n + (c.toNat - 48)) 0
theorem k0 (l : List UInt8) (c : UInt8) : iZ (l ++ [c]) = 10 * iZ l + (c.toNat - 48) := by simp [iZ]
theorem zE (u : Nat) : iZ (Go.Lib.decDigits u) = u := by
 induction u using Nat.strongRecOn with
 | _ u ih =>
  by_cases e : u < 10
  ·rw [jO e]; simp only [iZ, List.foldl_cons, List.foldl_nil]; rw [fK e]; omega
  ·rw [iX (by omega), k0, ih (u / 10) (by omega), fK (Nat.mod_lt _ (by omega))]; omega
def p7 (l : List UInt8) : Prop := l ≠ [] ∧ (∀ c ∈ l, 48 ≤ c.toNat ∧ c.toNat ≤ 57) ∧ (1 < l.length → l[0]? ≠ some 48)
theorem vT (u : Nat) : p7 (Go.Lib.decDigits u) := by
 refine ⟨zD u, p6 u, fun h q => ?_⟩
 obtain ⟨d, r, h1, h2, h3⟩ := p5 u
 rw [h1] at h q
 have h4 : UInt8.ofNat (48 + d) = 48 := by simpa using q
 have h5 := congrArg UInt8.toNat h4
 rw [fK h2] at h5
 have : r ≠ [] := by intro e; rw [e] at h; simp at h
 have := h3 this
 have h6 : (48 : UInt8).toNat = 48 := rfl
 omega
theorem zF (l : List UInt8) (h : p7 l) : l = Go.Lib.decDigits (iZ l) := by
 induction hn : l.length using Nat.strongRecOn generalizing l with
 | _ n ih =>
  obtain ⟨h1, h2, h3⟩ := h
  rcases List.eq_nil_or_concat l with e | ⟨l', c, e⟩
  ·exact absurd e h1
  ·rw [List.concat_eq_append] at e
   subst e
   have hc := h2 c (by simp)
   have ec : UInt8.ofNat (48 + (c.toNat - 48)) = c := by
    apply UInt8.toNat.inj
    rw [fK (by omega)]; omega
   rw [k0]
   by_cases e : l' = []
   ·subst e
    rw [show iZ [] = 0 from rfl, Nat.mul_zero, Nat.zero_add, jO (by omega), ec]; rfl
   ·have hl : 1 < (l' ++ [c]).length := by
     have := List.length_pos_iff.2 e
     simp; omega
    have h4 := h3 hl
    have hd : p7 l' := ⟨e, fun x hx => h2 x (by simp [hx]), fun hl' q => h4 (by rw [List.getElem?_append_left (by omega)]; exact q)⟩
    have h5 := ih l'.length (by rw [← hn]; simp) l' hd rfl
    have hv : 1 ≤ iZ l' := by
     rcases Nat.eq_zero_or_pos (iZ l') with e0 | e0
     ·rw [e0, jO (by omega)] at h5
      exact absurd (by rw [h5]; rfl) h4
     ·exact e0
    rw [iX (by omega), show (10 * iZ l' + (c.toNat - 48)) / 10 = iZ l' by omega, show (10 * iZ l' + (c.toNat - 48)) % 10 = c.toNat - 48 by omega, ec, ← h5]
theorem uM (u : Nat) : (Go.Lib.decDigits u).length ≤ 9 ↔ u ≤ 999999999 := by
 have h := Go.Lib.lt_pow_nDigits u
 rw [Go.Lib.decDigits_length]
 constructor
 ·intro q
  have : 10 ^ Go.Lib.nDigits u ≤ 10 ^ 9 := Nat.pow_le_pow_right (by decide) q
  omega
 ·intro q
  rcases Nat.lt_or_ge u 10 with e | e
  ·rw [Go.Lib.nDigits_small e]; omega
  ·have h1 : ∀ k, k ≤ 8 → 10 ^ k ≤ u → u < 10 ^ (k + 1) → Go.Lib.nDigits u ≤ 9 := fun k hk a b => by rw [Go.Lib.nDigits_unique k u a b]; omega
   rcases Nat.lt_or_ge u 100 with e1 | e1
   ·exact h1 1 (by omega) (by omega) (by omega)
   rcases Nat.lt_or_ge u 1000 with e2 | e2
   ·exact h1 2 (by omega) (by omega) (by omega)
   rcases Nat.lt_or_ge u 10000 with e3 | e3
   ·exact h1 3 (by omega) (by omega) (by omega)
   rcases Nat.lt_or_ge u 100000 with e4 | e4
   ·exact h1 4 (by omega) (by omega) (by omega)
   rcases Nat.lt_or_ge u 1000000 with e5 | e5
   ·exact h1 5 (by omega) (by omega) (by omega)
   rcases Nat.lt_or_ge u 10000000 with e6 | e6
   ·exact h1 6 (by omega) (by omega) (by omega)
   rcases Nat.lt_or_ge u 100000000 with e7 | e7
   ·exact h1 7 (by omega) (by omega) (by omega)
   ·exact h1 8 (by omega) (by omega) (by omega)
theorem zG (l : List UInt8) : (p7 l ∧ l.length ≤ 9) ↔ ∃ n : Int, 0 ≤ n ∧ n ≤ 999999999 ∧ l = Go.Lib.itoa n := by
 constructor
 ·rintro ⟨h1, h2⟩
  have h3 := zF l h1
  refine ⟨iZ l, by omega, ?_, by rw [iY _ (by omega)]; exact h3⟩
  rw [h3, uM] at h2
  omega
 ·rintro ⟨n, h0, h1, rfl⟩
  rw [iY n h0]
  exact ⟨vT _, (uM _).2 (by omega)⟩
theorem aBR (l : List UInt8) : (p7 l ∧ l.length ≤ 9) ↔ eE 999999999 l := by rw [zG, zC (by decide)]
theorem aBS {l : List UInt8} (h : eE 999999999 l) : (iZ l : Int) = k5 l := by
 have h2 := h.2.2
 have h0 := h.1
 generalize k5 l = n at *
 rw [h2, iY n h0, zE]; omega
open Go.Proofs
set_option linter.unusedVariables false
set_option linter.unusedSimpArgs false
def bN : List Int → List UInt8
 | [] => []
 |n :: l => 32 :: Go.Lib.itoa n ++ bN l
theorem vU (l m : List Int) : bN (l ++ m) = bN l ++ bN m := by
 induction l with
 |nil => rfl
 |cons a l ih => simp [bN, ih]
def vV (hi : Int) (l : List Int) : Prop := ∀ n ∈ l, 0 ≤ n ∧ n ≤ hi
def dD (hi : Int) (ps : List (List UInt8)) : Option (List Int) := if (∀ p ∈ ps, eE hi p) then some (ps.map k5) else none
theorem eM {hi : Int} (h : hi ≤ 9223372036854775807) {ps : List (List UInt8)} {l : List Int} : dD hi ps = some l ↔ ps = l.map Go.Lib.itoa ∧ vV hi l := by
 rw [dD]
 constructor
 ·intro q
  split at q
  ·rename_i hp
   have := Option.some.inj q
   subst this
   refine ⟨?_, fun n hn => ?_⟩
   ·rw [List.map_map]
    refine List.ext_getElem (by simp) fun i h1 h2 => ?_
    rw [List.getElem_map]
    exact (hp _ (List.getElem_mem h1)).2.2
   ·obtain ⟨p, hp', rfl⟩ := List.mem_map.1 hn
    exact ⟨(hp p hp').1, (hp p hp').2.1⟩
  ·cases q
 ·rintro ⟨rfl, hb⟩
  rw [if_pos ?_, List.map_map]
  ·congr 1
   refine List.ext_getElem (by simp) fun i h1 h2 => ?_
   rw [List.getElem_map]
   have := hb _ (List.getElem_mem h2)
   exact uL this.1 (by omega)
  ·intro p hp
   obtain ⟨n, hn, rfl⟩ := List.mem_map.1 hp
   have := hb n hn
   exact (rI this.1 (by omega)).2 this.2
def fD (most : Nat) (hi : Int) (text : List UInt8) : Option (List Int) := if text = [] then some [] else if (dT 32 text).length ≤ most then dD hi (dT 32 text) else none
theorem lR (w : List UInt8) : ∀ l : List Int, Go.Lib.join (w :: l.map Go.Lib.itoa) [32] = w ++ bN l
 | [] => by rw [List.map_nil, Go.Lib.join_one]; simp [bN]
 |n :: l => by rw [List.map_cons, lQ, lR (Go.Lib.itoa n) l]; simp [bN]
theorem nA {w : List UInt8} (hw : (32 : UInt8) ∉ w) {l : List Int} (hl : ∀ n ∈ l, 0 ≤ n) : dT 32 (w ++ bN l) = w :: l.map Go.Lib.itoa := by
 rw [← lR, kQ 32 _ (by simp)]
 intro p hp
 rcases List.mem_cons.1 hp with rfl | hp
 ·exact hw
 ·obtain ⟨n, hn, rfl⟩ := List.mem_map.1 hp
  exact wV (hl n hn) (by decide)
theorem xT {a b : List Int} (ha : vV 9223372036854775807 a) (hb : vV 9223372036854775807 b) (h : a.map Go.Lib.itoa = b.map Go.Lib.itoa) : a = b := by
 have h1 := (eM (hi := 9223372036854775807) (by decide)).2 ⟨rfl, ha⟩
 have h2 := (eM (hi := 9223372036854775807) (by decide)).2 ⟨rfl, hb⟩
 rw [h, h2] at h1
 exact (Option.some.inj h1).symm
theorem xU {w w' : List UInt8} {a b : List Int} (hw : (32 : UInt8) ∉ w) (hw' : (32 : UInt8) ∉ w') (ha : vV 9223372036854775807 a) (hb : vV 9223372036854775807 b) (h : w ++ bN a = w' ++ bN b) : w = w' ∧ a = b := by
 have h1 := nA hw fun n hn => (ha n hn).1
 have h2 := nA hw' fun n hn => (hb n hn).1
 rw [h, h2] at h1
 injection h1 with h1 h3
 exact ⟨h1.symm, (xT hb ha h3).symm⟩
theorem uN {most : Nat} {hi : Int} (h : hi ≤ 9223372036854775807) {w r : List UInt8} {l : List Int} (hl : l ≠ []) : (fD most hi r = some l) ↔ (w ++ 32 :: r = w ++ bN l ∧ l.length ≤ most ∧ vV hi l) := by
 have key : w ++ 32 :: r = w ++ bN l ↔ r = Go.Lib.join (l.map Go.Lib.itoa) [32] := by
  cases l with
  |nil => exact absurd rfl hl
  |cons n l =>
   rw [List.map_cons, lR]
   simp [bN]
 rw [key, fD]
 constructor
 ·intro q
  split at q
  ·exact absurd (Option.some.inj q).symm hl
  ·split at q
   ·rename_i h1 h2
    obtain ⟨h3, h4⟩ := (eM h).1 q
    refine ⟨by rw [← h3, zA], ?_, h4⟩
    rw [h3, List.length_map] at h2; exact h2
   ·cases q
 ·rintro ⟨rfl, h2, h3⟩
  have h4 : dT 32 (Go.Lib.join (l.map Go.Lib.itoa) [32]) = l.map Go.Lib.itoa := kQ 32 _ (by simpa using hl) fun p hp => by
   obtain ⟨n, hn, rfl⟩ := List.mem_map.1 hp
   exact wV (h3 n hn).1 (by decide)
  rw [h4, List.length_map, if_pos h2, (eM h).2 ⟨rfl, h3⟩, if_neg]
  intro e
  rw [e] at h4
  rw [aBN] at h4
  cases l with
  |nil => exact absurd rfl hl
  |cons n l =>
   rw [List.map_cons] at h4
   injection h4 with h4 h5
   exact aBQ (h3 n (by simp)).1 h4.symm
theorem xV {most : Nat} {hi : Int} {r : List UInt8} : fD most hi r = some [] ↔ r = [] := by
 rw [fD]
 constructor
 ·intro q
  split at q
  ·assumption
  ·split at q
   ·rw [dD] at q
    split at q
    ·have := Option.some.inj q
     exact absurd (List.map_eq_nil_iff.1 this) (p2 32 r)
    ·cases q
   ·cases q
 ·intro q; rw [if_pos q]
set_option maxRecDepth 100000
open Go.Proofs
set_option linter.unusedVariables false
set_option linter.unusedSimpArgs false
@[go_sem] def aD4 : List Nat := [0, 1, 2, 6]
@[go_sem] def aLN : List Nat := []
@[go_sem] def aLO : Marks := fun _ => ([], .nil, [])
theorem eN (n a b : Int) : dV Tryd.prog 43 [I n, I a, I b] (.bool (decide (a ≤ n ∧ n ≤ b))) := by
 refine dS 15 aD4 aLN aLO mix Tryd.func43 rfl (by kernel_rfl) (by simp) fun h => ?_
 simp -dsimp -implicitDefEqProofs only [go_sem, ↓reduceIte, Tryd.f43]
 repeat' (with_reducible first | intro _ | refine And.intro ?_ ?_)
 all_goals try (first | (simp [*]; done) | omega | grind)
@[go_sem] def aD5 : List Nat := [0, 1, 2, 6]
@[go_sem] def aLP : List Nat := []
@[go_sem] def aLQ : Marks := fun _ => ([], .nil, [])
theorem within (n a b : Int) : dV Tryd.prog 55 [I n, I a, I b] (.bool (decide (a ≤ n ∧ n ≤ b))) := by
 refine dS 15 aD5 aLP aLQ mix Tryd.func55 rfl (by kernel_rfl) (by simp) fun h => ?_
 simp -dsimp -implicitDefEqProofs only [go_sem, ↓reduceIte, Tryd.f55]
 repeat' (with_reducible first | intro _ | refine And.intro ?_ ?_)
 all_goals try (first | (simp [*]; done) | omega | grind)
@[go_sem] def aD6 : List Nat := [0, 2]
@[go_sem] def aLR : List Nat := []
@[go_sem] def aLS : Marks := fun _ => ([], .nil, [])
theorem k4 (n : Int) : dV Tryd.prog 61 [I n] (.bool (decide (r6 n))) := by
 refine dS 5 aD6 aLR aLS mix Tryd.func61 rfl (by kernel_rfl) (by simp) fun h => ?_
 simp -dsimp -implicitDefEqProofs only [go_sem, ↓reduceIte, Tryd.f61]
 first | refine aI.mk (eN n 0 1000002) ?_ | refine aC.mk (eN n 0 1000002) ?_ | refine aI.cJ (eN n 0 1000002) ?_ | refine aC.mk (b5.fU (eN n 0 1000002)) ?_
 simp -dsimp -implicitDefEqProofs only [go_sem, ↓reduceIte, Tryd.f61]
 all_goals rfl
@[go_sem] def aD7 : List Nat := [0, 2]
@[go_sem] def aLT : List Nat := []
@[go_sem] def aLU : Marks := fun _ => ([], .nil, [])
theorem mG (n : Int) : dV Tryd.prog 72 [I n] (.bool (decide (r6 n))) := by
 refine dS 5 aD7 aLT aLU mix Tryd.func72 rfl (by kernel_rfl) (by simp) fun h => ?_
 simp -dsimp -implicitDefEqProofs only [go_sem, ↓reduceIte, Tryd.f72]
 first | refine aI.mk (within n 0 1000002) ?_ | refine aC.mk (within n 0 1000002) ?_ | refine aI.cJ (within n 0 1000002) ?_ | refine aC.mk (b5.fU (within n 0 1000002)) ?_
 simp -dsimp -implicitDefEqProofs only [go_sem, ↓reduceIte, Tryd.f72]
 all_goals rfl
@[go_sem] def zH : List Nat := [0, 2, 3, 7, 15]
@[go_sem] def aIG : List Nat := []
@[go_sem] def aIH : Marks := fun _ => ([], .nil, [])
theorem jP (l : List Int) : dV Tryd.prog 44 [lN 1 (fun n => [I n]) l] (.bool (decide (xN l))) := by
 refine dS 16 zH aIG aIH mix Tryd.func44 rfl (by kernel_rfl) (by simp) fun h => ?_
 simp -dsimp -implicitDefEqProofs only [go_sem, ↓reduceIte, Tryd.f44]
 refine fV (keep := zH) (ib := aIG) (mk := aIH) mix (by kernel_rfl) (fun k : Nat => [(0, lN 1 (fun n => [I n]) l), (3, I k)]) (fun _ => h) (fun k => k ≤ (l).length ∧ ∀ x ∈ (l).take k, r6 x) (fun k => (l).length - k) 0 (by simp [fX, bG, Heap.le_refl]) ?_
 intro k ⟨hk, hp⟩
 rcases Nat.lt_or_ge k (l).length with hlt | hge
 ·have ea : (l)[k]? = some (l)[k] := List.getElem?_eq_getElem hlt
  simp -dsimp -implicitDefEqProofs only [go_sem, ↓reduceIte, Tryd.f44, ea]
  repeat' (with_reducible first | intro _ | refine And.intro ?_ ?_)
  all_goals try omega
  first | refine aI.mk (k4 l[k]) ?_ | refine aC.mk (k4 l[k]) ?_ | refine aI.cJ (k4 l[k]) ?_ | refine aC.mk (b5.fU (k4 l[k])) ?_
  simp -dsimp -implicitDefEqProofs only [go_sem, ↓reduceIte, Tryd.f44]
  repeat' (with_reducible first | intro _ | refine And.intro ?_ ?_)
  ·rename_i he
   exact (decide_eq_false fun e => he (e _ (List.getElem_mem hlt))).symm
  ·rename_i he
   refine ⟨k + 1, ?_⟩
   repeat' (with_reducible refine And.intro ?_ ?_)
   all_goals try (rw [IntWalk.i64_in _ (by omega)]; first | rfl | omega)
   all_goals try omega
   all_goals try (repeat' (with_reducible first | exact Heap.le_refl _ | refine (a8 (by first | assumption | exact And.right (by assumption) | exact fN.2 (by assumption))).2 ?_))
   exact tW hlt hp he
 ·have hk' : k = (l).length := by omega
  subst hk'
  rw [List.take_length] at hp
  simp -dsimp -implicitDefEqProofs only [go_sem, ↓reduceIte, Tryd.f44, Nat.lt_irrefl]
  intro _
  exact (decide_eq_true hp).symm
@[go_sem] def zI : List Nat := [0, 1, 4, 5, 7, 8, 9, 16]
@[go_sem] def aII : List Nat := []
@[go_sem] def aIJ : Marks := fun _ => ([], .nil, [])
theorem uO (a : List Int) (p : Int → Bool) (g : FuncId) (cap : List aA) {h0 : Heap} (hc : ∀ x ∈ a, b5 Tryd.prog g ([(.int .i64 x)] ++ cap) (.bool (p x)) h0) : b5 Tryd.prog 73 [(lN 1 (fun n => [I n]) a), .fn (.func g) [] cap] (I (idxOf p a)) h0 := by
 refine aCN 19 zI aII aIJ mix Tryd.func73 rfl (by kernel_rfl) (by simp) fun h hle => ?_
 simp -dsimp -implicitDefEqProofs only [go_sem, ↓reduceIte, Tryd.f73, Tryd.f73]
 intro _
 refine fV (keep := zI) (ib := aII) (mk := aIJ) mix (by kernel_rfl) (fun k : Nat => [(0, (lN 1 (fun n => [I n]) a)), (1, .fn (.func g) [] cap), (7, I a.length), (8, I k)]) (fun _ => h) (fun k => k ≤ a.length ∧ ∀ x ∈ a.take k, p x = false) (fun k => a.length - k) 0 (by simp [fX, bG, Heap.le_refl]) ?_
 intro k ⟨hk, hp⟩
 rcases Nat.lt_or_ge k a.length with hlt | hge
 ·have ea : a[k]? = some a[k] := List.getElem?_eq_getElem hlt
  simp -dsimp -implicitDefEqProofs only [go_sem, ↓reduceIte, Tryd.f73, Tryd.f73, ea]
  repeat' (with_reducible first | intro _ | refine And.intro ?_ ?_)
  all_goals try omega
  have hx := hc a[k] (List.getElem_mem hlt)
  refine aI.cJ (hx.mono hle) ?_
  cases hpk : p a[k] with
  |true =>
   simp -dsimp -implicitDefEqProofs only [go_sem, ↓reduceIte, Tryd.f73, Tryd.f73]
   repeat' (with_reducible first | intro _ | refine And.intro ?_ ?_)
   all_goals first | exact (pJ hlt hp hpk).symm | rfl | (rw [pJ hlt hp hpk])
  |false =>
   simp -dsimp -implicitDefEqProofs only [go_sem, ↓reduceIte, Tryd.f73, Tryd.f73]
   refine ⟨k + 1, ?_⟩
   repeat' (with_reducible refine And.intro ?_ ?_)
   all_goals try (rw [IntWalk.i64_in _ (by omega)]; first | rfl | omega)
   all_goals try omega
   exact tW (P := fun x => p x = false) hlt hp hpk
 ·have hk' : k = a.length := by omega
  subst hk'
  rw [List.take_length] at hp
  simp -dsimp -implicitDefEqProofs only [go_sem, ↓reduceIte, Tryd.f73, Tryd.f73, Nat.lt_irrefl]
  all_goals first | exact (pI hp).symm | rw [pI hp]
@[go_sem] def aD8 : List Nat := [0, 1, 4]
@[go_sem] def aLV : List Nat := []
@[go_sem] def aLW : Marks := fun _ => ([], .nil, [])
theorem hH (a : List Int) (p : Int → Bool) (g : FuncId) (cap : List aA) {h0 : Heap} (hc : ∀ x ∈ a, b5 Tryd.prog g ([(.int .i64 x)] ++ cap) (.bool (p x)) h0) : b5 Tryd.prog 57 [(lN 1 (fun n => [I n]) a), .fn (.func g) [] cap] (.bool (a.any p)) h0 := by
 refine aCN 9 aD8 aLV aLW mix Tryd.func57 rfl (by kernel_rfl) (by simp) fun h hle => ?_
 simp -dsimp -implicitDefEqProofs only [go_sem, ↓reduceIte, Tryd.f57, Tryd.f57]
 refine aI.cJ ((uO a p g cap hc).mono hle) ?_
 simp -dsimp -implicitDefEqProofs only [go_sem, ↓reduceIte, Tryd.f57, Tryd.f57]
 all_goals first | done | exact mC | rw [mC]
@[go_sem] def aD9 : List Nat := [0, 2]
@[go_sem] def aLX : List Nat := []
@[go_sem] def aLY : Marks := fun _ => ([], .nil, [])
theorem hJ (n : Int) : dV Tryd.prog 81 [I n] (.bool (!decide (r6 n))) := by
 refine dS 6 aD9 aLX aLY mix Tryd.func81 rfl (by kernel_rfl) (by simp) fun h => ?_
 simp -dsimp -implicitDefEqProofs only [go_sem, ↓reduceIte, Tryd.f81]
 first | refine aI.mk (mG n) ?_ | refine aC.mk (mG n) ?_ | refine aI.cJ (mG n) ?_ | refine aC.mk (b5.fU (mG n)) ?_
 simp -dsimp -implicitDefEqProofs only [go_sem, ↓reduceIte, Tryd.f81]
@[go_sem] def aEA : List Nat := [0, 1, 4]
@[go_sem] def aLZ : List Nat := []
@[go_sem] def aL0 : Marks := fun _ => ([], .nil, [])
theorem jQ (l : List Int) (c : Int) : dV Tryd.prog 66 [lN 1 (fun n => [I n]) l, I c] (.bool (decide ((l.length : Int) = c ∧ xN l))) := by
 refine dS 14 aEA aLZ aL0 mix Tryd.func66 rfl (by kernel_rfl) (by simp) fun h => ?_
 simp -dsimp -implicitDefEqProofs only [go_sem, ↓reduceIte, Tryd.f66]
 repeat' (with_reducible first | intro _ | refine And.intro ?_ ?_)
 all_goals try (first | (simp [*]; done) | omega | grind)
 first | refine aI.mk (hH l (fun n => !decide (r6 n)) 81 [] fun x _ => (hJ x).aBB) ?_ | refine aC.mk (hH l (fun n => !decide (r6 n)) 81 [] fun x _ => (hJ x).aBB) ?_ | refine aI.cJ (hH l (fun n => !decide (r6 n)) 81 [] fun x _ => (hJ x).aBB) ?_ | refine aC.mk (b5.fU (hH l (fun n => !decide (r6 n)) 81 [] fun x _ => (hJ x).aBB)) ?_
 simp -dsimp -implicitDefEqProofs only [go_sem, ↓reduceIte, Tryd.f66]
 rename_i e
 rw [aBC, decide_eq_decide]
 exact ⟨fun q => ⟨e, q⟩, fun q => q.2⟩
set_option maxRecDepth 100000
open Go.Proofs
set_option linter.unusedVariables false
set_option linter.unusedSimpArgs false
theorem aBT {n : Int} (h0 : 0 ≤ n) (h : n < 10) : Go.Lib.itoa n = [UInt8.ofNat (48 + n).toNat] := by
 unfold Go.Lib.itoa
 rw [if_neg (by omega), Go.Lib.decDigits, dif_pos (by omega), show (48 + n).toNat = 48 + n.toNat from by omega]
theorem aBU {n : Int} (h : 10 ≤ n) : Go.Lib.itoa n = Go.Lib.itoa (n / 10) ++ [UInt8.ofNat (48 + n % 10).toNat] := by
 unfold Go.Lib.itoa
 rw [if_neg (by omega), if_neg (by omega), Go.Lib.decDigits, dif_neg (by omega), show (48 + n % 10).toNat = 48 + n.toNat % 10 from by omega, show (n / 10).toNat = n.toNat / 10 from by omega]
theorem jZ {u k : Nat} (h : u < 10 ^ k) (hk : 1 ≤ k) : (Go.Lib.decDigits u).length ≤ k := by
 induction k generalizing u with
 |zero => omega
 |succ k ih =>
  rw [Go.Lib.decDigits]
  split
  ·simp
  ·rename_i hu
   rcases Nat.eq_zero_or_pos k with e | e
   ·subst e; simp at h; omega
   ·have := ih (u := u / 10) (by rw [Nat.pow_succ] at h; omega) e
    simp; omega
theorem jR {n : Int} (h0 : -9223372036854775808 ≤ n) (h1 : n ≤ 9223372036854775807) : (Go.Lib.itoa n).length ≤ 21 := by
 unfold Go.Lib.itoa
 split
 ·have := jZ (u := n.natAbs) (k := 20) (by omega) (by omega)
  simp; omega
 ·have := jZ (u := n.toNat) (k := 20) (by omega) (by omega)
  omega
theorem zJ {E : Env} {h : Heap} {w : World} (x : LaidIn E h w) : Go.Lib.TabIs Tryd.prog w "internal/strconv.uint64pow10" .u64 Go.Lib.pow10Tab :=
 let ⟨_, h1, h2⟩ := x.var (P := Tryd.prog) (name := "internal/strconv.uint64pow10") (by kernel_rfl) (List.mem_cons_self ..)
 h1.trans (congrArg some (h2.trans (by kernel_rfl)))
theorem eO (n : Int) (h0 : -9223372036854775808 ≤ n) (h1 : n ≤ 9223372036854775807) : dV Tryd.prog 80 [I n, I 10] (.str (Go.Lib.itoa n)) :=
 xR (by kernel_rfl) fun E h w vs R rl => by
  match vs, rl with
  | [v0, v1], rl =>
   obtain ⟨r0, r1, _⟩ := rl
   rw [bP r0, bP r1]
   refine (Go.Proofs.Tryd.strconv_FormatInt_10 n h0 h1 w (zJ R.laid)).mono fun e w' ⟨he, hw⟩ => ⟨_, he, fun E' h' w' => .str _ ?_, hw⟩
   have := jR h0 h1
   simp only [maxLen]
   omega
@[go_sem] def zK : List Nat := [0, 2]
@[go_sem] def aIK : List Nat := []
@[go_sem] def aIL : Marks := fun _ => ([], .nil, [])
theorem decimal (n : Int) (h : r6 n) : dV Tryd.prog 65 [I n] (.str (Go.Lib.itoa n)) := by
 have h0 := h.1
 have h1 := h.2
 refine dS 5 zK aIK aIL mix Tryd.func65 rfl (by kernel_rfl) (by simp) fun h => ?_
 simp -dsimp -implicitDefEqProofs only [go_sem, ↓reduceIte, Tryd.f65]
 first | refine aI.mk (eO n (by omega) (by omega)) ?_ | refine aC.mk (eO n (by omega) (by omega)) ?_ | refine aI.cJ (eO n (by omega) (by omega)) ?_ | refine aC.mk (b5.fU (eO n (by omega) (by omega))) ?_
 simp -dsimp -implicitDefEqProofs only [go_sem, ↓reduceIte, Tryd.f65]
@[go_sem] def aEB : List Nat := [0, 2, 4]
@[go_sem] def aL1 : List Nat := [8, 17]
@[go_sem] def aL2 : Marks := fun id => match id with | 3 => ([], (.op 0 (.op 1 (.op 2 (.op 3 (.op 4 (.op 5 (.op 6 (.op 7 (.op 8 (.op 9 (.op 10 .nil))))))))))), []) | _ => ([], .nil, [])
theorem oE (m : Nat) : ∀ n : Int, 0 ≤ n → n < m → n ≤ 1000002 → dV Tryd.prog 62 [I n] (.str (Go.Lib.itoa n)) := by
 induction m with
 |zero => intro n a b; omega
 |succ m ih =>
 intro n h0 hm hn
 refine dS 20 aEB aL1 aL2 mix Tryd.func62 rfl (by kernel_rfl) (by simp) fun h => ?_
 simp -dsimp -implicitDefEqProofs only [go_sem, ↓reduceIte, Tryd.f62]
 repeat' (with_reducible first | intro _ | refine And.intro ?_ ?_)
 all_goals try omega
 ·rw [aBT h0 (by assumption), IntWalk.i64_in (48 + n) (by omega), IntWalk.u8_in (48 + n) (by omega)]
 ·rw [Int.tdiv_eq_ediv_of_nonneg (by omega), IntWalk.i64_in (n / 10) (by omega)]
  first | refine aI.mk (ih (n / 10) (by omega) (by omega) (by omega)) ?_ | refine aC.mk (ih (n / 10) (by omega) (by omega) (by omega)) ?_ | refine aI.cJ (ih (n / 10) (by omega) (by omega) (by omega)) ?_ | refine aC.mk (b5.fU (ih (n / 10) (by omega) (by omega) (by omega))) ?_
  simp -dsimp -implicitDefEqProofs only [go_sem, ↓reduceIte, Tryd.f62]
  repeat' (with_reducible first | intro _ | refine And.intro ?_ ?_)
  all_goals try (first | omega | decide)
  ·have := jR (n := n / 10) (by omega) (by omega)
   omega
  ·rw [aBU (n := n) (by omega), Int.tmod_eq_emod_of_nonneg (by omega), IntWalk.i64_in (48 + n % 10) (by omega), IntWalk.u8_in (48 + n % 10) (by omega)]
theorem zL {E : Env} {h : Heap} {w : World} {sz : Nat} {es : List (List aA)} {t : Bool} {v : Value} (hr : aZ E h w (.sl sz es t) v) :
  (es = [] ∧ ∃ a cap, v = .slice a 0 cap) ∨ ∃ b o cap, v = .slice (some ⟨b, o, none⟩) es.length cap ∧ b < w.heap.size ∧ es.length ≤ cap ∧ ∀ i j x, b9 es i j = some x → ∃ c, w.cell? ⟨b, o + i * sz + j, none⟩ = some c ∧ aZ E h w x c := by
 cases hr with
 |k6 _ _ a cap => exact .inl ⟨rfl, a, cap, rfl⟩
 |sl _ _ _ b o cap cv hi hcap hmax ht hs hc h1 hr => exact .inr ⟨b, o, cap, rfl, hi.1, hcap, fun i j x q => ⟨_, hc i j x q, hr i j x q⟩⟩
theorem aIM (xs : List (List UInt8)) (sep : List UInt8) (hN : xs.length ≤ 140737488355328) (hlen : (Go.Lib.join xs sep).length ≤ 140737488355328) : dV Tryd.prog 82 [lN 1 (fun s => [.str s]) xs, .str sep] (.str (Go.Lib.join xs sep)) :=
 kY (by kernel_rfl) fun E h w vs R rl => by
  match vs, rl with
  | [v0, v1], rl =>
   obtain ⟨r0, r1, _⟩ := rl
   obtain ⟨rfl, hl⟩ := cP r1
   have hm : (xs.map fun s : List UInt8 => (⟨s.toArray⟩ : ByteArray)).map (fun b => b.data.toList) = xs := by simp [List.map_map, Function.comp_def]
   have hr : ∀ E' h' w', aZ E' h' w' (.str (Go.Lib.join xs sep)) (.string ⟨(Go.Lib.join xs sep).toArray⟩) := fun _ _ _ => .str _ (by simp only [maxLen]; omega)
   rcases zL r0 with ⟨e, a, cap, rfl⟩ | ⟨b, o, cap, rfl, hb, hcap, hcs⟩
   ·have e : xs = [] := by simpa using e
    subst e
    exact (Go.Proofs.Tryd.strings_Join_none a cap ⟨sep.toArray⟩ w).mono fun e w' ⟨he, hw⟩ => ⟨_, he, hr, hw ▸ Go.RowKit.Below.refl _ _⟩
   ·rw [List.length_map] at hcap ⊢
    have := Go.Proofs.Tryd.strings_Join b o cap (xs.map fun s : List UInt8 => (⟨s.toArray⟩ : ByteArray)) ⟨sep.toArray⟩ w (fun j x hx => by
     simp only [List.getElem?_map, Option.map_eq_some_iff] at hx
     obtain ⟨s, hs, rfl⟩ := hx
     obtain ⟨c, h1, h2⟩ := hcs j 0 (.str s) (by simp [b9, hs])
     rw [(cP h2).1] at h1
     simpa using h1) hb (by simpa using hN) (by simpa using hcap) (by rw [hm]; exact hlen)
    rw [hm, List.length_map] at this
    exact this.mono fun e w' ⟨he, hw⟩ => ⟨_, he, hr, hw⟩
theorem uP {n : Int} (h : r6 n) : (Go.Lib.itoa n).length ≤ 21 := jR (by have := h.1; omega) (by have := h.2; omega)
theorem kR : ∀ l : List Int, l ≠ [] → 32 :: Go.Lib.join (l.map Go.Lib.itoa) [32] = bN l
 | [], h => (h rfl).elim
 | [n], _ => by simp [bN, Go.Lib.join_one]
 |n :: m :: l, _ => by
  have := kR (m :: l) (by simp)
  rw [bN, ← this]
  simp [Go.Lib.join, List.intercalate]
theorem lS : ∀ l : List Int, (∀ n ∈ l, r6 n) → (bN l).length ≤ 22 * l.length
 | [], _ => by simp [bN]
 |n :: l, h => by
  have := lS l fun n q => h n (List.mem_cons_of_mem _ q)
  have := uP (h n (List.mem_cons_self ..))
  simp [bN]; omega
theorem rJ (l : List Int) (h : ∀ n ∈ l, r6 n) : (Go.Lib.join (l.map Go.Lib.itoa) [32]).length ≤ 22 * l.length := by
 by_cases e : l = []
 ·subst e; simp [Go.Lib.join_nil]
 ·have := lS l h
  rw [← kR l e] at this
  simp at this ⊢; omega
set_option maxRecDepth 100000
open Go.Proofs
set_option linter.unusedVariables false
set_option linter.unusedSimpArgs false
@[go_sem] def zM : List Nat := [0, 1, 4, 5, 9]
@[go_sem] def aIN : List Nat := []
@[go_sem] def aIO : Marks := fun _ => ([], .nil, [])
theorem uQ (word : List UInt8) (l : List Int) (hw : word.length ≤ 1000) (hl : l.length ≤ 1000000) (hn : ∀ n ∈ l, r6 n) : dV Tryd.prog 45 [.str word, lN 1 (fun n => [I n]) l] (.str (word ++ bN l)) := by
 refine dS 21 zM aIN aIO mix Tryd.func45 rfl (by kernel_rfl) (by simp) fun h => ?_
 simp -dsimp -implicitDefEqProofs only [go_sem, ↓reduceIte, Tryd.f45]
 refine fV (keep := zM) (ib := aIN) (mk := aIO) mix (by kernel_rfl) (fun k : Nat => [(0, .str (word ++ bN (l.take k))), (1, lN 1 (fun n => [I n]) l), (5, I k)]) (fun _ => h) (fun k => k ≤ l.length) (fun k => l.length - k) 0 (by simp [fX, bG, Heap.le_refl, bN]) ?_
 intro k hk
 rcases Nat.lt_or_ge k l.length with hlt | hge
 ·have ea : l[k]? = some l[k] := List.getElem?_eq_getElem hlt
  have hnk := hn _ (List.getElem_mem hlt)
  have hlen := uP hnk
  have hlw := lS (l.take k) fun n q => hn n (List.mem_of_mem_take q)
  rw [List.length_take] at hlw
  simp -dsimp -implicitDefEqProofs only [go_sem, ↓reduceIte, Tryd.f45, ea]
  repeat' (with_reducible first | intro _ | refine And.intro ?_ ?_)
  all_goals try omega
  first | refine aI.mk (oE 1000003 l[k] hnk.1 (by have := hnk.2; omega) hnk.2) ?_ | refine aC.mk (oE 1000003 l[k] hnk.1 (by have := hnk.2; omega) hnk.2) ?_ | refine aI.cJ (oE 1000003 l[k] hnk.1 (by have := hnk.2; omega) hnk.2) ?_ | refine aC.mk (b5.fU (oE 1000003 l[k] hnk.1 (by have := hnk.2; omega) hnk.2)) ?_
  simp -dsimp -implicitDefEqProofs only [go_sem, ↓reduceIte, Tryd.f45]
  repeat' (with_reducible first | intro _ | refine And.intro ?_ ?_)
  all_goals try omega
  ·simp only [List.length_append, List.length_cons]; omega
  ·refine ⟨k + 1, ⟨?_, by rw [IntWalk.i64_in _ (by omega)]; rfl⟩, by omega, by omega⟩
   rw [List.take_succ_eq_append_getElem hlt, vU]
   simp [bN]
 ·have hk' : k = l.length := by omega
  subst hk'
  rw [List.take_length]
  simp -dsimp -implicitDefEqProofs only [go_sem, ↓reduceIte, Tryd.f45, Nat.lt_irrefl]
@[go_sem] def zN : List Nat := [0, 1, 4, 5, 7, 9, 10, 11, 12]
@[go_sem] def aIP : List Nat := [8, 18]
@[go_sem] def aIQ : Marks := fun _ => ([], .nil, [])
theorem sF (l : List Int) (hl : l.length ≤ 1000000) (hn : ∀ n ∈ l, r6 n) : dV Tryd.prog 67 [lN 1 (fun n => [I n]) l, .str [32]] (.str (Go.Lib.join (l.map Go.Lib.itoa) [32])) := by
 refine dS 24 zN aIP aIQ mix Tryd.func67 rfl (by kernel_rfl) (by simp) fun h => ?_
 simp -dsimp -implicitDefEqProofs only [go_sem, ↓reduceIte, Tryd.f67]
 repeat' (with_reducible first | intro _ | refine And.intro ?_ ?_)
 all_goals try (first | omega | decide)
 refine fV (keep := zN) (ib := aIP) (mk := aIQ) mix (by kernel_rfl) (fun x : Nat × Option Nat => [(1, .str [32]), (5, mF 1 (l.take x.1).length x.2), (9, lN 1 (fun n => [I n]) l), (10, I l.length), (11, I x.1)]) (fun x => jX h (.row 1 (((l.take x.1).map fun n => [.str (Go.Lib.itoa n)]).map (List.map .v))) x.2) (fun x => x.1 ≤ l.length ∧ jY h (l.take x.1) x.2) (fun x => l.length - x.1) (0, none) (by simp [fX, bG, Heap.le_refl, mF, jX, jY]) ?_
 rintro ⟨k, o⟩ ⟨hk, ho⟩
 simp only at hk ho ⊢
 rcases Nat.lt_or_ge k l.length with hlt | hge
 ·have ea : l[k]? = some l[k] := List.getElem?_eq_getElem hlt
  have hnk := hn _ (List.getElem_mem hlt)
  have hy : l.take (k + 1) = l.take k ++ [l[k]] := List.take_succ_eq_append_getElem hlt
  have hlk : (l.take k).length ≤ l.length := by rw [List.length_take]; omega
  cases o with
  |none =>
   rw [cO] at ho
   rw [ho] at hy ⊢
   simp -dsimp -implicitDefEqProofs only [go_sem, ↓reduceIte, Tryd.f67, cZ, cN, ea]
   repeat' (with_reducible first | intro _ | refine And.intro ?_ ?_)
   all_goals try omega
   first | refine aI.mk (decimal l[k] hnk) ?_ | refine aC.mk (decimal l[k] hnk) ?_ | refine aI.cJ (decimal l[k] hnk) ?_ | refine aC.mk (b5.fU (decimal l[k] hnk)) ?_
   simp -dsimp -implicitDefEqProofs only [go_sem, ↓reduceIte, Tryd.f67]
   repeat' (with_reducible first | intro _ | refine And.intro ?_ ?_)
   all_goals try (first | omega | decide)
   rename_i n hn
   refine ⟨(k + 1, some n), ?_⟩
   simp only [hy]
   refine ⟨⟨rfl, ?_⟩, Heap.le_refl _, ⟨by omega, hn⟩, by omega⟩
   rw [IntWalk.i64_in _ (by omega)]; rfl
  |some n =>
   rw [bC] at ho
   simp -dsimp -implicitDefEqProofs only [go_sem, ↓reduceIte, Tryd.f67, bH, a6, ea]
   repeat' (with_reducible first | intro _ | refine And.intro ?_ ?_)
   all_goals try omega
   first | refine aI.mk (decimal l[k] hnk) ?_ | refine aC.mk (decimal l[k] hnk) ?_ | refine aI.cJ (decimal l[k] hnk) ?_ | refine aC.mk (b5.fU (decimal l[k] hnk)) ?_
   simp -dsimp -implicitDefEqProofs only [go_sem, ↓reduceIte, Tryd.f67]
   repeat' (with_reducible first | intro _ | refine And.intro ?_ ?_)
   all_goals try (first | omega | decide | exact Nat.le_refl _)
   rename_i b hb
   refine ⟨(k + 1, some b), ?_⟩
   simp only [hy, a6, bH, bC]
   refine ⟨⟨by rw [List.length_append]; rfl, ?_⟩, ?_, ⟨by omega, hb.2⟩, by omega⟩
   ·rw [IntWalk.i64_in _ (by omega)]; rfl
   ·rw [← kP]; exact pX ho
 ·have hk' : k = l.length := by omega
  subst hk'
  rw [List.take_length] at ho ⊢
  simp -dsimp -implicitDefEqProofs only [go_sem, ↓reduceIte, Tryd.f67, Nat.lt_irrefl]
  have hj := aIM (l.map Go.Lib.itoa) [32] (by simp; omega) (by have := rJ l hn; omega)
  rw [show lN 1 (fun s : List UInt8 => [aA.str s]) (l.map Go.Lib.itoa) = lN 1 (fun n => [aA.str (Go.Lib.itoa n)]) l from by simp [lN, Function.comp_def]] at hj
  obtain ⟨y, h1, h2, h3⟩ := grown (c := fun n => aA.str (Go.Lib.itoa n)) (sz := 1) ho
  rw [← h2]
  refine aI.eL hj (aK.cons (View.ovD y (OS.e9 (c := fun n => [aA.str (Go.Lib.itoa n)]) (fun _ _ q => pK q) h1) h3.fO) (aK.cons (View.same _ _) aK.nil)) rfl ?_
  simp -dsimp -implicitDefEqProofs only [go_sem, ↓reduceIte, Tryd.f67]
  exact h3.le
@[go_sem] def aEC : List Nat := [0, 1, 4, 7]
@[go_sem] def aL3 : List Nat := []
@[go_sem] def aL4 : Marks := fun _ => ([], .nil, [])
theorem aBV (word : List UInt8) (l : List Int) (hw : word.length ≤ 1000) (hl : l.length ≤ 1000000) (hn : ∀ n ∈ l, r6 n) : dV Tryd.prog 49 [.str word, lN 1 (fun n => [I n]) l] (.str (word ++ bN l)) := by
 refine dS 14 aEC aL3 aL4 mix Tryd.func49 rfl (by kernel_rfl) (by simp) fun h => ?_
 simp -dsimp -implicitDefEqProofs only [go_sem, ↓reduceIte, Tryd.f49]
 have hj := rJ l hn
 repeat' (with_reducible first | intro _ | refine And.intro ?_ ?_)
 all_goals try (first | omega | decide)
 ·rename_i e
  have e : l = [] := List.length_eq_zero_iff.1 (by omega)
  subst e
  simp [bN]
 ·rename_i e
  first | refine aI.mk (sF l hl hn) ?_ | refine aC.mk (sF l hl hn) ?_ | refine aI.cJ (sF l hl hn) ?_ | refine aC.mk (b5.fU (sF l hl hn)) ?_
  simp -dsimp -implicitDefEqProofs only [go_sem, ↓reduceIte, Tryd.f49]
  repeat' (with_reducible first | intro _ | refine And.intro ?_ ?_)
  all_goals try (first | omega | decide)
  ·simp only [List.length_append, List.length_cons, List.length_nil]; omega
  ·rw [← kR l (by intro q; subst q; exact e rfl)]
   simp
open Go.Proofs
set_option linter.unusedVariables false
set_option linter.unusedSimpArgs false
@[go_sem] def aED : List Nat := [0, 2, 3, 4, 5, 7, 9, 11]
@[go_sem] def aL5 : List Nat := []
@[go_sem] def aL6 : Marks := fun _ => ([], .nil, [])
theorem gA (k : Int) : dV Tryd.prog 17 [I k] (.bY [I (if k = 1 then 2 else if k = 8 then 0 else if k = 9 then 0 else 1), .bool (decide (k = 9 ∨ k = 10))]) := by
 refine dS 13 aED aL5 aL6 mix Tryd.func17 rfl (by kernel_rfl) (by simp) fun h => ?_
 simp -dsimp -implicitDefEqProofs only [go_sem, ↓reduceIte, Tryd.f17]
 repeat' (with_reducible first | intro _ | refine And.intro ?_ ?_)
 all_goals simp_all
@[go_sem] def aEE : List Nat := [0, 2, 3, 4]
@[go_sem] def aL7 : List Nat := []
@[go_sem] def aL8 : Marks := fun _ => ([], .nil, [])
theorem cH (k : Int) : dV Tryd.prog 26 [I k] (.bY [.bool (decide (k ≠ 8 ∧ k ≠ 9)), .bool (decide (k = 1)), .bool (decide (k = 9 ∨ k = 10))]) := by
 refine dS 19 aEE aL7 aL8 mix Tryd.func26 rfl (by kernel_rfl) (by simp) fun h => ?_
 simp -dsimp -implicitDefEqProofs only [go_sem, ↓reduceIte, Tryd.f26]
 repeat' (with_reducible first | intro _ | refine And.intro ?_ ?_)
 all_goals simp_all
def bR (k : Int) : List UInt8 := ([[103, 105, 118, 101], [119, 111, 114, 107], [100, 101, 108, 105, 118, 101, 114], [99, 111, 112, 121], [100, 114, 111, 112], [100, 111, 119, 110], [99, 114, 97, 115, 104], [115, 121, 110, 99], [112, 111, 105, 110, 116], [116, 101, 114, 109]] : List (List UInt8)).getD (k - 1).toNat []
theorem p8 {k : Int} (h1 : 1 ≤ k) (h2 : k ≤ 10) : ([[aA.str [103, 105, 118, 101]], [aA.str [119, 111, 114, 107]], [aA.str [100, 101, 108, 105, 118, 101, 114]], [aA.str [99, 111, 112, 121]], [aA.str [100, 114, 111, 112]], [aA.str [100, 111, 119, 110]], [aA.str [99, 114, 97, 115, 104]], [aA.str [115, 121, 110, 99]], [aA.str [112, 111, 105, 110, 116]], [aA.str [116, 101, 114, 109]]] : List (List aA))[(IntKind.i64.wrap (k - 1)).toNat]? = some [aA.str (bR k)] := by
 rw [IntWalk.i64_in _ (by omega)]
 rcases (by omega : k = 1 ∨ k = 2 ∨ k = 3 ∨ k = 4 ∨ k = 5 ∨ k = 6 ∨ k = 7 ∨ k = 8 ∨ k = 9 ∨ k = 10) with rfl | rfl | rfl | rfl | rfl | rfl | rfl | rfl | rfl | rfl
 all_goals rfl
theorem nW (k : Int) : (bR k).length ≤ 7 := by
 unfold bR
 generalize (k - 1).toNat = n
 match n with
 |0 | 1 | 2 | 3 | 4 | 5 | 6 | 7 | 8 | 9 => decide
 |n + 10 => simp
@[go_sem] def aEF : List Nat := [0, 2, 5]
@[go_sem] def aL9 : List Nat := [6]
@[go_sem] def aMA : Marks := fun _ => ([], .nil, [])
theorem hP (k : Int) (h1 : 1 ≤ k) (h2 : k ≤ 10) : dV Tryd.prog 18 [I k] (.str (bR k)) := by
 refine dS 11 aEF aL9 aMA mix Tryd.func18 rfl (by kernel_rfl) (by simp) fun h => ?_
 simp -dsimp -implicitDefEqProofs only [go_sem, ↓reduceIte, Tryd.f18]
 first | refine aI.mk (eN k 1 10) ?_ | refine aC.mk (eN k 1 10) ?_ | refine aI.cJ (eN k 1 10) ?_ | refine aC.mk (b5.fU (eN k 1 10)) ?_
 simp -dsimp -implicitDefEqProofs only [go_sem, ↓reduceIte, Tryd.f18]
 repeat' (with_reducible first | intro _ | refine And.intro ?_ ?_)
 all_goals try (first | omega | decide)
 all_goals try (rw [IntWalk.i64_in _ (by omega)]; omega)
 simp -dsimp -implicitDefEqProofs only [go_sem, ↓reduceIte, Tryd.f18, p8 h1 h2]
@[go_sem] def aEG : List Nat := [0]
@[go_sem] def aMB : List Nat := [1]
@[go_sem] def aMC : Marks := fun _ => ([], .nil, [])
theorem fP : dV Tryd.prog 24 [] (.sl 1 [[aA.str [103, 105, 118, 101]], [aA.str [119, 111, 114, 107]], [aA.str [100, 101, 108, 105, 118, 101, 114]], [aA.str [99, 111, 112, 121]], [aA.str [100, 114, 111, 112]], [aA.str [100, 111, 119, 110]], [aA.str [99, 114, 97, 115, 104]], [aA.str [115, 121, 110, 99]], [aA.str [112, 111, 105, 110, 116]], [aA.str [116, 101, 114, 109]]] true) := by
 refine dS 2 aEG aMB aMC mix Tryd.func24 rfl (by kernel_rfl) (by simp) fun h => ?_
 simp -dsimp -implicitDefEqProofs only [go_sem, ↓reduceIte, Tryd.f24]
 repeat' (with_reducible first | intro _ | refine And.intro ?_ ?_)
 all_goals try (first | omega | decide)
set_option maxRecDepth 100000
open Go.Proofs
set_option linter.unusedVariables false
set_option linter.unusedSimpArgs false
structure aT.ok (a : aT) : Prop where
 kind : 1 ≤ a.aD ∧ a.aD ≤ 10
 hA : 0 ≤ a.fA ∧ a.fA ≤ 6000
 hB : 0 ≤ a.fB ∧ a.fB ≤ 6000
 num : xN a.aL
 len : a.aL.length ≤ 12
 first : a.aD = 8 ∨ a.aD = 9 → a.fA = 0
 second : a.aD ≠ 1 → a.fB = 0
 numbers : ¬ (a.aD = 9 ∨ a.aD = 10) → a.aL.length = 0
noncomputable instance (a : aT) : Decidable a.ok := Classical.propDecidable _
@[go_sem] def aEH : List Nat := [0, 2, 3, 4, 34, 66]
@[go_sem] def aMD : List Nat := []
@[go_sem] def aME : Marks := fun _ => ([], .nil, [])
theorem vW (a : aT) (hs : a.s ≤ 1048576) : dV Tryd.prog 20 [.ip 4 [a.c] 0 0] (.bool (decide a.ok)) := by
 have hl := a.xO
 simp only [aT.iI]
 refine dS 80 aEH aMD aME mix Tryd.func20 rfl (by kernel_rfl) (by simp) fun h => ?_
 simp -dsimp -implicitDefEqProofs only [go_sem, ↓reduceIte, Tryd.f20]
 first | refine aI.mk (gA a.aD) ?_ | refine aC.mk (gA a.aD) ?_ | refine aI.cJ (gA a.aD) ?_ | refine aC.mk (b5.fU (gA a.aD)) ?_
 simp -dsimp -implicitDefEqProofs only [go_sem, ↓reduceIte, Tryd.f20]
 first | refine aI.mk (eN a.aD 1 10) ?_ | refine aC.mk (eN a.aD 1 10) ?_ | refine aI.cJ (eN a.aD 1 10) ?_ | refine aC.mk (b5.fU (eN a.aD 1 10)) ?_
 simp -dsimp -implicitDefEqProofs only [go_sem, ↓reduceIte, Tryd.f20]
 repeat' (with_reducible first | intro _ | refine And.intro ?_ ?_)
 rotate_left
 ·(refine (decide_eq_false fun q => ?_).symm; have q1 := q.kind; have q2 := q.hA; have q3 := q.hB; have q4 := q.len; have q5 := q.first; have q6 := q.second; have q7 := q.numbers; first | omega | (simp_all; done) | (simp_all; omega))
 first | refine aI.mk (eN a.fA 0 6000) ?_ | refine aC.mk (eN a.fA 0 6000) ?_ | refine aI.cJ (eN a.fA 0 6000) ?_ | refine aC.mk (b5.fU (eN a.fA 0 6000)) ?_
 simp -dsimp -implicitDefEqProofs only [go_sem, ↓reduceIte, Tryd.f20]
 repeat' (with_reducible first | intro _ | refine And.intro ?_ ?_)
 rotate_left
 ·(refine (decide_eq_false fun q => ?_).symm; have q1 := q.kind; have q2 := q.hA; have q3 := q.hB; have q4 := q.len; have q5 := q.first; have q6 := q.second; have q7 := q.numbers; first | omega | (simp_all; done) | (simp_all; omega))
 first | refine aI.mk (eN a.fB 0 6000) ?_ | refine aC.mk (eN a.fB 0 6000) ?_ | refine aI.cJ (eN a.fB 0 6000) ?_ | refine aC.mk (b5.fU (eN a.fB 0 6000)) ?_
 simp -dsimp -implicitDefEqProofs only [go_sem, ↓reduceIte, Tryd.f20]
 repeat' (with_reducible first | intro _ | refine And.intro ?_ ?_)
 all_goals try (refine (decide_eq_false fun q => ?_).symm; have q1 := q.kind; have q2 := q.hA; have q3 := q.hB; have q4 := q.len; have q5 := q.first; have q6 := q.second; have q7 := q.numbers; first | omega | (simp_all; done) | (simp_all; omega))
 all_goals
  first | refine aI.mk (jP a.aL) ?_ | refine aC.mk (jP a.aL) ?_ | refine aI.cJ (jP a.aL) ?_ | refine aC.mk (b5.fU (jP a.aL)) ?_
  simp -dsimp -implicitDefEqProofs only [go_sem, ↓reduceIte, Tryd.f20]
  by_cases hn : xN a.aL
  ·rw [decide_eq_true hn]
   refine (decide_eq_true ?_).symm
   constructor <;> first | assumption | omega | (simp_all; done) | (simp_all; omega)
  ·rw [decide_eq_false hn]
   exact (decide_eq_false fun q : a.ok => hn q.num).symm
@[go_sem] def aEI : List Nat := [0, 1, 2, 3, 4, 5, 36]
@[go_sem] def aMF : List Nat := [1]
@[go_sem] def aMG : Marks := fun _ => ([], .nil, [])
theorem wW (a : aT) (hs : a.s ≤ 1048576) : dV Tryd.prog 48 [.agg a.c] (.bool (decide a.ok)) := by
 have hl := a.xO
 simp only [aT.iI]
 refine dS 67 aEI aMF aMG mix Tryd.func48 rfl (by kernel_rfl) (by simp) fun h => ?_
 simp -dsimp -implicitDefEqProofs only [go_sem, ↓reduceIte, Tryd.f48]
 first | refine aI.mk (within a.aD 1 10) ?_ | refine aC.mk (within a.aD 1 10) ?_ | refine aI.cJ (within a.aD 1 10) ?_ | refine aC.mk (b5.fU (within a.aD 1 10)) ?_
 simp -dsimp -implicitDefEqProofs only [go_sem, ↓reduceIte, Tryd.f48]
 repeat' (with_reducible first | intro _ | refine And.intro ?_ ?_)
 rotate_left
 ·(refine (decide_eq_false fun q => ?_).symm; have q1 := q.kind; have q2 := q.hA; have q3 := q.hB; have q4 := q.len; have q5 := q.first; have q6 := q.second; have q7 := q.numbers; first | omega | (simp_all; done) | (simp_all; omega))
 first | refine aI.mk (within a.fA 0 6000) ?_ | refine aC.mk (within a.fA 0 6000) ?_ | refine aI.cJ (within a.fA 0 6000) ?_ | refine aC.mk (b5.fU (within a.fA 0 6000)) ?_
 simp -dsimp -implicitDefEqProofs only [go_sem, ↓reduceIte, Tryd.f48]
 repeat' (with_reducible first | intro _ | refine And.intro ?_ ?_)
 rotate_left
 ·(refine (decide_eq_false fun q => ?_).symm; have q1 := q.kind; have q2 := q.hA; have q3 := q.hB; have q4 := q.len; have q5 := q.first; have q6 := q.second; have q7 := q.numbers; first | omega | (simp_all; done) | (simp_all; omega))
 first | refine aI.mk (within a.fB 0 6000) ?_ | refine aC.mk (within a.fB 0 6000) ?_ | refine aI.cJ (within a.fB 0 6000) ?_ | refine aC.mk (b5.fU (within a.fB 0 6000)) ?_
 simp -dsimp -implicitDefEqProofs only [go_sem, ↓reduceIte, Tryd.f48]
 repeat' (with_reducible first | intro _ | refine And.intro ?_ ?_)
 all_goals try (refine (decide_eq_false fun q => ?_).symm; have q1 := q.kind; have q2 := q.hA; have q3 := q.hB; have q4 := q.len; have q5 := q.first; have q6 := q.second; have q7 := q.numbers; first | omega | (simp_all; done) | (simp_all; omega))
 first | refine aI.mk (jQ a.aL a.aL.length) ?_ | refine aC.mk (jQ a.aL a.aL.length) ?_ | refine aI.cJ (jQ a.aL a.aL.length) ?_ | refine aC.mk (b5.fU (jQ a.aL a.aL.length)) ?_
 simp -dsimp -implicitDefEqProofs only [go_sem, ↓reduceIte, Tryd.f48]
 by_cases hn : xN a.aL
 rotate_left
 ·simp only [hn, and_false, decide_false]
  simp -dsimp -implicitDefEqProofs only [go_sem, ↓reduceIte, Tryd.f48]
  exact (decide_eq_false fun q => hn q.num).symm
 simp only [hn, and_true, decide_true]
 simp -dsimp -implicitDefEqProofs only [go_sem, ↓reduceIte, Tryd.f48]
 first | refine aI.mk (cH a.aD) ?_ | refine aC.mk (cH a.aD) ?_ | refine aI.cJ (cH a.aD) ?_ | refine aC.mk (b5.fU (cH a.aD)) ?_
 simp -dsimp -implicitDefEqProofs only [go_sem, ↓reduceIte, Tryd.f48]
 repeat' (with_reducible first | intro _ | refine And.intro ?_ ?_)
 all_goals try (refine (decide_eq_false fun q => ?_).symm; have q1 := q.kind; have q2 := q.hA; have q3 := q.hB; have q4 := q.len; have q5 := q.first; have q6 := q.second; have q7 := q.numbers; first | omega | (simp_all; done) | (simp_all; omega))
 all_goals try (refine (decide_eq_true ?_).symm; constructor <;> first | assumption | omega | (simp_all; done) | (simp_all; omega))
 all_goals try (rw [decide_eq_decide]; constructor; { intro q; constructor <;> first | assumption | omega | (simp_all; done) | (simp_all; omega) }; { intro q; have q7 := q.numbers; first | omega | (simp_all; done) | (simp_all; omega) })
set_option maxRecDepth 100000
open Go.Proofs
set_option linter.unusedVariables false
set_option linter.unusedSimpArgs false
def bI (a : aT) : List Int := (if a.aD = 8 ∨ a.aD = 9 then [] else if a.aD = 1 then [a.fA, a.fB] else [a.fA]) ++ a.aL
noncomputable def b6 (a : aT) : List UInt8 := if a.ok then bR a.aD ++ bN (bI a) else []
theorem hU {a : aT} (h : a.ok) : ∀ n ∈ bI a, r6 n := by
 have h1 := h.hA
 have h2 := h.hB
 intro n hn
 unfold bI at hn
 rcases List.mem_append.1 hn with q | q
 ·split at q
  ·cases q
  ·split at q <;> simp at q <;> (constructor <;> omega)
 ·exact h.num n q
theorem kS {a : aT} (h : a.ok) : (bI a).length ≤ 14 := by
 have := h.len
 unfold bI
 rw [List.length_append]
 split
 ·simp; omega
 ·split <;> simp <;> omega
theorem wX {α : Type} {c : α → aA} : ∀ {l : List α} {es : List (List OV)}, OR (oP c) l es → es = l.map fun x => [OV.v (c x)]
 | [], [], _ => rfl
 |x :: l, e :: es, h => by rw [List.map_cons, ← wX h.2, h.1]
 | [], _ :: _, h => h.elim
 | _ :: _, [], h => h.elim
theorem wY {α : Type} {c : α → aA} {h g : Heap} {sz : Nat} {l : List α} {y : OV} (oy : OS (oP c) sz l y) (w : eU h y.rows g) :
  ∃ o, jY h l o ∧ y.val = mF sz l.length o ∧ g = jX h (.row sz ((l.map fun x => [c x]).map (List.map .v))) o := by
 rcases oy with ⟨rfl, rfl⟩ | ⟨n, es, rfl, hr⟩
 ·rw [OV.kN] at w
  exact ⟨none, rfl, rfl, funext fun m => w.upto m (by simp [aH])⟩
 ·have he := wX hr
  subst he
  have hn : h n = none := w.fresh n (by rw [OV.fZ]; simp [aH])
  refine ⟨some n, hn, by simp [OV.val, mF], ?_⟩
  have hrow : (OV.sl n sz (l.map fun x => [OV.v (c x)])).rows = [(n, .row sz ((l.map fun x => [c x]).map (List.map .v)))] := by
   rw [OV.fZ, iV]
   simp [OV.cells, OV.val]
  rw [hrow] at w
  funext m
  by_cases e : m = n
  ·subst e
   rw [a6, aW]
   exact w.fO (m, _) (List.mem_cons_self ..)
  ·rw [a6, aB _ _ _ _ e]
   exact w.upto m (by simp [aH, e])
theorem p9 {α : Type} {c : α → aA} {h : Heap} {n : Nat} {l : List α} {k : Nat} {R : List (List Cell)} (hn : h n = none) (hk : k = l.length) (hR : R = (l.map fun x => [c x]).map (List.map Cell.v)) : View (a7 h n (.row 1 R)) (.os n 1 0 k) (lN 1 (fun x => [c x]) l) := by
 subst hk
 subst hR
 obtain ⟨y, h1, h2, h3⟩ := grown (c := c) (sz := 1) (o := some n) (l := l) (h := h) hn
 rw [bH] at h2
 exact h2 ▸ View.ovD y (OS.e9 (fun _ _ q => pK q) h1) h3.fO
@[go_sem] def aEJ : List Nat := [0, 2]
@[go_sem] def aMH : List Nat := [3]
@[go_sem] def aMI : Marks := fun _ => ([], .nil, [])
theorem zO (l : List Int) (hl : l.length ≤ 1048576) : pM Tryd.prog 19 [lN 1 (fun n => [I n]) l] (QS (OS (oP I) 1 l)) := by
 refine yZ 6 aEJ aMH aMI mix Tryd.func19 rfl (by kernel_rfl) (by simp) fun h => ?_
 simp -dsimp -implicitDefEqProofs only [go_sem, ↓reduceIte, Tryd.f19]
 repeat' (with_reducible first | intro _ | refine And.intro ?_ ?_)
 all_goals try (first | exact aJ9 (by assumption) | exact aBM (by assumption) | exact wS (by assumption) | omega)
@[go_sem] def aEK : List Nat := [0, 2, 3, 5]
@[go_sem] def aMJ : List Nat := [22]
@[go_sem] def aMK : Marks := fun id => match id with | 2 => ([], (.op 0 (.op 1 (.op 2 (.op 3 (.op 4 (.op 5 (.op 6 (.op 7 (.op 8 (.op 9 .nil)))))))))), []) | 3 => ([4, 8, 13, 14], (.op 0 (.op 1 (.op 2 (.op 3 (.op 5 (.op 6 (.op 7 (.op 9 (.op 10 (.op 11 (.op 12 (.op 4 (.op 8 (.op 13 (.op 14 (.op 15 .nil)))))))))))))))), []) | _ => ([], .nil, [])
theorem lT (a : aT) (ha : a.ok) : dV Tryd.prog 21 [.ip 4 [a.c] 0 0] (.str (bR a.aD ++ bN (bI a))) := by
 have hk := ha.kind
 have hl := ha.len
 have hw := nW a.aD
 have hn := hU ha
 have hnl := kS ha
 simp only [aT.iI]
 have hu : ∃ u : Nat, u ≤ 2 ∧ (if a.aD = 1 then 2 else if a.aD = 8 then 0 else if a.aD = 9 then 0 else 1 : Int) = u ∧ bI a = [a.fA, a.fB].take u ++ a.aL := by
  unfold bI
  rcases (by omega : a.aD = 1 ∨ a.aD = 8 ∨ a.aD = 9 ∨ (a.aD ≠ 1 ∧ a.aD ≠ 8 ∧ a.aD ≠ 9)) with e | e | e | e
  ·exact ⟨2, by omega, by simp [e], by simp [e]⟩
  ·exact ⟨0, by omega, by simp [e], by simp [e]⟩
  ·exact ⟨0, by omega, by simp [e], by simp [e]⟩
  ·exact ⟨1, by omega, by simp [e], by simp [e]⟩
 obtain ⟨u, hu2, hue, hun⟩ := hu
 refine dS 38 aEK aMJ aMK mix Tryd.func21 rfl (by kernel_rfl) (by simp) fun h => ?_
 simp -dsimp -implicitDefEqProofs only [go_sem, ↓reduceIte, Tryd.f21]
 first | refine aI.mk ((hue ▸ gA a.aD)) ?_ | refine aC.mk ((hue ▸ gA a.aD)) ?_ | refine aI.cJ ((hue ▸ gA a.aD)) ?_ | refine aC.mk (b5.fU ((hue ▸ gA a.aD))) ?_
 simp -dsimp -implicitDefEqProofs only [go_sem, ↓reduceIte, Tryd.f21]
 repeat' (with_reducible first | intro _ | refine And.intro ?_ ?_)
 all_goals try (first | omega | decide)
 simp -dsimp -implicitDefEqProofs only [go_sem, ↓reduceIte, Tryd.f21, Option.toArray_none, Option.toArray_some, List.filterMap_cons, List.filterMap_nil, List.elem_cons_self, List.nil_append, List.append_nil, List.toList_toArray]
 repeat' (with_reducible first | intro _ | refine And.intro ?_ ?_)
 all_goals try (first | omega | decide)
 have ho : pM Tryd.prog 19 [.sl 1 (([a.fA, a.fB].map fun n => [I n]).take u) (decide (u = 2))] (QS (OS (oP I) 1 ([a.fA, a.fB].take u))) :=
  pM.sub (dZ.cons (by rw [← List.map_take]; exact Sub.loose _ _ _) dZ.nil) (zO ([a.fA, a.fB].take u) (by simp; omega))
 first | refine aI.mk (hP a.aD hk.1 hk.2) ?_ | refine aC.mk (hP a.aD hk.1 hk.2) ?_ | refine aI.cJ (hP a.aD hk.1 hk.2) ?_ | refine aC.mk (b5.fU (hP a.aD hk.1 hk.2)) ?_
 simp -dsimp -implicitDefEqProofs only [go_sem, ↓reduceIte, Tryd.f21]
 refine aI.nw ho ?_
 rintro r l_ g ⟨y, oy, rfl, rfl⟩ w1
 obtain ⟨o, ho, hv, hg⟩ := wY oy w1
 have htl : (List.take u [a.fA, a.fB]).length ≤ 2 := by simp; omega
 rw [hun] at hn hnl ⊢
 rw [hv]
 subst hg
 cases o with
 |none =>
  rw [cO] at ho
  rw [ho, List.nil_append] at hn ⊢
  simp -dsimp -implicitDefEqProofs only [go_sem, ↓reduceIte, Tryd.f21, cZ, cN]
  repeat' (with_reducible first | intro _ | refine And.intro ?_ ?_)
  all_goals try (first | omega | decide)
  all_goals refine aI.eL (uQ (bR a.aD) a.aL (by omega) (by omega) hn) (aK.cons (View.same _ _) (aK.cons ?_ aK.nil)) rfl ?_
  all_goals try (exact p9 (by assumption) rfl rfl)
  all_goals try (exact (View.same _ _).sub (by rw [show a.aL = [] by simp_all]; exact Sub.loose _ _ _))
  all_goals simp -dsimp -implicitDefEqProofs only [go_sem, ↓reduceIte, Tryd.f21]
  all_goals try (intro m; by_cases e : h m = none; { exact .inl e }; { refine .inr ?_; simp only [a7]; (repeat' split); all_goals first | rfl | (subst_vars; simp_all; done) })
 |some n =>
  rw [bC] at ho
  simp -dsimp -implicitDefEqProofs only [go_sem, ↓reduceIte, Tryd.f21, bH, a6]
  repeat' (with_reducible first | intro _ | refine And.intro ?_ ?_)
  all_goals try (first | omega | exact Nat.le_refl _ | decide)
  refine aI.eL (uQ (bR a.aD) _ (by omega) (by omega) hn) (aK.cons (View.same _ _) (aK.cons ?_ aK.nil)) rfl ?_
  ·refine p9 (by simp_all [a7]) (by rw [List.length_append]) ?_
   rw [List.take_of_length_le (by simp), List.map_append, List.map_append]
  simp -dsimp -implicitDefEqProofs only [go_sem, ↓reduceIte, Tryd.f21]
  (intro m; by_cases e : h m = none; { exact .inl e }; { refine .inr ?_; simp only [a7]; (repeat' split); all_goals first | rfl | (subst_vars; simp_all; done) })
@[go_sem] def aEL : List Nat := [0, 1, 2, 3, 4, 6, 9, 18, 24]
@[go_sem] def aML : List Nat := [1, 17, 22, 28]
@[go_sem] def aMM : Marks := fun id => match id with | 9 => ([0, 9, 10], (.op 1 (.op 2 (.op 3 (.op 6 (.op 7 (.op 8 (.op 0 (.op 4 (.op 5 (.op 9 (.op 10 (.op 11 .nil)))))))))))), []) | _ => ([], .nil, [])
theorem b2 (a : aT) (hs : a.s ≤ 1048576) : dV Tryd.prog 27 [.agg a.c] (.str (b6 a)) := by
 simp only [aT.iI]
 refine dS 41 aEL aML aMM mix Tryd.func27 rfl (by kernel_rfl) (by simp) fun h => ?_
 simp -dsimp -implicitDefEqProofs only [go_sem, ↓reduceIte, Tryd.f27]
 first | refine aI.mk (wW a hs) ?_ | refine aC.mk (wW a hs) ?_ | refine aI.cJ (wW a hs) ?_ | refine aC.mk (b5.fU (wW a hs)) ?_
 simp -dsimp -implicitDefEqProofs only [go_sem, ↓reduceIte, Tryd.f27, aT.iI]
 repeat' (with_reducible first | intro _ | refine And.intro ?_ ?_)
 ·rename_i e; rw [b6, if_neg e]
 rename_i ha
 have hk := ha.kind
 have hl := ha.len
 have hw := nW a.aD
 have hn := hU ha
 have hnl := kS ha
 first | refine aI.mk (cH a.aD) ?_ | refine aC.mk (cH a.aD) ?_ | refine aI.cJ (cH a.aD) ?_ | refine aC.mk (b5.fU (cH a.aD)) ?_
 simp -dsimp -implicitDefEqProofs only [go_sem, ↓reduceIte, Tryd.f27]
 repeat' (with_reducible first | intro _ | refine And.intro ?_ ?_)
 all_goals try (exfalso; omega)
 all_goals try (first | omega | decide)
 all_goals
  first | refine aI.mk (fP) ?_ | refine aC.mk (fP) ?_ | refine aI.cJ (fP) ?_ | refine aC.mk (b5.fU (fP)) ?_
  simp -dsimp -implicitDefEqProofs only [go_sem, ↓reduceIte, Tryd.f27]
  repeat' (with_reducible first | intro _ | refine And.intro ?_ ?_)
  all_goals try (rw [IntWalk.i64_in _ (by omega)]; omega)
  simp -dsimp -implicitDefEqProofs only [go_sem, ↓reduceIte, Tryd.f27, p8 hk.1 hk.2]
  repeat' (with_reducible first | intro _ | refine And.intro ?_ ?_)
  all_goals try (first | omega | decide)
 all_goals refine aI.eL (aBV (bR a.aD) (bI a) (by omega) (by omega) hn) (aK.cons (View.same _ _) (aK.cons ?_ aK.nil)) rfl ?_
 all_goals try (refine p9 (by simp_all [a7]) (by simp_all [bI]; try omega) (by simp_all [bI]))
 all_goals try (exact (View.same _ _).sub (by rw [show bI a = [] by simp_all [bI]]; exact Sub.loose _ _ _))
 all_goals simp -dsimp -implicitDefEqProofs only [go_sem, ↓reduceIte, Tryd.f27]
 all_goals try (refine ⟨by rw [b6, if_pos ha], ?_⟩)
 all_goals try (rw [b6, if_pos ha])
 all_goals try (intro m; by_cases e : h m = none; { exact .inl e }; { refine .inr ?_; simp only [a7]; (repeat' split); all_goals first | rfl | (subst_vars; simp_all; done) })
open Go.Proofs
set_option linter.unusedVariables false
set_option linter.unusedSimpArgs false
end Go.Hl
namespace Go.Proofs
open Go.Shelf
def Tryd.uR : Go.Shelf.Ren := ⟨fun | 145 => 22 | 220 => 46 | 219 => 63 | 217 => 74 | 225 => 75 | 224 => 76 | 267 => 77 | 266 => 86 | 314 => 87 | n => n, fun | 9 => 9 | 4 => 4 | 59 => 49 | 3 => 3 | 5 => 5 | 46 => 105 | 146 => 113 | 51 => 112 | n => n, fun | 1 => 0 | n => n⟩
theorem Tryd.aBW : Go.Proofs.Lays.n145 Tryd.prog Tryd.uR := {
 mixed := by kernel_rfl
 f145 := Tryd.func22.trans (congrArg some (by kernel_rfl))
 f217 := Tryd.func74.trans (congrArg some (by kernel_rfl))
 f219 := Tryd.func63.trans (congrArg some (by kernel_rfl))
 f220 := Tryd.func46.trans (congrArg some (by kernel_rfl))
 f224 := Tryd.func76.trans (congrArg some (by kernel_rfl))
 f225 := Tryd.func75.trans (congrArg some (by kernel_rfl))
 f266 := Tryd.func86.trans (congrArg some (by kernel_rfl))
 f267 := Tryd.func77.trans (congrArg some (by kernel_rfl))
 f314 := Tryd.func87.trans (congrArg some (by kernel_rfl))
 t3 := Tryd.underlying3
 a3 := Tryd.isAgg3
 z3 := Tryd.sizeOf3
 v3 := Tryd.zeroValue3
 t4 := Tryd.underlying4
 a4 := Tryd.isAgg4
 z4 := Tryd.sizeOf4
 v4 := Tryd.zeroValue4
 t5 := Tryd.underlying5
 a5 := Tryd.isAgg5
 z5 := Tryd.sizeOf5
 v5 := Tryd.zeroValue5
 t9 := Tryd.underlying9
 a9 := Tryd.isAgg9
 z9 := Tryd.sizeOf9
 v9 := Tryd.zeroValue9
 t46 := Tryd.underlying105
 a46 := Tryd.isAgg105
 z46 := Tryd.sizeOf105
 v46 := Tryd.zeroValue105
 t51 := Tryd.underlying112
 a51 := Tryd.isAgg112
 z51 := Tryd.sizeOf112
 v51 := Tryd.zeroValue112
 t59 := Tryd.underlying49
 a59 := Tryd.isAgg49
 z59 := Tryd.sizeOf49
 v59 := Tryd.zeroValue49
 t146 := Tryd.underlying113
 a146 := Tryd.isAgg113
 z146 := Tryd.sizeOf113
 v146 := Tryd.zeroValue113
 g1 := by kernel_rfl }
open Go.RowKit Go.Lib in
theorem Tryd.strings_Cut (s sep : ByteArray) (m : Int) (w : World) (hs : s.size < 4294967281) (hm : w.cell? ⟨0, 0, none⟩ = some (.int .i64 m)) :
  Calls Tryd.prog 22 #[.string s, .string sep] w fun e w' => e = .returned (.tuple #[.string ⟨(Lib.cut s.data.toList sep.data.toList).1.toArray⟩, .string ⟨(Lib.cut s.data.toList sep.data.toList).2.1.toArray⟩, .bool (Lib.cut s.data.toList sep.data.toList).2.2]) ∧ ∃ n, w' = w.drewN n := Any.strings_Cut Tryd.aBW s sep m w hs hm
def Tryd.uS : Go.Shelf.Ren := ⟨fun | 146 => 33 | 221 => 53 | 268 => 69 | 138 => 70 | 143 => 71 | 195 => 83 | 197 => 84 | 218 => 85 | 219 => 63 | 260 => 97 | 217 => 74 | 225 => 75 | 224 => 76 | 267 => 77 | 266 => 86 | 314 => 87 | n => n, fun | 9 => 9 | 31 => 38 | 3 => 3 | 4 => 4 | 0 => 0 | 105 => 110 | 21 => 21 | 5 => 5 | 46 => 105 | 119 => 141 | 139 => 144 | 138 => 143 | 146 => 113 | 51 => 112 | n => n, fun | 1 => 0 | 3 => 3 | 4 => 4 | n => n⟩
theorem Tryd.aBX : Go.Proofs.Lays.n146 Tryd.prog Tryd.uS := {
 mixed := by kernel_rfl
 f138 := Tryd.func70.trans (congrArg some (by kernel_rfl))
 f143 := Tryd.func71.trans (congrArg some (by kernel_rfl))
 f146 := Tryd.func33.trans (congrArg some (by kernel_rfl))
 f195 := Tryd.func83.trans (congrArg some (by kernel_rfl))
 f197 := Tryd.func84.trans (congrArg some (by kernel_rfl))
 f217 := Tryd.func74.trans (congrArg some (by kernel_rfl))
 f218 := Tryd.func85.trans (congrArg some (by kernel_rfl))
 f219 := Tryd.func63.trans (congrArg some (by kernel_rfl))
 f221 := Tryd.func53.trans (congrArg some (by kernel_rfl))
 f224 := Tryd.func76.trans (congrArg some (by kernel_rfl))
 f225 := Tryd.func75.trans (congrArg some (by kernel_rfl))
 f260 := Tryd.func97.trans (congrArg some (by kernel_rfl))
 f266 := Tryd.func86.trans (congrArg some (by kernel_rfl))
 f267 := Tryd.func77.trans (congrArg some (by kernel_rfl))
 f268 := Tryd.func69.trans (congrArg some (by kernel_rfl))
 f314 := Tryd.func87.trans (congrArg some (by kernel_rfl))
 t0 := Tryd.underlying0
 a0 := Tryd.isAgg0
 z0 := Tryd.sizeOf0
 v0 := Tryd.zeroValue0
 t3 := Tryd.underlying3
 a3 := Tryd.isAgg3
 z3 := Tryd.sizeOf3
 v3 := Tryd.zeroValue3
 t4 := Tryd.underlying4
 a4 := Tryd.isAgg4
 z4 := Tryd.sizeOf4
 v4 := Tryd.zeroValue4
 t5 := Tryd.underlying5
 a5 := Tryd.isAgg5
 z5 := Tryd.sizeOf5
 v5 := Tryd.zeroValue5
 t9 := Tryd.underlying9
 a9 := Tryd.isAgg9
 z9 := Tryd.sizeOf9
 v9 := Tryd.zeroValue9
 t21 := Tryd.underlying21
 a21 := Tryd.isAgg21
 z21 := Tryd.sizeOf21
 v21 := Tryd.zeroValue21
 t31 := Tryd.underlying38
 a31 := Tryd.isAgg38
 z31 := Tryd.sizeOf38
 v31 := Tryd.zeroValue38
 t46 := Tryd.underlying105
 a46 := Tryd.isAgg105
 z46 := Tryd.sizeOf105
 v46 := Tryd.zeroValue105
 t51 := Tryd.underlying112
 a51 := Tryd.isAgg112
 z51 := Tryd.sizeOf112
 v51 := Tryd.zeroValue112
 t105 := Tryd.underlying110
 a105 := Tryd.isAgg110
 z105 := Tryd.sizeOf110
 v105 := Tryd.zeroValue110
 t119 := Tryd.underlying141
 a119 := Tryd.isAgg141
 z119 := Tryd.sizeOf141
 t138 := Tryd.underlying143
 a138 := Tryd.isAgg143
 z138 := Tryd.sizeOf143
 v138 := Tryd.zeroValue143
 t139 := Tryd.underlying144
 a139 := Tryd.isAgg144
 z139 := Tryd.sizeOf144
 v139 := Tryd.zeroValue144
 t146 := Tryd.underlying113
 a146 := Tryd.isAgg113
 z146 := Tryd.sizeOf113
 v146 := Tryd.zeroValue113
 g1 := by kernel_rfl
 g3 := by kernel_rfl
 g4 := by kernel_rfl }
open Go.RowKit Go.Lib in
theorem Tryd.strings_Split (s sep : ByteArray) (m : Int) (w : World) (hs : s.size < 4294967281) (hm : w.cell? ⟨0, 0, none⟩ = some (.int .i64 m)) (h1 : 1 ≤ sep.size) :
  Calls Tryd.prog 33 #[.string s, .string sep] w fun e w' =>
   e = .returned (.slice (some ⟨w.heap.size, 0, none⟩) (Lib.countB s sep + 1) (Lib.countB s sep + 1)) ∧ w' = w.alloc (.cells ((Lib.splitB sep 0 (Lib.countB s sep) s).map Value.string).toArray 9) := Any.strings_Split Tryd.aBX (by kernel_rfl) s sep m w hs hm h1
def Tryd.sG : Go.Shelf.Ren := ⟨fun | 174 => 64 | 247 => 78 | 245 => 79 | 287 => 88 | 279 => 89 | 280 => 90 | 281 => 91 | 282 => 92 | 321 => 98 | 322 => 99 | 316 => 100 | 171 => 102 | 205 => 101 | 243 => 109 | 246 => 93 | 283 => 103 | 284 => 104 | 285 => 105 | 286 => 106 | 129 => 111 | 317 => 110 | 318 => 112 | 319 => 113 | 320 => 114 | 337 => 117 | 338 => 118 | n => n, fun | 9 => 9 | 3 => 3 | 2 => 2 | 75 => 95 | 85 => 96 | 4 => 4 | 167 => 115 | 5 => 5 | 53 => 116 | 175 => 117 | 46 => 105 | 168 => 119 | 37 => 102 | 0 => 0 | 210 => 132 | 21 => 21 | 127 => 140 | 145 => 147 | 143 => 145 | 171 => 135 | 173 => 138 | 212 => 149 | 51 => 112 | 20 => 20 | 213 => 150 | 232 => 157 | 233 => 158 | 80 => 128 | n => n, fun | 15 => 1 | 16 => 2 | 17 => 5 | 18 => 6 | 19 => 7 | n => n⟩
theorem Tryd.qA : Go.Proofs.LaysC.n174 Tryd.prog Tryd.sG := {
 mixed := by kernel_rfl
 f129 := Tryd.func111.trans (congrArg some (by kernel_rfl))
 f171 := Tryd.func102.trans (congrArg some (by kernel_rfl))
 f174 := Tryd.func64.trans (congrArg some (by kernel_rfl))
 f205 := Tryd.func101.trans (congrArg some (by kernel_rfl))
 f243 := Tryd.func109.trans (congrArg some (by kernel_rfl))
 f245 := Tryd.func79.trans (congrArg some (by kernel_rfl))
 f246 := Tryd.func93.trans (congrArg some (by kernel_rfl))
 f247 := Tryd.func78.trans (congrArg some (by kernel_rfl))
 f279 := Tryd.func89.trans (congrArg some (by kernel_rfl))
 f280 := Tryd.func90.trans (congrArg some (by kernel_rfl))
 f281 := Tryd.func91.trans (congrArg some (by kernel_rfl))
 f282 := Tryd.func92.trans (congrArg some (by kernel_rfl))
 f283 := Tryd.func103.trans (congrArg some (by kernel_rfl))
 f284 := Tryd.func104.trans (congrArg some (by kernel_rfl))
 f285 := Tryd.func105.trans (congrArg some (by kernel_rfl))
 f286 := Tryd.func106.trans (congrArg some (by kernel_rfl))
 f287 := Tryd.func88.trans (congrArg some (by kernel_rfl))
 f316 := Tryd.func100.trans (congrArg some (by kernel_rfl))
 f317 := Tryd.func110.trans (congrArg some (by kernel_rfl))
 f318 := Tryd.func112.trans (congrArg some (by kernel_rfl))
 f319 := Tryd.func113.trans (congrArg some (by kernel_rfl))
 f320 := Tryd.func114.trans (congrArg some (by kernel_rfl))
 f321 := Tryd.func98.trans (congrArg some (by kernel_rfl))
 f322 := Tryd.func99.trans (congrArg some (by kernel_rfl))
 f337 := Tryd.func117.trans (congrArg some (by kernel_rfl))
 f338 := Tryd.func118.trans (congrArg some (by kernel_rfl))
 t0 := Tryd.underlying0
 a0 := Tryd.isAgg0
 z0 := Tryd.sizeOf0
 v0 := Tryd.zeroValue0
 t2 := Tryd.underlying2
 a2 := Tryd.isAgg2
 z2 := Tryd.sizeOf2
 v2 := Tryd.zeroValue2
 t3 := Tryd.underlying3
 a3 := Tryd.isAgg3
 z3 := Tryd.sizeOf3
 v3 := Tryd.zeroValue3
 t4 := Tryd.underlying4
 a4 := Tryd.isAgg4
 z4 := Tryd.sizeOf4
 v4 := Tryd.zeroValue4
 t5 := Tryd.underlying5
 a5 := Tryd.isAgg5
 z5 := Tryd.sizeOf5
 v5 := Tryd.zeroValue5
 t9 := Tryd.underlying9
 a9 := Tryd.isAgg9
 z9 := Tryd.sizeOf9
 v9 := Tryd.zeroValue9
 t20 := Tryd.underlying20
 a20 := Tryd.isAgg20
 z20 := Tryd.sizeOf20
 v20 := Tryd.zeroValue20
 t21 := Tryd.underlying21
 a21 := Tryd.isAgg21
 z21 := Tryd.sizeOf21
 v21 := Tryd.zeroValue21
 t37 := Tryd.underlying102
 a37 := Tryd.isAgg102
 z37 := Tryd.sizeOf102
 v37 := Tryd.zeroValue102
 t46 := Tryd.underlying105
 a46 := Tryd.isAgg105
 z46 := Tryd.sizeOf105
 v46 := Tryd.zeroValue105
 t51 := Tryd.underlying112
 a51 := Tryd.isAgg112
 z51 := Tryd.sizeOf112
 v51 := Tryd.zeroValue112
 t53 := Tryd.underlying116
 a53 := Tryd.isAgg116
 z53 := Tryd.sizeOf116
 v53 := Tryd.zeroValue116
 t75 := Tryd.underlying95
 a75 := Tryd.isAgg95
 z75 := Tryd.sizeOf95
 v75 := Tryd.zeroValue95
 t85 := Tryd.underlying96
 a85 := Tryd.isAgg96
 z85 := Tryd.sizeOf96
 v85 := Tryd.zeroValue96
 t127 := Tryd.underlying140
 a127 := Tryd.isAgg140
 z127 := Tryd.sizeOf140
 v127 := Tryd.zeroValue140
 t143 := Tryd.underlying145
 a143 := Tryd.isAgg145
 z143 := Tryd.sizeOf145
 v143 := Tryd.zeroValue145
 t145 := Tryd.underlying147
 a145 := Tryd.isAgg147
 z145 := Tryd.sizeOf147
 v145 := Tryd.zeroValue147
 t167 := Tryd.underlying115
 a167 := Tryd.isAgg115
 z167 := Tryd.sizeOf115
 v167 := Tryd.zeroValue115
 t168 := Tryd.underlying119
 a168 := Tryd.isAgg119
 z168 := Tryd.sizeOf119
 v168 := Tryd.zeroValue119
 t171 := Tryd.underlying135
 a171 := Tryd.isAgg135
 z171 := Tryd.sizeOf135
 v171 := Tryd.zeroValue135
 t173 := Tryd.underlying138
 a173 := Tryd.isAgg138
 z173 := Tryd.sizeOf138
 v173 := Tryd.zeroValue138
 t175 := Tryd.underlying117
 a175 := Tryd.isAgg117
 z175 := Tryd.sizeOf117
 v175 := Tryd.zeroValue117
 t210 := Tryd.underlying132
 a210 := Tryd.isAgg132
 z210 := Tryd.sizeOf132
 v210 := Tryd.zeroValue132
 t212 := Tryd.underlying149
 a212 := Tryd.isAgg149
 z212 := Tryd.sizeOf149
 v212 := Tryd.zeroValue149
 t213 := Tryd.underlying150
 a213 := Tryd.isAgg150
 z213 := Tryd.sizeOf150
 t232 := Tryd.underlying157
 a232 := Tryd.isAgg157
 z232 := Tryd.sizeOf157
 v232 := Tryd.zeroValue157
 t233 := Tryd.underlying158
 a233 := Tryd.isAgg158
 z233 := Tryd.sizeOf158
 v233 := Tryd.zeroValue158
 g15 := by kernel_rfl
 g16 := by kernel_rfl
 g17 := by kernel_rfl
 g18 := by kernel_rfl
 g19 := by kernel_rfl
 t80 := Tryd.underlying128
 a80 := Tryd.isAgg128
 z80 := Tryd.sizeOf128
 v80 := Tryd.zeroValue128
 i0 := by kernel_rfl
 i2 := by kernel_rfl
 i3 := by kernel_rfl
 i4 := by kernel_rfl
 i5 := by kernel_rfl
 i9 := by kernel_rfl
 i20 := by kernel_rfl
 i21 := by kernel_rfl
 i37 := by kernel_rfl
 i46 := by kernel_rfl
 i51 := by kernel_rfl
 i53 := by kernel_rfl
 i75 := by kernel_rfl
 i80 := by kernel_rfl
 i85 := by kernel_rfl
 i127 := by kernel_rfl
 i143 := by kernel_rfl
 i145 := by kernel_rfl
 i167 := by kernel_rfl
 i168 := by kernel_rfl
 i171 := by kernel_rfl
 i173 := by kernel_rfl
 i175 := by kernel_rfl
 i210 := by kernel_rfl
 i212 := by kernel_rfl
 i232 := by kernel_rfl
 i233 := by kernel_rfl
 m15 := by kernel_rfl
 m16 := by kernel_rfl
 m17 := by kernel_rfl
 m18 := by kernel_rfl
 m19 := by kernel_rfl
 c0 := by kernel_rfl
 c2 := by kernel_rfl
 c3 := by kernel_rfl
 c4 := by kernel_rfl
 c5 := by kernel_rfl
 c9 := by kernel_rfl
 c20 := by kernel_rfl
 c21 := by kernel_rfl
 c37 := by kernel_rfl
 c46 := by kernel_rfl
 c51 := by kernel_rfl
 c53 := by kernel_rfl
 c75 := by kernel_rfl
 c80 := by kernel_rfl
 c85 := by kernel_rfl
 c127 := by kernel_rfl
 c143 := by kernel_rfl
 c145 := by kernel_rfl
 c167 := by kernel_rfl
 c168 := by kernel_rfl
 c171 := by kernel_rfl
 c173 := by kernel_rfl
 c175 := by kernel_rfl
 c210 := by kernel_rfl
 c212 := by kernel_rfl
 c213 := by kernel_rfl
 c232 := by kernel_rfl
 c233 := by kernel_rfl }
open Go.RowKit in
theorem Tryd.strconv_ParseInt_10_at64_ok (s : ByteArray) (hmax : s.size ≤ 9223372036854775806) (v : Int) (h : Lib.parseIntB 64 s.data.toList = .ok v) (w : World) :
  Calls Tryd.prog 64 #[.string s, .int .i64 10, .int .i64 64] w fun e w' => e = .returned (.tuple #[.int .i64 v, .nilIface]) ∧ (w' = w ∨ ∃ t, w' = Lib.bytesWorld w 5 t) := Any.strconv_ParseInt_10_at64_ok Tryd.qA s hmax v h w
open Go.RowKit in
theorem Tryd.strconv_ParseInt_10_at64_syntax (s : ByteArray) (hlim : s.size ≤ 281474976710656) (h : Lib.parseIntB 64 s.data.toList = .«syntax») (ev : Value) (w : World) (hv : w.cell? ⟨1, 0, none⟩ = some ev) (nK : ev = .nilIface ∨ ∃ te pe, ev = .iface te pe) :
  Calls Tryd.prog 64 #[.string s, .int .i64 10, .int .i64 64] w fun e w' => ∃ N, e = .returned (.tuple #[.int .i64 (0), .iface 119 (.pointer (some ⟨N, 0, none⟩))]) ∧ w.heap.size ≤ N ∧ w'.heap[N]? = some (.cells #[.string ⟨#[80, 97, 114, 115, 101, 73, 110, 116]⟩, .string s, ev] 132 (0, 0)) ∧ Below w.heap.size w w' := Any.strconv_ParseInt_10_at64_syntax Tryd.qA s hlim h ev w hv nK
open Go.RowKit in
theorem Tryd.strconv_ParseInt_10_at64_range (s : ByteArray) (hlim : s.size ≤ 281474976710656) (h : Lib.parseIntB 64 s.data.toList = .range) (ev : Value) (w : World) (hv : w.cell? ⟨2, 0, none⟩ = some ev) (nK : ev = .nilIface ∨ ∃ te pe, ev = .iface te pe) :
  Calls Tryd.prog 64 #[.string s, .int .i64 10, .int .i64 64] w fun e w' => ∃ N, e = .returned (.tuple #[.int .i64 (Lib.intSat 64 s.data.toList), .iface 119 (.pointer (some ⟨N, 0, none⟩))]) ∧ w.heap.size ≤ N ∧ w'.heap[N]? = some (.cells #[.string ⟨#[80, 97, 114, 115, 101, 73, 110, 116]⟩, .string s, ev] 132 (0, 0)) ∧ Below w.heap.size w w' := Any.strconv_ParseInt_10_at64_range Tryd.qA s hlim h ev w hv nK
def Tryd.uT : Go.Shelf.Ren := ⟨fun | 109 => 23 | n => n, fun | 31 => 38 | 9 => 9 | 3 => 3 | 0 => 0 | 4 => 4 | n => n, fun | n => n⟩
theorem Tryd.wZ : Go.Proofs.Lays.n109 Tryd.prog Tryd.uT := {
 mixed := by kernel_rfl
 f109 := Tryd.func23.trans (congrArg some (by kernel_rfl))
 t0 := Tryd.underlying0
 a0 := Tryd.isAgg0
 z0 := Tryd.sizeOf0
 v0 := Tryd.zeroValue0
 t3 := Tryd.underlying3
 a3 := Tryd.isAgg3
 z3 := Tryd.sizeOf3
 v3 := Tryd.zeroValue3
 t4 := Tryd.underlying4
 a4 := Tryd.isAgg4
 z4 := Tryd.sizeOf4
 v4 := Tryd.zeroValue4
 t9 := Tryd.underlying9
 a9 := Tryd.isAgg9
 z9 := Tryd.sizeOf9
 v9 := Tryd.zeroValue9
 t31 := Tryd.underlying38
 a31 := Tryd.isAgg38
 z31 := Tryd.sizeOf38
 v31 := Tryd.zeroValue38 }
open Go.Lib in
theorem Tryd.slices_Index_string (b off n c : Nat) (zs : List ByteArray) (x : ByteArray) (w : World) (hz : n ≤ zs.length) (hbig : n ≤ 9223372036854775807) (hc : ∀ j, j < zs.length → w.cell? ⟨b, off + j, none⟩ = some (.string (zs.getD j ByteArray.empty))) :
  Calls Tryd.prog 23 #[.slice (some ⟨b, off, none⟩) n c, .string x] w fun e w' => e = .returned (.int .i64 (Lib.idxOfS (zs.take n) x)) ∧ w' = w := Any.slices_Index_string Tryd.wZ b off n c zs x w hz hbig hc
open Go.Lib in
theorem Tryd.slices_Index_string_empty (a : Option Addr) (c : Nat) (x : ByteArray) (w : World) :
  Calls Tryd.prog 23 #[.slice a 0 c, .string x] w fun e w' => e = .returned (.int .i64 (Lib.idxOfS [] x)) ∧ w' = w := Any.slices_Index_string_empty Tryd.wZ a c x w
end Go.Proofs
namespace Go.Hl
end Go.Hl

/-
  Contracts of functions and laws of the layer over the walk.
-/
import Derived.Test.YtoomflalicffnaaGreatHlD
import Derived.Test.YtoomflalicffnaaGreatProg
import Derived.KernelRfl
namespace Go.Hl
open Go.Proofs
set_option linter.unusedVariables false
set_option linter.unusedSimpArgs false
@[go_sem] theorem ty2 : gH Tryz.prog 2 = some ⟨1, false, 8, [.int .i64 0], .int .i64⟩ := by kernel_rfl
@[go_sem] theorem ty3 : gH Tryz.prog 3 = some ⟨1, false, 8, [.int .i64 0], .int .i64⟩ := by kernel_rfl
@[go_sem] theorem ty4 : gH Tryz.prog 4 = some ⟨1, false, 1, [.bool false], .bool⟩ := by kernel_rfl
@[go_sem] theorem ty5 : gH Tryz.prog 5 = some ⟨1, false, 1, [.int .u8 0], .int .u8⟩ := by kernel_rfl
@[go_sem] theorem ty9 : gH Tryz.prog 9 = some ⟨1, false, 16, [.str []], .str⟩ := by kernel_rfl
@[go_sem] theorem bE3 : gH Tryz.prog 22 = some ⟨1, false, 24, [.bO], .slice 140⟩ := by kernel_rfl
@[go_sem] theorem bE4 : gH Tryz.prog 24 = some ⟨1, true, 24, [.bO], .st [(0, 22, 1)]⟩ := by kernel_rfl
@[go_sem] theorem bE5 : gH Tryz.prog 25 = some ⟨1, false, 24, [.bO], .slice 2⟩ := by kernel_rfl
@[go_sem] theorem bE6 : gH Tryz.prog 27 = some ⟨1, false, 24, [.bO], .slice 25⟩ := by kernel_rfl
@[go_sem] theorem bE7 : gH Tryz.prog 30 = some ⟨1, false, 24, [.bO], .slice 77⟩ := by kernel_rfl
@[go_sem] theorem bE8 : gH Tryz.prog 32 = some ⟨1, true, 24, [.bO], .st [(0, 30, 1)]⟩ := by kernel_rfl
@[go_sem] theorem bE9 : gH Tryz.prog 45 = some ⟨1, false, 24, [.bO], .slice 5⟩ := by kernel_rfl
@[go_sem] theorem bFA : gH Tryz.prog 52 = some ⟨1, false, 24, [.bO], .slice 126⟩ := by kernel_rfl
@[go_sem] theorem bFB : gH Tryz.prog 53 = some ⟨1, false, 24, [.bO], .slice 213⟩ := by kernel_rfl
@[go_sem] theorem bFC : gH Tryz.prog 55 = some ⟨4, true, 80, [.int .i64 0, .bO, .bO, .bO], .st [(0, 2, 1), (1, 52, 1), (2, 53, 1), (3, 25, 1)]⟩ := by kernel_rfl
@[go_sem] theorem bFD : gH Tryz.prog 73 = some ⟨1, false, 8, [.iE], .ptr 32⟩ := by kernel_rfl
@[go_sem] theorem bFE : gH Tryz.prog 75 = some ⟨1, false, 24, [.bO], .slice 173⟩ := by kernel_rfl
@[go_sem] theorem bFF : gH Tryz.prog 77 = some ⟨3, true, 48, [.str [], .int .i64 0, .bO], .st [(0, 9, 1), (1, 2, 1), (2, 75, 1)]⟩ := by kernel_rfl
@[go_sem] theorem bFG : gH Tryz.prog 88 = some ⟨1, false, 24, [.bO], .slice 27⟩ := by kernel_rfl
@[go_sem] theorem bDY : gH Tryz.prog 104 = some ⟨1, false, 8, [.iE], .ptr 165⟩ := by kernel_rfl
@[go_sem] theorem bDZ : gH Tryz.prog 123 = some ⟨8, true, 144, [.bO, .int .i64 0, .bO, .bO, .bO, .bO, .int .i64 0, .int .i64 0], .st [(0, 32, 1), (1, 55, 4), (5, 25, 1), (6, 2, 1), (7, 2, 1)]⟩ := by kernel_rfl
@[go_sem] theorem bD0 : gH Tryz.prog 126 = some ⟨4, true, 32, [.int .i64 0, .int .i64 0, .int .i64 0, .int .i64 0], .st [(0, 2, 1), (1, 2, 1), (2, 2, 1), (3, 2, 1)]⟩ := by kernel_rfl
@[go_sem] theorem bD1 : gH Tryz.prog 138 = some ⟨1, false, 24, [.bO], .slice 219⟩ := by kernel_rfl
@[go_sem] theorem bD2 : gH Tryz.prog 140 = some ⟨3, true, 48, [.str [], .int .i64 0, .bO], .st [(0, 9, 1), (1, 2, 1), (2, 138, 1)]⟩ := by kernel_rfl
@[go_sem] theorem bD3 : gH Tryz.prog 143 = some ⟨6, true, 112, [.iE, .int .i64 0, .bO, .bO, .bO, .bO], .st [(0, 73, 1), (1, 55, 4), (5, 25, 1)]⟩ := by kernel_rfl
@[go_sem] theorem bD4 : gH Tryz.prog 158 = some ⟨4, true, 32, [.iE, .int .i64 0, .int .i64 0, .int .i64 0], .st [(0, 73, 1), (1, 3, 1), (2, 2, 1), (3, 2, 1)]⟩ := by kernel_rfl
@[go_sem] theorem bD5 : gH Tryz.prog 163 = some ⟨1, false, 8, [.int .u64 0], .int .u64⟩ := by kernel_rfl
@[go_sem] theorem bD6 : gH Tryz.prog 165 = some ⟨3, true, 40, [.bO, .int .i64 0, .int .u64 0], .st [(0, 45, 1), (1, 3, 1), (2, 163, 1)]⟩ := by kernel_rfl
@[go_sem] theorem bD7 : gH Tryz.prog 167 = some ⟨1, false, 24, [.bO], .slice 9⟩ := by kernel_rfl
@[go_sem] theorem bD8 : gH Tryz.prog 171 = some ⟨4, true, 32, [.iE, .iE, .int .i64 0, .bool false], .st [(0, 104, 1), (1, 73, 1), (2, 2, 1), (3, 4, 1)]⟩ := by kernel_rfl
@[go_sem] theorem bD9 : gH Tryz.prog 173 = some ⟨5, true, 56, [.int .i64 0, .int .i64 0, .int .i64 0, .int .i64 0, .bO], .st [(0, 2, 1), (1, 2, 1), (2, 2, 1), (3, 2, 1), (4, 75, 1)]⟩ := by kernel_rfl
@[go_sem] theorem bEA : gH Tryz.prog 192 = some ⟨4, true, 48, [.bO, .int .i64 0, .int .i64 0, .int .i64 0], .st [(0, 32, 1), (1, 3, 1), (2, 2, 1), (3, 2, 1)]⟩ := by kernel_rfl
@[go_sem] theorem bEB : gH Tryz.prog 213 = some ⟨2, true, 16, [.int .i64 0, .bool false], .st [(0, 2, 1), (1, 4, 1)]⟩ := by kernel_rfl
@[go_sem] theorem bEC : gH Tryz.prog 219 = some ⟨5, true, 56, [.int .i64 0, .int .i64 0, .int .i64 0, .int .i64 0, .bO], .st [(0, 2, 1), (1, 2, 1), (2, 2, 1), (3, 2, 1), (4, 138, 1)]⟩ := by kernel_rfl
@[go_sem] theorem bED : gH Tryz.prog 227 = some ⟨2, true, 32, [.bO, .int .i64 0], .st [(0, 32, 1), (1, 2, 1)]⟩ := by kernel_rfl
@[go_sem] def bD : Marks := fun _ => ([], .nil, [])
@[go_sem] def bT : List Nat := []
@[go_sem] def aAH : List Nat := [0, 2]
@[go_sem] def aAI : List Nat := [0, 1, 4]
@[go_sem] def aML : List Nat := [2]
@[go_sem] def aAJ : List Nat := [1]
@[go_sem] def wN : List Nat := [0, 2, 3, 4, 11]
@[go_sem] def tI : List Nat := [0, 1, 4, 5, 9]
@[go_sem] def aMM : List Nat := [0, 1, 2, 3]
@[go_sem] def aJ0 : List Nat := [0, 1, 4, 5, 6, 11]
@[go_sem] def aJ1 : List Nat := [3]
@[go_sem] def aFS : List Nat := [0, 1, 4, 5, 10, 14, 26]
@[go_sem] def aFT : Marks := fun id => match id with | 6 => ([], (.op 0 (.op 1 (.op 2 (.op 3 (.op 4 (.op 5 (.op 6 (.op 7 (.op 8 (.op 9 .nil)))))))))), []) | _ => ([], .nil, [])
@[go_sem] def aSN : List Nat := [2, 3]
@[go_sem] def aZH : List Nat := [0, 1, 2, 4]
@[go_sem] def aZI : List Nat := [0, 1, 2, 6]
@[go_sem] def aOD : List Nat := [0, 1, 4, 5, 7, 8, 9, 16]
@[go_sem] def aOE : List Nat := [0, 1, 2, 3, 5, 7, 8, 9, 10]
@[go_sem] def aZJ : List Nat := [5]
@[go_sem] def aOF : List Nat := [0, 1, 4, 5, 6, 11, 12, 13]
@[go_sem] def aOG : List Nat := [0, 1, 2, 6, 7, 9, 11, 12, 13, 14]
@[go_sem] def aOH : List Nat := [10, 22]
@[go_sem] def aOI : List Nat := [0, 1, 2, 6, 7, 8, 16]
@[go_sem] def aOJ : List Nat := [9, 29]
@[go_sem] def aA8 : List Nat := [0, 1, 2, 6, 7, 8, 9, 10, 18, 49, 67]
@[go_sem] def aA9 : List Nat := [11, 31]
@[go_sem] def aBA : Marks := fun id => match id with | 6 => ([3], (.op 0 (.op 1 (.op 2 (.op 7 (.op 8 (.op 9 (.op 10 (.op 3 (.op 4 (.op 5 (.op 6 (.op 11 (.op 12 .nil))))))))))))), []) | 8 => ([11], (.op 0 (.op 1 (.op 2 (.op 3 (.op 4 (.op 5 (.op 6 (.op 7 (.op 8 (.op 9 (.op 10 (.op 11 (.op 12 .nil))))))))))))), []) | _ => ([], .nil, [])
@[go_sem] def aOK : List Nat := [0, 1, 2, 4, 6]
@[go_sem] def aOL : List Nat := [0, 1, 4, 5, 11, 15, 25]
@[go_sem] def aZK : List Nat := [0, 1, 2, 4, 10]
@[go_sem] def aDC : List Nat := [4]
theorem mix : Tryz.prog.follows .mixedOrders = true := by kernel_rfl
abbrev I (n : Int) : aD := .int .i64 n
abbrev ints (l : List Int) : aD := .sl 1 (l.map fun n => [I n]) false
abbrev dB {α : Type} (sz : Nat) (c : α → List aD) (l : List α) : aD := .sl sz (l.map c) false
def InI (n : Int) : Prop := -9223372036854775808 ≤ n ∧ n ≤ 9223372036854775807
def lft (left : Int) (n : Nat) : Int := if left - n < 0 then -1 else left - n
theorem pU (left : Int) (n : Nat) : (lft left n = -1 ∧ left - n < 0) ∨ (lft left n = left - n ∧ 0 ≤ left - n) := by
 unfold lft; split
 ·exact .inl ⟨rfl, by assumption⟩
 ·exact .inr ⟨rfl, by omega⟩
theorem tJ {left : Int} {n : Nat} (h : left - n < 0) : lft left n = -1 := if_pos h
theorem yN {left : Int} {n : Nat} (h : 0 ≤ left - n) : lft left n = left - n := if_neg (by omega)
theorem aJ2 {left L : Int} {n : Nat} (h : lft left n = L) : (L < 0 → left - n < 0) ∧ (¬ L < 0 → L = left - n) := by
 subst h; unfold lft; split <;> constructor <;> intros <;> omega
theorem gY {α : Type} (s : α → Nat) (l : List α) (k : Nat) (h : k < l.length) : ((l.take (k + 1)).map s).sum = ((l.take k).map s).sum + s l[k] := by
 rw [List.take_succ_eq_append_getElem h, List.map_append, List.sum_append]; simp only [List.map_cons, List.map_nil, List.sum_cons, List.sum_nil, Nat.add_zero]
theorem mT {α : Type} (s : α → Nat) : ∀ (l : List α) (k : Nat), ((l.take k).map s).sum ≤ (l.map s).sum
 | [], k => by simp
 |a :: l, 0 => by simp
 |a :: l, k + 1 => by have := mT s l k; simp only [List.take_succ_cons, List.map_cons, List.sum_cons]; omega
theorem pH {α : Type} (s : α → Nat) {l : List α} {x : α} (h : x ∈ l) : s x ≤ (l.map s).sum := by
 induction l with
 |nil => simp at h
 |cons a l ih =>
  simp only [List.map_cons, List.sum_cons]
  rcases List.mem_cons.1 h with rfl | h
  ·omega
  ·have := ih h; omega
def lX {α : Type} (f : α → List aD) (z : List aD) (a : List α) (k : Nat) : List (List Cell) := ((a.take k).map f ++ List.replicate (a.length - k) z).map (List.map .v)
theorem q0 {α : Type} (f : α → List aD) (z : List aD) (a : List α) : lX f z a 0 = List.map (List.map .v) (List.replicate a.length z) := by simp [lX]
theorem tK {α : Type} (f : α → List aD) (z : List aD) (a : List α) : lX f z a a.length = (a.map f).map (List.map .v) := by simp [lX]
theorem nY {α : Type} (f : α → List aD) (z : List aD) (a : List α) (k : Nat) (h : k < a.length) : (lX f z a k)[k]? = some (z.map .v) := by
 have : ((a.take k).map f).length = k := by simp; omega
 simp only [lX, List.getElem?_map]
 rw [List.getElem?_append_right (by omega), this]
 have h0 : 0 < a.length - k := by omega
 simp [h0]
theorem aMN {α : Type} (f : α → List aD) (z : List aD) (a : List α) (k : Nat) (h : k < a.length) (e : List Cell) (he : e = (f a[k]).map .v) : (lX f z a k).set k e = lX f z a (k + 1) := by
 subst he
 have h1 : ((a.take k).map f).length = k := by simp; omega
 simp only [lX]
 rw [← List.map_set, List.set_append_right _ _ (by omega), h1, Nat.sub_self, List.take_succ_eq_append_getElem h, show a.length - k = (a.length - (k + 1)) + 1 by omega, List.replicate_succ, List.set_cons_zero]
 simp only [List.map_append, List.map_cons, List.map_nil, List.append_assoc, List.cons_append, List.nil_append]
theorem aBX {α : Type} {f : α → List aD} {z : List aD} {a : List α} {k : Nat} {h : aB} {n sz : Nat} {e : List Cell} (hk : k < a.length) (he : e = (f a[k]).map .v) :
  (a5 h n (.row sz (lX f z a (k + 1)))).le (a5 (a5 h n (.row sz (lX f z a k))) n (.row sz ((lX f z a k).set k e))) := by
 rw [aMN f z a k hk e he, aK]
 exact aB.le_refl _
theorem cB (h : aB) (n m : Nat) (o : bL) : a5 h n o m = if m = n then some o else h m := rfl
theorem getElem_of_eq {α : Type} {a b : List α} (e : a = b) {k : Nat} (ha : k < a.length) {hb : k < b.length} : a[k] = b[k] := by subst e; rfl
theorem wB {α : Type} {a b : List α} {k : Nat} (ha : k < a.length) (hb : k < b.length) (hp : a.take k = b.take k) (he : a[k] = b[k]) : a.take (k + 1) = b.take (k + 1) := by
 rw [List.take_succ_eq_append_getElem ha, List.take_succ_eq_append_getElem hb, hp, he]
theorem tL {α : Type} {a b : List α} (hl : a.length = b.length) (h : a.take a.length = b.take a.length) : a = b := by
 rw [List.take_length, hl, List.take_length] at h; exact h
theorem lF (l : List (List aD)) : dR (l.map (List.map .v)) = l := by
 induction l with
 |nil => rfl
 |cons e l ih =>
  have : zW (e.map Cell.v) = e := by
   induction e with
   |nil => rfl
   |cons x e ih => simp only [List.map_cons, zW, Cell.val, ih]
  simp only [dR, List.map_cons] at ih ⊢
  rw [ih, this]
theorem nZ {h h' : aB} {n sz : Nat} (es : List (List aD)) (h0 : h n = none) (hl : (a5 h n (.row sz (es.map (List.map .v)))).le h') (len : Nat) (e : len = es.length) : Shift (.os n sz 0 len) h' (.sl sz es false) h := by
 subst e
 refine (Shift.of (Sub.refl _) hl).trans ((Shift.c9 (aH _ _ _) (by simp [eF])).trans ?_)
 have : aD.c9 n (dR (es.map (List.map .v))) (.os n sz 0 es.length) = .sl sz es false := by simp [aD.c9, lF]
 rw [this]
 exact bQ ((bF h0).2 ((bF h0).2 (aB.le_refl h)))
theorem bY {α β : Type} {f : α → β} {l : List α} {k : Nat} (h : k < l.length) : (l.map f)[k]? = some (f l[k]) := by
 rw [List.getElem?_map, List.getElem?_eq_getElem h]; rfl
theorem qA {α : Type} {P : α → Prop} {l : List α} {k : Nat} (h : k < l.length) (hp : ∀ x ∈ l.take k, P x) (he : P l[k]) : ∀ x ∈ l.take (k + 1), P x := by
 rw [List.take_succ_eq_append_getElem h]
 intro x hx
 rcases List.mem_append.1 hx with hx | hx
 ·exact hp x hx
 ·rw [List.mem_singleton.1 hx]; exact he
def idxOf {α : Type} (p : α → Bool) (l : List α) : Int := match l.findIdx? p with | some i => i | none => -1
theorem tM {α : Type} {p : α → Bool} {l : List α} (h : ∀ x ∈ l, p x = false) : idxOf p l = -1 := by
 have : l.findIdx? p = none := List.findIdx?_eq_none_iff.2 h
 simp only [idxOf, this]
theorem tN {α : Type} {p : α → Bool} {l : List α} {k : Nat} (hk : k < l.length) (h : ∀ x ∈ l.take k, p x = false) (he : p l[k] = true) : idxOf p l = k := by
 have : l.findIdx? p = some k := by
  rw [List.findIdx?_eq_some_iff_getElem]
  refine ⟨hk, he, fun j hj => ?_⟩
  have := h l[j] (List.mem_take_iff_getElem.2 ⟨j, by omega, rfl⟩)
  simp [this]
 simp only [idxOf, this]
theorem pI {α : Type} {p : α → Bool} {l : List α} : decide (0 ≤ idxOf p l) = l.any p := by
 unfold idxOf
 cases h : l.findIdx? p with
 |none =>
  have := List.findIdx?_eq_none_iff.1 h
  simp only
  rw [Bool.eq_false_iff.2 (show l.any p ≠ true from ?_)]
  ·simp
  ·intro hx
   obtain ⟨x, hx, hp⟩ := List.any_eq_true.1 hx
   rw [this x hx] at hp; cases hp
 |some i =>
  obtain ⟨hi, hp, _⟩ := List.findIdx?_eq_some_iff_getElem.1 h
  have : l.any p = true := List.any_eq_true.2 ⟨_, List.getElem_mem hi, hp⟩
  rw [this]; simp
def iI (n : Int) : Prop := 0 ≤ n ∧ n ≤ 1000002
instance (n : Int) : Decidable (iI n) := inferInstanceAs (Decidable (0 ≤ n ∧ n ≤ 1000002))
def dP (l : List Int) : Prop := ∀ x ∈ l, iI x
instance (l : List Int) : Decidable (dP l) := inferInstanceAs (Decidable (∀ x ∈ l, iI x))
theorem aWK {α : Type} {P : α → Prop} [DecidablePred P] {l : List α} [Decidable (∀ x ∈ l, P x)] : (!l.any fun x => !decide (P x)) = decide (∀ x ∈ l, P x) := by
 rw [Bool.eq_iff_iff]
 simp [List.any_eq_false]
inductive aA where
 |mk (aQ : Int) (aW : Int) (b7 : Int) (bV : Int) (aI : (List aA))
def aA.aQ : aA → Int
 | .mk aQ aW b7 bV aI => aQ
def aA.aW : aA → Int
 | .mk aQ aW b7 bV aI => aW
def aA.b7 : aA → Int
 | .mk aQ aW b7 bV aI => b7
def aA.bV : aA → Int
 | .mk aQ aW b7 bV aI => bV
def aA.aI : aA → (List aA)
 | .mk aQ aW b7 bV aI => aI
mutual
def aA.c : aA → List aD
 | .mk aQ aW b7 bV aI => [(.int .i64 aQ), (.int .i64 aW), (.int .i64 b7), (.int .i64 bV), .sl 5 (aA.cL aI) false]
def aA.cL : List aA → List (List aD)
 | [] => []
 |x :: l => x.c :: aA.cL l
end
mutual
def aA.s : aA → Nat
 | .mk aQ aW b7 bV aI => (aI.length + aA.sL aI)
def aA.sL : List aA → Nat
 | [] => 0
 |x :: l => x.s + aA.sL l
end
theorem aA.aSO : ∀ l, aA.cL l = l.map aA.c
 | [] => rfl
 |x :: l => by simp only [aA.cL, List.map_cons, aA.aSO l]
theorem aA.aSP : ∀ l, aA.sL l = (l.map aA.s).sum
 | [] => rfl
 |x :: l => by simp only [aA.sL, List.map_cons, List.sum_cons, aA.aSP l]
theorem aA.aN (x : aA) : x.c = [(.int .i64 x.aQ), (.int .i64 x.aW), (.int .i64 x.b7), (.int .i64 x.bV), (dB 5 aA.c x.aI)] := by cases x; simp only [aA.c, aA.aSO, dB]; rfl
theorem aA.n8 (x : aA) : x.s = (tH aA.s x.aI) := by cases x; simp only [aA.s, aA.aSP, tH]; rfl
theorem aA.qB {x y : aA} (h : y ∈ x.aI) : SizeOf.sizeOf y < SizeOf.sizeOf x := by
 cases x
 have := List.sizeOf_lt_of_mem h
 simp only [aA.aI] at this
 simp only [aA.mk.sizeOf_spec]; omega
@[simp] theorem aA.aOM (x : aA) : x.c.length = 5 := by rw [aA.aN]; rfl
inductive aA.wf : aA → Prop
 |mk (x : aA) (h0 : InI x.aQ) (h1 : InI x.aW) (h2 : InI x.b7) (h3 : InI x.bV) (hk : ∀ y ∈ x.aI, y.wf) : x.wf
theorem aA.eq_iff {a b : aA} : a = b ↔ a.aQ = b.aQ ∧ a.aW = b.aW ∧ a.b7 = b.b7 ∧ a.bV = b.bV ∧ a.aI = b.aI := by cases a; cases b; simp [aA.aQ, aA.aW, aA.b7, aA.bV, aA.aI]
noncomputable instance : DecidableEq aA := fun a b => Classical.propDecidable (a = b)
structure aP where
 hJ : (List UInt8)
 aX : Int
 aM : (List aA)
def aP.c (x : aP) : List aD := [(.str x.hJ), (.int .i64 x.aX), (dB 5 aA.c x.aM)]
def aP.s (x : aP) : Nat := x.hJ.length + (tH aA.s x.aM)
theorem aP.aN (x : aP) : x.c = [(.str x.hJ), (.int .i64 x.aX), (dB 5 aA.c x.aM)] := rfl
theorem aP.n8 (x : aP) : x.s = x.hJ.length + (tH aA.s x.aM) := rfl
@[simp] theorem aP.aOM (x : aP) : x.c.length = 3 := by rw [aP.aN]; rfl
def aP.wf (x : aP) : Prop := InI x.aX ∧ (∀ y ∈ x.aM, y.wf)
theorem aP.eq_iff {a b : aP} : a = b ↔ a.hJ = b.hJ ∧ a.aX = b.aX ∧ a.aM = b.aM := by cases a; cases b; simp
noncomputable instance : DecidableEq aP := fun a b => Classical.propDecidable (a = b)
structure aC where
 aJ : (List aP)
def aC.c (x : aC) : List aD := [(dB 3 aP.c x.aJ)]
def aC.s (x : aC) : Nat := (tH aP.s x.aJ)
theorem aC.aN (x : aC) : x.c = [(dB 3 aP.c x.aJ)] := rfl
theorem aC.n8 (x : aC) : x.s = (tH aP.s x.aJ) := rfl
@[simp] theorem aC.aOM (x : aC) : x.c.length = 1 := by rw [aC.aN]; rfl
def aC.wf (x : aC) : Prop := (∀ y ∈ x.aJ, y.wf)
theorem aC.eq_iff {a b : aC} : a = b ↔ a.aJ = b.aJ := by cases a; cases b; simp
noncomputable instance : DecidableEq aC := fun a b => Classical.propDecidable (a = b)
set_option maxRecDepth 100000
theorem aJ3 (l : List aA) (h1 : l.length ≤ 1048576) (hc : ∀ x ∈ l, dV Tryz.prog 211 [(.agg (aA.c x))] (.agg (aA.c x))) : dV Tryz.prog 185 [(dB 5 aA.c l)] (dB 5 aA.c l) := by
 refine lO 23 wN bT bD mix Tryz.func185 rfl (by kernel_rfl) (by simp) fun h => ?_
 simp -dsimp -implicitDefEqProofs only [go_sem, Tryz.f185, ↓reduceIte]
 refine fun _ => ⟨by omega, by omega, by omega, by omega, fun n hn => ?_⟩
 refine bX (keep := wN) (ib := bT) (mk := bD) mix (by kernel_rfl) (fun k : Nat => [(0, (dB 5 aA.c l)), (3, .os n 5 0 l.length), (4, I k)]) (fun k => a5 h n (.row 5 (lX aA.c [.int .i64 0, .int .i64 0, .int .i64 0, .int .i64 0, .bO] l k))) (fun k => k ≤ l.length) (fun k => l.length - k) 0 (by simp [b8, bJ, aB.le_refl, q0]) ?_
 intro k hk
 rcases Nat.lt_or_ge k l.length with hlt | hge
 ·have ea : l[k]? = some l[k] := List.getElem?_eq_getElem hlt
  simp -dsimp -implicitDefEqProofs only [go_sem, ↓reduceIte, Tryz.f185, ea, nY _ _ _ _ hlt, aA.aN]
  refine fun _ => ⟨fun _ => ⟨hlt, ?_⟩, fun hn => absurd hlt hn⟩
  have hx := hc l[k] (List.getElem_mem hlt)
  simp only [aA.aN] at hx
  refine aG.mk hx ?_
  simp -dsimp -implicitDefEqProofs only [go_sem, ↓reduceIte, Tryz.f185, nY _ _ _ _ hlt]
  refine ⟨hlt, k + 1, by rw [IntWalk.i64_in _ (by omega)]; rfl, ?_, by omega, by omega⟩
  exact aBX hlt (by first | rfl | (simp only [List.map_cons, List.map_nil, aA.aN]))
 ·have hk' : k = l.length := by omega
  subst hk'
  simp -dsimp -implicitDefEqProofs only [go_sem, ↓reduceIte, Tryz.f185, Nat.lt_irrefl]
  rw [tK]
  exact fun _ => nZ _ hn (aB.le_refl _) _ (by simp)
theorem aG7 (x : aA) (hs : x.s ≤ 1048576) (hk : dV Tryz.prog 185 [(dB 5 aA.c x.aI)] (dB 5 aA.c x.aI)) : dV Tryz.prog 211 [.agg x.c] (.agg x.c) := by
 rw [aA.n8] at hs
 simp only [aA.aN]
 refine lO 21 aMM aAJ bD mix Tryz.func211 rfl (by kernel_rfl) (by simp) fun h => ?_
 simp -dsimp -implicitDefEqProofs only [go_sem, Tryz.f211, ↓reduceIte]
 intro n2 h2 n3 h3
 have e1 : (n2 = n3) = False := eq_false fun e => h3.1 e.symm
 have e2 : (n3 = n2) = False := eq_false h3.1
 have hzfKids : (x.aI).length + ((x.aI).map aA.s).sum = (tH aA.s x.aI) := rfl
 refine aG.mk hk ?_
 simp -dsimp -implicitDefEqProofs only [go_sem, ↓reduceIte, Tryz.f211, aK, cB, e1, e2]
 exact bQ (by simp -dsimp -implicitDefEqProofs only [go_sem, h2, h3, e1, e2, cB])
theorem aON (x : aA) (hs : x.s ≤ 1048576) : dV Tryz.prog 211 [.agg x.c] (.agg x.c) :=
 aG7 x hs (aJ3 x.aI (by rw [aA.n8] at hs; rw [iW] at hs; omega) fun y hy => aON y (by rw [aA.n8] at hs; have := pH aA.s hy; rw [iW] at hs; omega))
termination_by SizeOf.sizeOf x
decreasing_by exact aA.qB hy
theorem aWL (x : aP) (hs : x.s ≤ 1048576) : dV Tryz.prog 134 [.agg x.c] (.agg x.c) := by
 rw [aP.n8] at hs
 simp only [aP.aN]
 refine lO 15 aMM aAJ bD mix Tryz.func134 rfl (by kernel_rfl) (by simp) fun h => ?_
 simp -dsimp -implicitDefEqProofs only [go_sem, Tryz.f134, ↓reduceIte]
 intro n2 h2 n3 h3
 have e1 : (n2 = n3) = False := eq_false fun e => h3.1 e.symm
 have e2 : (n3 = n2) = False := eq_false h3.1
 have hzfOuts : (x.aM).length + ((x.aM).map aA.s).sum = (tH aA.s x.aM) := rfl
 refine aG.mk (aJ3 x.aM (by omega) (fun y hy => aON y (by have hq : (aA.s y) ≤ ((x.aM).map aA.s).sum := pH aA.s hy; omega))) ?_
 simp -dsimp -implicitDefEqProofs only [go_sem, ↓reduceIte, Tryz.f134, aK, cB, e1, e2]
 exact bQ (by simp -dsimp -implicitDefEqProofs only [go_sem, h2, h3, e1, e2, cB])
theorem aSQ (l : List aP) (h1 : l.length ≤ 1048576) (hc : ∀ x ∈ l, dV Tryz.prog 134 [(.agg (aP.c x))] (.agg (aP.c x))) : dV Tryz.prog 55 [(dB 3 aP.c l)] (dB 3 aP.c l) := by
 refine lO 23 wN bT bD mix Tryz.func55 rfl (by kernel_rfl) (by simp) fun h => ?_
 simp -dsimp -implicitDefEqProofs only [go_sem, Tryz.f55, ↓reduceIte]
 refine fun _ => ⟨by omega, by omega, by omega, by omega, fun n hn => ?_⟩
 refine bX (keep := wN) (ib := bT) (mk := bD) mix (by kernel_rfl) (fun k : Nat => [(0, (dB 3 aP.c l)), (3, .os n 3 0 l.length), (4, I k)]) (fun k => a5 h n (.row 3 (lX aP.c [.str [], .int .i64 0, .bO] l k))) (fun k => k ≤ l.length) (fun k => l.length - k) 0 (by simp [b8, bJ, aB.le_refl, q0]) ?_
 intro k hk
 rcases Nat.lt_or_ge k l.length with hlt | hge
 ·have ea : l[k]? = some l[k] := List.getElem?_eq_getElem hlt
  simp -dsimp -implicitDefEqProofs only [go_sem, ↓reduceIte, Tryz.f55, ea, nY _ _ _ _ hlt, aP.aN]
  refine fun _ => ⟨fun _ => ⟨hlt, ?_⟩, fun hn => absurd hlt hn⟩
  have hx := hc l[k] (List.getElem_mem hlt)
  simp only [aP.aN] at hx
  refine aG.mk hx ?_
  simp -dsimp -implicitDefEqProofs only [go_sem, ↓reduceIte, Tryz.f55, nY _ _ _ _ hlt]
  refine ⟨hlt, k + 1, by rw [IntWalk.i64_in _ (by omega)]; rfl, ?_, by omega, by omega⟩
  exact aBX hlt (by first | rfl | (simp only [List.map_cons, List.map_nil, aP.aN]))
 ·have hk' : k = l.length := by omega
  subst hk'
  simp -dsimp -implicitDefEqProofs only [go_sem, ↓reduceIte, Tryz.f55, Nat.lt_irrefl]
  rw [tK]
  exact fun _ => nZ _ hn (aB.le_refl _) _ (by simp)
theorem qC (x : aC) (hs : x.s ≤ 1048576) : dV Tryz.prog 9 [.agg x.c] (.agg x.c) := by
 rw [aC.n8] at hs
 simp only [aC.aN]
 refine lO 9 aMM aAJ bD mix Tryz.func9 rfl (by kernel_rfl) (by simp) fun h => ?_
 simp -dsimp -implicitDefEqProofs only [go_sem, Tryz.f9, ↓reduceIte]
 intro n2 h2 n3 h3
 have e1 : (n2 = n3) = False := eq_false fun e => h3.1 e.symm
 have e2 : (n3 = n2) = False := eq_false h3.1
 have hzfFuncs : (x.aJ).length + ((x.aJ).map aP.s).sum = (tH aP.s x.aJ) := rfl
 refine aG.mk (aSQ x.aJ (by omega) (fun y hy => aWL y (by have hq : (aP.s y) ≤ ((x.aJ).map aP.s).sum := pH aP.s hy; omega))) ?_
 simp -dsimp -implicitDefEqProofs only [go_sem, ↓reduceIte, Tryz.f9, aK, cB, e1, e2]
 exact bQ (by simp -dsimp -implicitDefEqProofs only [go_sem, h2, h3, e1, e2, cB])
theorem kZ (l : List Int) (h1 : l.length ≤ 1048576) : dV Tryz.prog 10 [(dB 1 (fun n => [I n]) l)] (dB 1 (fun n => [I n]) l) := by
 refine lO 22 wN bT bD mix Tryz.func10 rfl (by kernel_rfl) (by simp) fun h => ?_
 simp -dsimp -implicitDefEqProofs only [go_sem, Tryz.f10, ↓reduceIte]
 refine fun _ => ⟨by omega, by omega, by omega, by omega, fun n hn => ?_⟩
 refine bX (keep := wN) (ib := bT) (mk := bD) mix (by kernel_rfl) (fun k : Nat => [(0, (dB 1 (fun n => [I n]) l)), (3, .os n 1 0 l.length), (4, I k)]) (fun k => a5 h n (.row 1 (lX (fun n => [I n]) [.int .i64 0] l k))) (fun k => k ≤ l.length) (fun k => l.length - k) 0 (by simp [b8, bJ, aB.le_refl, q0]) ?_
 intro k hk
 rcases Nat.lt_or_ge k l.length with hlt | hge
 ·have ea : l[k]? = some l[k] := List.getElem?_eq_getElem hlt
  simp -dsimp -implicitDefEqProofs only [go_sem, ↓reduceIte, Tryz.f10, ea, nY _ _ _ _ hlt]
  refine fun _ => ⟨fun _ => ⟨hlt, hlt, k + 1, by rw [IntWalk.i64_in _ (by omega)]; rfl, ?_, by omega, by omega⟩, fun hn => absurd hlt hn⟩
  exact aBX hlt rfl
 ·have hk' : k = l.length := by omega
  subst hk'
  simp -dsimp -implicitDefEqProofs only [go_sem, ↓reduceIte, Tryz.f10, Nat.lt_irrefl]
  rw [tK]
  exact fun _ => nZ _ hn (aB.le_refl _) _ (by simp)
mutual
def aA.o : aA → List OV → Prop
 | .mk aQ aW b7 bV aI, e => ∃ y, e = [.v (.int .i64 aQ), .v (.int .i64 aW), .v (.int .i64 b7), .v (.int .i64 bV), y] ∧ ((y = .nil 5 ∧ aI = []) ∨ ∃ n es, y = .sl n 5 es ∧ aA.oR aI es)
def aA.oR : List aA → List (List OV) → Prop
 | [], [] => True
 |x :: l, e :: es => x.o e ∧ aA.oR l es
 | _, _ => False
end
theorem aA.aZQ : ∀ (l : List aA) (es : List (List OV)), aA.oR l es = OR aA.o l es
 | [], [] => rfl
 |x :: l, e :: es => by rw [aA.oR, OR, aA.aZQ l es]
 | [], _ :: _ => rfl
 | _ :: _, [] => rfl
theorem aA.aKA (x : aA) (e : List OV) : x.o e ↔ ∃ y4, e = [.v (.int .i64 x.aQ), .v (.int .i64 x.aW), .v (.int .i64 x.b7), .v (.int .i64 x.bV), y4] ∧ OS aA.o 5 x.aI y4 := by
 cases x
 simp only [aA.o, aA.aZQ, OS]
 rfl
mutual
theorem aA.aDM : ∀ {x : aA} {e : List OV}, x.o e → e.map OV.lA = x.c
 | .mk aQ aW b7 bV aI, e, h => by
  rw [aA.aKA] at h
  obtain ⟨y, rfl, h⟩ := h
  have hk : y.lA = .sl 5 (aI.map aA.c) false := by
   rcases h with ⟨rfl, h0⟩ | ⟨n, es, rfl, h⟩
   ·have h1 : aI = [] := h0
    subst h1; rfl
   ·simp only [OV.lA]
    rw [aA.aSX h]
    rfl
  rw [aA.aN]
  simp only [List.map_cons, List.map_nil, OV.lA, hk]
  rfl
theorem aA.aSX : ∀ {l : List aA} {es : List (List OV)}, OR aA.o l es → OV.cS es = l.map aA.c
 | [], [], _ => rfl
 |x :: l, e :: es, h => by rw [OV.cS, aA.aSX h.2, OV.tG, aA.aDM h.1]; rfl
 | [], _ :: _, h => h.elim
 | _ :: _, [], h => h.elim
end
def aP.o (x : aP) (e : List OV) : Prop := ∃ y2, e = [.v (.str x.hJ), .v (.int .i64 x.aX), y2] ∧ OS aA.o 5 x.aM y2
theorem aP.aDM {x : aP} {e : List OV} (h : x.o e) : e.map OV.lA = x.c := by
 obtain ⟨y2, rfl, o2⟩ := h
 have d2 := OS.lA (c := aA.c) (fun _ _ q => aA.aDM q) o2
 rw [aP.aN]
 simp only [List.map_cons, List.map_nil, OV.lA, d2]
def aC.o (x : aC) (e : List OV) : Prop := ∃ y0, e = [y0] ∧ OS aP.o 3 x.aJ y0
theorem aC.aDM {x : aC} {e : List OV} (h : x.o e) : e.map OV.lA = x.c := by
 obtain ⟨y0, rfl, o0⟩ := h
 have d0 := OS.lA (c := aP.c) (fun _ _ q => aP.aDM q) o0
 rw [aC.aN]
 simp only [List.map_cons, List.map_nil, OV.lA, d0]
theorem aA.aQS (x : aA) (e : List OV) (h : x.o e) : OV.jZ e ≤ 16 * (1 + x.s) := by
 rw [aA.aKA] at h
 obtain ⟨y4, rfl, o4⟩ := h
 have d4 := OS.cts (s := aA.s) o4 (fun z hz e q => aA.aQS z e q)
 have s0 := aA.n8 x
 clear o4
 simp only [OV.jZ, OV.aDK]
 refine Nat.le_trans (Nat.add_le_add (Nat.le_refl 1) (Nat.add_le_add (Nat.le_refl 1) (Nat.add_le_add (Nat.le_refl 1) (Nat.add_le_add (Nat.le_refl 1) (Nat.add_le_add d4 (Nat.le_refl 0)))))) ?_
 clear d4
 try generalize (tH aA.s x.aI) = z4 at *
 omega
termination_by SizeOf.sizeOf x
decreasing_by exact aA.qB hz
theorem aP.aQS (x : aP) (e : List OV) (h : x.o e) : OV.jZ e ≤ 16 * (1 + x.s) := by
 obtain ⟨y2, rfl, o2⟩ := h
 have d2 := OS.cts (s := aA.s) o2 (fun z hz e q => aA.aQS z e q)
 have s0 := aP.n8 x
 clear o2
 simp only [OV.jZ, OV.aDK]
 refine Nat.le_trans (Nat.add_le_add (Nat.le_refl 1) (Nat.add_le_add (Nat.le_refl 1) (Nat.add_le_add d2 (Nat.le_refl 0)))) ?_
 clear d2
 try generalize (tH aA.s x.aM) = z2 at *
 omega
theorem aC.aQS (x : aC) (e : List OV) (h : x.o e) : OV.jZ e ≤ 16 * (1 + x.s) := by
 obtain ⟨y0, rfl, o0⟩ := h
 have d0 := OS.cts (s := aP.s) o0 (fun z hz e q => aP.aQS z e q)
 have s0 := aC.n8 x
 clear o0
 simp only [OV.jZ, OV.aDK]
 refine Nat.le_trans (Nat.add_le_add d0 (Nat.le_refl 0)) ?_
 clear d0
 try generalize (tH aP.s x.aJ) = z0 at *
 omega
theorem aC.a7P (x : aC) (e : List OV) (h : x.o e) : OV.vK e ≤ 16 * (1 + x.s) := by
 have h1 := aC.aQS x e h
 have h2 : ∀ e : List OV, OV.vK e ≤ OV.jZ e := fun e => by
  induction e with
  |nil => simp [OV.vK]
  |cons a e ih => rw [OV.vK, OV.jZ]; cases a <;> simp [OV.ctT] <;> omega
 exact Nat.le_trans (h2 e) h1
theorem aFW (l : List aA) (h1 : l.length ≤ 1048576) (hc : ∀ x ∈ l, rQ Tryz.prog 211 [(.agg (aA.c x))] (QA x.o)) : rQ Tryz.prog 185 [(dB 5 aA.c l)] (QS (OS aA.o 5 l)) := by
 refine qD 23 wN bT bD mix Tryz.func185 rfl (by kernel_rfl) (by simp) fun h => ?_
 simp -dsimp -implicitDefEqProofs only [go_sem, ↓reduceIte, Tryz.f185]
 refine fun _ => ⟨by omega, by omega, by omega, by omega, fun n hn => ?_⟩
 refine bX (keep := wN) (ib := bT) (mk := bD) mix (by kernel_rfl) (fun x : Nat × List (List OV) × aB => [(0, (dB 5 aA.c l)), (3, .os n 5 0 l.length), (4, I x.1)]) (fun x => a5 x.2.2 n (.row 5 (OV.cells x.2.1 ++ (List.replicate (l.length - x.1) [.int .i64 0, .int .i64 0, .int .i64 0, .int .i64 0, .bO]).map (List.map .v)))) (fun x => x.1 ≤ l.length ∧ OR aA.o (l.take x.1) x.2.1 ∧ iM h (OV.bG x.2.1) x.2.2 ∧ x.2.2 n = none) (fun x => l.length - x.1) (0, [], h) (by
  exact ⟨by simp [b8, bJ], aB.le_refl _, Nat.zero_le _, trivial, iM.nil h, hn⟩) ?_
 rintro ⟨k, es, g⟩ ⟨hk, hor, hnew, hgn⟩
 have hlen : es.length = k := by have := hor.length; simp at this; omega
 rcases Nat.lt_or_ge k l.length with hlt | hge
 ·have ea : l[k]? = some l[k] := List.getElem?_eq_getElem hlt
  have eg : ∀ m, m = l.length - k → (OV.cells es ++ (List.replicate m [.int .i64 0, .int .i64 0, .int .i64 0, .int .i64 0, .bO]).map (List.map Cell.v))[k]? = some ([.int .i64 0, .int .i64 0, .int .i64 0, .int .i64 0, .bO].map .v) := fun m hm => aJ7 hlen (by omega)
  simp -dsimp -implicitDefEqProofs only [go_sem, ↓reduceIte, Tryz.f185, ea, aA.aN]
  refine fun _ => ⟨fun _ => ⟨hlt, ?_⟩, fun hn => absurd hlt hn⟩
  have hx := hc l[k] (List.getElem_mem hlt)
  simp only [aA.aN] at hx
  refine aG.nw1 hx hgn ?_
  rintro r l1 g1 ⟨e0, he0, rfl, rfl⟩ w7 w1
  have he1 := he0
  rw [aA.aKA] at he1
  obtain ⟨y_4, rfl, o_4⟩ := he1
  simp -dsimp -implicitDefEqProofs only [go_sem, ↓reduceIte, Tryz.f185, eg _ rfl, aK, OV.dC, OV.bK, OV.dZ, o_4.flat]
  refine ⟨hlt, (k + 1, es ++ [[.v (.int .i64 l[k].aQ), .v (.int .i64 l[k].aW), .v (.int .i64 l[k].b7), .v (.int .i64 l[k].bV), y_4]], g1), ?_⟩
  simp only
  have hf := aJ6 (z := [.int .i64 0, .int .i64 0, .int .i64 0, .int .i64 0, .bO]) [.v (.int .i64 l[k].aQ), .v (.int .i64 l[k].aW), .v (.int .i64 l[k].b7), .v (.int .i64 l[k].bV), y_4] hlen (m := l.length - k) (by omega) [Cell.v (.int .i64 l[k].aQ), Cell.v (.int .i64 l[k].aW), Cell.v (.int .i64 l[k].b7), Cell.v (.int .i64 l[k].bV), Cell.v y_4.val] rfl
  rw [hf, show l.length - k - 1 = l.length - (k + 1) by omega]
  refine ⟨by rw [IntWalk.i64_in _ (by omega)]; rfl, aB.le_refl _, ⟨by omega, ?_, ?_, w1⟩, by omega⟩
  ·rw [List.take_succ_eq_append_getElem hlt]
   exact OR.append hor ⟨he0, trivial⟩
  ·rw [rP]
   exact hnew.append w7
 ·have hk' : k = l.length := by omega
  subst hk'
  simp -dsimp -implicitDefEqProofs only [go_sem, ↓reduceIte, Tryz.f185, Nat.lt_irrefl]
  refine fun _ => ⟨_, _, _, aV _ _, ⟨.sl n 5 es, OS.mk (by simpa using hor), by simp [OV.val, hlen, bJ], rfl⟩, ?_⟩
  rw [OV.dI]
  simpa using hnew.row hgn
theorem aFB (x : aA) (hs : x.s ≤ 1048576) (hk : rQ Tryz.prog 185 [(dB 5 aA.c x.aI)] (QS (OS aA.o 5 x.aI))) : rQ Tryz.prog 211 [.agg x.c] (QA x.o) := by
 rw [aA.n8] at hs
 simp only [aA.aN]
 refine qD 21 aMM aAJ bD mix Tryz.func211 rfl (by kernel_rfl) (by simp) fun h => ?_
 simp -dsimp -implicitDefEqProofs only [go_sem, ↓reduceIte, Tryz.f211, aK]
 intro n2 a0 n3 b0
 have e1 : (n2 = n3) = False := eq_false fun e => b0.1 e.symm
 have e2 : (n3 = n2) = False := eq_false b0.1
 have w0 := iM.nil h
 have hb0 := b0.2
 have hzfKids : (x.aI).length + ((x.aI).map aA.s).sum = (tH aA.s x.aI) := rfl
 refine aG.nw2 hk a0 ⟨b0.1, hb0⟩ ?_
 rintro r l1 g1 ⟨y1, o1, rfl, rfl⟩ w1 a1 jL
 simp -dsimp -implicitDefEqProofs only [go_sem, ↓reduceIte, Tryz.f211, aK, cB, e1, e2, OV.dC, OV.bK, OV.dZ, o1.flat, o1.one]
 have w1t := w0.append w1
 refine ⟨_, g1, _, Shift.of (Sub.refl _) ?_, ⟨[.v (.int .i64 x.aQ), .v (.int .i64 x.aW), .v (.int .i64 x.b7), .v (.int .i64 x.bV), y1], ?_, rfl, rfl⟩, ?_⟩
 ·exact nE a1 (nE jL (nE a1 (aB.le_refl _)))
 ·rw [aA.aKA]; exact ⟨y1, rfl, o1⟩
 ·simpa only [OV.cT, OV.eC, OV.j8, List.nil_append, List.append_nil, List.append_assoc] using w1t
theorem aKB (x : aA) (hs : x.s ≤ 1048576) : rQ Tryz.prog 211 [.agg x.c] (QA x.o) :=
 aFB x hs (aFW x.aI (by rw [aA.n8] at hs; rw [iW] at hs; omega) fun y hy => aKB y (by rw [aA.n8] at hs; have := pH aA.s hy; rw [iW] at hs; omega))
termination_by SizeOf.sizeOf x
decreasing_by exact aA.qB hy
theorem aSY (x : aP) (hs : x.s ≤ 1048576) : rQ Tryz.prog 134 [.agg x.c] (QA x.o) := by
 rw [aP.n8] at hs
 simp only [aP.aN]
 refine qD 15 aMM aAJ bD mix Tryz.func134 rfl (by kernel_rfl) (by simp) fun h => ?_
 simp -dsimp -implicitDefEqProofs only [go_sem, ↓reduceIte, Tryz.f134, aK]
 intro n2 a0 n3 b0
 have e1 : (n2 = n3) = False := eq_false fun e => b0.1 e.symm
 have e2 : (n3 = n2) = False := eq_false b0.1
 have w0 := iM.nil h
 have hb0 := b0.2
 have hzfOuts : (x.aM).length + ((x.aM).map aA.s).sum = (tH aA.s x.aM) := rfl
 refine aG.nw2 (aFW x.aM (by omega) (fun y hy => aKB y (by have hq : (aA.s y) ≤ ((x.aM).map aA.s).sum := pH aA.s hy; omega))) a0 ⟨b0.1, hb0⟩ ?_
 rintro r l1 g1 ⟨y1, o1, rfl, rfl⟩ w1 a1 jL
 simp -dsimp -implicitDefEqProofs only [go_sem, ↓reduceIte, Tryz.f134, aK, cB, e1, e2, OV.dC, OV.bK, OV.dZ, o1.flat, o1.one]
 have w1t := w0.append w1
 refine ⟨_, g1, _, Shift.of (Sub.refl _) ?_, ⟨[.v (.str x.hJ), .v (.int .i64 x.aX), y1], ?_, rfl, rfl⟩, ?_⟩
 ·exact nE a1 (nE jL (nE a1 (aB.le_refl _)))
 ·exact ⟨y1, rfl, o1⟩
 ·simpa only [OV.cT, OV.eC, OV.j8, List.nil_append, List.append_nil, List.append_assoc] using w1t
theorem aQT (l : List aP) (h1 : l.length ≤ 1048576) (hc : ∀ x ∈ l, rQ Tryz.prog 134 [(.agg (aP.c x))] (QA x.o)) : rQ Tryz.prog 55 [(dB 3 aP.c l)] (QS (OS aP.o 3 l)) := by
 refine qD 23 wN bT bD mix Tryz.func55 rfl (by kernel_rfl) (by simp) fun h => ?_
 simp -dsimp -implicitDefEqProofs only [go_sem, ↓reduceIte, Tryz.f55]
 refine fun _ => ⟨by omega, by omega, by omega, by omega, fun n hn => ?_⟩
 refine bX (keep := wN) (ib := bT) (mk := bD) mix (by kernel_rfl) (fun x : Nat × List (List OV) × aB => [(0, (dB 3 aP.c l)), (3, .os n 3 0 l.length), (4, I x.1)]) (fun x => a5 x.2.2 n (.row 3 (OV.cells x.2.1 ++ (List.replicate (l.length - x.1) [.str [], .int .i64 0, .bO]).map (List.map .v)))) (fun x => x.1 ≤ l.length ∧ OR aP.o (l.take x.1) x.2.1 ∧ iM h (OV.bG x.2.1) x.2.2 ∧ x.2.2 n = none) (fun x => l.length - x.1) (0, [], h) (by
  exact ⟨by simp [b8, bJ], aB.le_refl _, Nat.zero_le _, trivial, iM.nil h, hn⟩) ?_
 rintro ⟨k, es, g⟩ ⟨hk, hor, hnew, hgn⟩
 have hlen : es.length = k := by have := hor.length; simp at this; omega
 rcases Nat.lt_or_ge k l.length with hlt | hge
 ·have ea : l[k]? = some l[k] := List.getElem?_eq_getElem hlt
  have eg : ∀ m, m = l.length - k → (OV.cells es ++ (List.replicate m [.str [], .int .i64 0, .bO]).map (List.map Cell.v))[k]? = some ([.str [], .int .i64 0, .bO].map .v) := fun m hm => aJ7 hlen (by omega)
  simp -dsimp -implicitDefEqProofs only [go_sem, ↓reduceIte, Tryz.f55, ea, aP.aN]
  refine fun _ => ⟨fun _ => ⟨hlt, ?_⟩, fun hn => absurd hlt hn⟩
  have hx := hc l[k] (List.getElem_mem hlt)
  simp only [aP.aN] at hx
  refine aG.nw1 hx hgn ?_
  rintro r l1 g1 ⟨e0, he0, rfl, rfl⟩ w7 w1
  have he1 := he0
  obtain ⟨y_2, rfl, o_2⟩ := he1
  simp -dsimp -implicitDefEqProofs only [go_sem, ↓reduceIte, Tryz.f55, eg _ rfl, aK, OV.dC, OV.bK, OV.dZ, o_2.flat]
  refine ⟨hlt, (k + 1, es ++ [[.v (.str l[k].hJ), .v (.int .i64 l[k].aX), y_2]], g1), ?_⟩
  simp only
  have hf := aJ6 (z := [.str [], .int .i64 0, .bO]) [.v (.str l[k].hJ), .v (.int .i64 l[k].aX), y_2] hlen (m := l.length - k) (by omega) [Cell.v (.str l[k].hJ), Cell.v (.int .i64 l[k].aX), Cell.v y_2.val] rfl
  rw [hf, show l.length - k - 1 = l.length - (k + 1) by omega]
  refine ⟨by rw [IntWalk.i64_in _ (by omega)]; rfl, aB.le_refl _, ⟨by omega, ?_, ?_, w1⟩, by omega⟩
  ·rw [List.take_succ_eq_append_getElem hlt]
   exact OR.append hor ⟨he0, trivial⟩
  ·rw [rP]
   exact hnew.append w7
 ·have hk' : k = l.length := by omega
  subst hk'
  simp -dsimp -implicitDefEqProofs only [go_sem, ↓reduceIte, Tryz.f55, Nat.lt_irrefl]
  refine fun _ => ⟨_, _, _, aV _ _, ⟨.sl n 3 es, OS.mk (by simpa using hor), by simp [OV.val, hlen, bJ], rfl⟩, ?_⟩
  rw [OV.dI]
  simpa using hnew.row hgn
theorem aKC (x : aC) (hs : x.s ≤ 1048576) : rQ Tryz.prog 9 [.agg x.c] (QA x.o) := by
 rw [aC.n8] at hs
 simp only [aC.aN]
 refine qD 9 aMM aAJ bD mix Tryz.func9 rfl (by kernel_rfl) (by simp) fun h => ?_
 simp -dsimp -implicitDefEqProofs only [go_sem, ↓reduceIte, Tryz.f9, aK]
 intro n2 a0 n3 b0
 have e1 : (n2 = n3) = False := eq_false fun e => b0.1 e.symm
 have e2 : (n3 = n2) = False := eq_false b0.1
 have w0 := iM.nil h
 have hb0 := b0.2
 have hzfFuncs : (x.aJ).length + ((x.aJ).map aP.s).sum = (tH aP.s x.aJ) := rfl
 refine aG.nw2 (aQT x.aJ (by omega) (fun y hy => aSY y (by have hq : (aP.s y) ≤ ((x.aJ).map aP.s).sum := pH aP.s hy; omega))) a0 ⟨b0.1, hb0⟩ ?_
 rintro r l1 g1 ⟨y1, o1, rfl, rfl⟩ w1 a1 jL
 simp -dsimp -implicitDefEqProofs only [go_sem, ↓reduceIte, Tryz.f9, aK, cB, e1, e2, OV.dC, OV.bK, OV.dZ, o1.flat, o1.one]
 have w1t := w0.append w1
 refine ⟨_, g1, _, Shift.of (Sub.refl _) ?_, ⟨[y1], ?_, rfl, rfl⟩, ?_⟩
 ·exact nE a1 (nE jL (nE a1 (aB.le_refl _)))
 ·exact ⟨y1, rfl, o1⟩
 ·simpa only [OV.cT, OV.eC, OV.j8, List.nil_append, List.append_nil, List.append_assoc] using w1t
theorem aDN (l : List Int) (h1 : l.length ≤ 1048576) : rQ Tryz.prog 10 [(dB 1 (fun n => [I n]) l)] (QS (OS (oP I) 1 l)) := by
 refine qD 22 wN bT bD mix Tryz.func10 rfl (by kernel_rfl) (by simp) fun h => ?_
 simp -dsimp -implicitDefEqProofs only [go_sem, ↓reduceIte, Tryz.f10]
 refine fun _ => ⟨by omega, by omega, by omega, by omega, fun n hn => ?_⟩
 refine bX (keep := wN) (ib := bT) (mk := bD) mix (by kernel_rfl) (fun k : Nat => [(0, (dB 1 (fun n => [I n]) l)), (3, .os n 1 0 l.length), (4, I k)]) (fun k => a5 h n (.row 1 (lX (fun n => [I n]) [.int .i64 0] l k))) (fun k => k ≤ l.length) (fun k => l.length - k) 0 (by simp [b8, bJ, aB.le_refl, q0]) ?_
 intro k hk
 rcases Nat.lt_or_ge k l.length with hlt | hge
 ·have ea : l[k]? = some l[k] := List.getElem?_eq_getElem hlt
  simp -dsimp -implicitDefEqProofs only [go_sem, ↓reduceIte, Tryz.f10, ea, nY _ _ _ _ hlt]
  refine fun _ => ⟨fun _ => ⟨hlt, hlt, k + 1, by rw [IntWalk.i64_in _ (by omega)]; rfl, ?_, by omega, by omega⟩, fun hn => absurd hlt hn⟩
  exact aBX hlt rfl
 ·have hk' : k = l.length := by omega
  subst hk'
  simp -dsimp -implicitDefEqProofs only [go_sem, ↓reduceIte, Tryz.f10, Nat.lt_irrefl]
  rw [tK]
  refine fun _ => ⟨_, _, _, aV _ _, ⟨.sl n 1 (l.map fun x => [.v (I x)]), OS.mk (aDD l), by simp [OV.val, bJ], rfl⟩, ?_⟩
  rw [OV.dI, hU, fV]
  exact iM.one hn
@[go_sem] def aOQ : List Nat := [0, 2, 3, 5, 7]
@[go_sem] def aZS : List Nat := [12]
theorem aSZ (k : Int) (h1 : k ≤ 4611686018427387904) : dV Tryz.prog 142 [I k] (.str (wU k)) := by
 refine dS 20 aOQ aZS bD mix Tryz.func142 rfl (by kernel_rfl) (by simp) fun h => ?_
 simp -dsimp -implicitDefEqProofs only [go_sem, ↓reduceIte, Tryz.f142]
 repeat' (with_reducible first | intro _ | refine And.intro ?_ ?_)
 ·simp [wU, *]
 have hd := aMR k.toNat
 refine bX (keep := aOQ) (ib := aZS) (mk := bD) mix (by kernel_rfl) (fun x : Int × List UInt8 => [(0, I x.1), (3, .str x.2)]) (fun _ => h) (fun x => 0 ≤ x.1 ∧ x.1 ≤ k ∧ rR k.toNat = rR x.1.toNat ++ x.2) (fun x => x.1.toNat) (k, []) (by refine ⟨by simp [b8, bJ], aB.le_refl _, by simp; omega⟩) ?_
 rintro ⟨j, out⟩ ⟨hj, hjk, he⟩
 simp only at hj hjk he
 have hol : out.length ≤ k.toNat := by rw [he, List.length_append] at hd; omega
 simp -dsimp -implicitDefEqProofs only [go_sem, ↓reduceIte, Tryz.f142]
 repeat' (with_reducible first | intro _ | refine And.intro ?_ ?_)
 all_goals try omega
 all_goals try (simp; done)
 ·rw [Int.tdiv_eq_ediv_of_nonneg (by omega), Int.tmod_eq_emod_of_nonneg (by omega), IntWalk.i64_in (j / 10) (by omega), IntWalk.i64_in (48 + j % 10) (by omega), IntWalk.u8_in (48 + j % 10) (by omega)]
  refine ⟨(j / 10, _), ⟨rfl, rfl⟩, ⟨by omega, by omega, ?_⟩, by omega⟩
  rw [he, aDI (by omega), List.append_assoc]
  have e1 : j.toNat / 10 = (j / 10).toNat := by omega
  have e2 : 48 + j.toNat % 10 = (48 + j % 10).toNat := by omega
  rw [e1, e2]; rfl
 all_goals
  have hj0 : j = 0 := by omega
  subst hj0
  rw [show (0 : Int).toNat = 0 from rfl, aBD, List.nil_append] at he
  simp [wU, *]
theorem aBQ (l : List aA) (hk : ∀ x ∈ l, aFV Tryz.prog 143 (OS aA.o 5 x.aI)) : aFV Tryz.prog 143 (OS aA.o 5 l) := by
 intro y k h hy h0 h1 ho nd
 rcases hy with ⟨rfl, hl⟩ | ⟨n, es, rfl, hor⟩
 ·rw [OV.xE, OV.nC, OV.vI, OV.yO]
  refine aAF 48 tI bT bD mix Tryz.func143 rfl (by kernel_rfl) (by simp) ?_
  simp -dsimp -implicitDefEqProofs only [go_sem, ↓reduceIte, Tryz.f143]
  refine bX (keep := tI) (ib := bT) (mk := bD) mix (by kernel_rfl) (fun _ : Unit => [(0, .sl 5 [] true), (1, I k), (5, I 0)]) (fun _ => h) (fun _ => True) (fun _ => 0) () (by simp [b8, bJ, aB.le_refl]) ?_
  intro _ _
  simp -dsimp -implicitDefEqProofs only [go_sem, ↓reduceIte, Tryz.f143, oB, Int.lt_irrefl]
  try intro _
  refine ⟨h, aB.le_refl _, ?_⟩
  first | exact o5.refl (by simp [eM]) | exact ⟨by simp, o5.refl (by simp [eM])⟩
 ·rw [OV.aDL, OV.dI, OV.dI, OV.q9, OV.nD]
  rw [OV.q9] at h1
  rw [OV.dI] at ho nd
  generalize hL0 : (n, bL.row 5 (OV.cells es)) :: OV.bG es = L0 at nd ⊢
  refine aAF 48 tI bT bD mix Tryz.func143 rfl (by kernel_rfl) (by simp) ?_
  simp -dsimp -implicitDefEqProofs only [go_sem, ↓reduceIte, Tryz.f143]
  refine bX (keep := tI) (ib := bT) (mk := bD) mix (by kernel_rfl) (fun x : Nat × aB => [(0, .os n 5 0 es.length), (1, I (k + OV.cU (es.take x.1))), (5, I x.1)]) (fun x => x.2) (fun x => x.1 ≤ es.length ∧ o5 h x.2 L0 ((n, .row 5 (OV.cells (OV.cO k (es.take x.1) ++ es.drop x.1))) :: OV.bG (OV.cO k (es.take x.1) ++ es.drop x.1))) (fun x => es.length - x.1) (0, h) (by
   refine ⟨by simp [b8, bJ, OV.cU], aB.le_refl _, Nat.zero_le _, ?_⟩
   rw [← hL0]
   simpa [OV.cO] using o5.refl ho) ?_
  rintro ⟨i, g⟩ ⟨hi, hc⟩
  simp only at hi hc ⊢
  rcases Nat.lt_or_ge i es.length with hlt | hge
  ·have hll : i < l.length := by rw [hor.length]; exact hlt
   obtain ⟨A, e, B, rfl, hA, he⟩ := hor.split i hll
   have t1 : (A ++ e :: B).take i = A := by rw [← hA]; simp
   have t2 : (A ++ e :: B).drop i = e :: B := by rw [← hA]; simp
   have t0 : A ++ e :: B = (A ++ [e]) ++ B := by simp
   have t3 : (A ++ e :: B).take (i + 1) = A ++ [e] := by rw [t0]; exact List.take_left' (by simp [hA])
   have t4 : (A ++ e :: B).drop (i + 1) = B := by rw [t0]; exact List.drop_left' (by simp [hA])
   clear t0
   have hct := OV.iU A (e :: B)
   rw [OV.cU] at hct
   rw [t1, t2] at hc
   rw [t1]
   have hA2 : (OV.cells (OV.cO k A)).length = i := by rw [OV.cells, List.length_map, OV.jV, hA]
   have j3 := OV.q8 k A e
   have hs3 := OV.mU A e
   rw [aA.aKA] at he
   obtain ⟨y_4, rfl, o_4⟩ := he
   simp only [OV.n9, OV.pV, OV.aDK, Nat.add_zero, OV.oA, OV.pW, OV.aQP, sD, pX, sE, oT] at hct j3 hs3
   generalize hkk : k + (OV.cU A : Int) = kk at j3 ⊢
   generalize OV.cO k A = A2 at j3 hc hA2
   have gm : ∀ (c : List Cell) (Y : List (List Cell)), (OV.cells A2 ++ c :: Y)[i]? = some c := fun c Y => wD hA2
   have sm : ∀ (c c2 : List Cell) (Y : List (List Cell)), (OV.cells A2 ++ c :: Y).set i c2 = OV.cells A2 ++ c2 :: Y := fun c c2 Y => aBY hA2
   have pB := hc
   simp only [List.append_assoc, List.cons_append, List.nil_append, List.append_nil, OV.cT, OV.eC, OV.j8, cR, dK, cP, eV, eW, fW, OV.dZ] at pB
   have hgn := pB.iJ (n, _) List.mem_cons_self
   simp only at hgn
   have wV : IntKind.i64.wrap (kk + 1) = kk + 1 := IntWalk.i64_in _ (by omega)
   have aFY : IntKind.i64.wrap (kk + 1 + 1) = kk + 1 + 1 := IntWalk.i64_in _ (by omega)
   have aZT : IntKind.i64.wrap (kk + 1 + 1 + 1) = kk + 1 + 1 + 1 := IntWalk.i64_in _ (by omega)
   have aZU : IntKind.i64.wrap (kk + 1 + 1 + 1 + 1) = kk + 1 + 1 + 1 + 1 := IntWalk.i64_in _ (by omega)
   simp -dsimp -implicitDefEqProofs only [go_sem, ↓reduceIte, Tryz.f143, hgn, gm, sm, aK, aH, o_4.flat, o_4.one, wV, aFY, aZT, aZU]
   repeat' (with_reducible first | intro _ | refine And.intro ?_ ?_)
   all_goals try omega
   have hq0 := pB.trans (o5.set (o' := .row 5 (OV.cells A2 ++ [.v (.int .i64 (kk)), .v (.int .i64 (kk + 1)), .v (.int .i64 (kk + 1 + 1)), .v (.int .i64 (kk + 1 + 1 + 1)), .v y_4.val] :: OV.cells B)) pB.iJ (pB.nodup nd))
   have hg0 : a5 g n (.row 5 (OV.cells A2 ++ [.v (.int .i64 (kk)), .v (.int .i64 (kk + 1)), .v (.int .i64 (kk + 1 + 1)), .v (.int .i64 (kk + 1 + 1 + 1)), .v y_4.val] :: OV.cells B)) n = some (.row 5 (OV.cells A2 ++ [.v (.int .i64 (kk)), .v (.int .i64 (kk + 1)), .v (.int .i64 (kk + 1 + 1)), .v (.int .i64 (kk + 1 + 1 + 1)), .v y_4.val] :: OV.cells B)) := aH _ _ _
   have hp0 : o5 h (a5 g n (.row 5 (OV.cells A2 ++ [.v (.int .i64 (kk)), .v (.int .i64 (kk + 1)), .v (.int .i64 (kk + 1 + 1)), .v (.int .i64 (kk + 1 + 1 + 1)), .v y_4.val] :: OV.cells B))) L0 (((n, .row 5 (OV.cells A2 ++ [.v (.int .i64 (kk)), .v (.int .i64 (kk + 1)), .v (.int .i64 (kk + 1 + 1)), .v (.int .i64 (kk + 1 + 1 + 1)), .v y_4.val] :: OV.cells B)) :: (OV.bG A2)) ++ (y_4.rows ++ (OV.bG B))) := by simpa only [List.append_assoc, List.cons_append, List.nil_append, List.append_nil, OV.cT, OV.eC, OV.j8, cR, dK, cP, eV, eW, fW, OV.dZ] using hq0
   refine aG.fF ((hk l[i] (List.getElem_mem hll)) y_4 (kk + 1 + 1 + 1 + 1) _ o_4 (by omega) (by omega) hp0.iJ.right.left (wC (hp0.nodup nd))) ?_
   rintro r g0 ⟨rfl, aMU⟩
   have hr0 := hp0.trans (o5.mid hp0.iJ (hp0.nodup nd) aMU)
   have aKD := hr0.iJ (n, _) List.mem_cons_self
   simp only at aKD
   have uR : ∃ z : Int, z = kk + 1 + 1 + 1 + 1 + (y_4.ct : Int) := ⟨_, rfl⟩
   obtain ⟨kk0, uR⟩ := uR
   rw [← uR]
   simp -dsimp -implicitDefEqProofs only [go_sem, ↓reduceIte, Tryz.f143, aKD, gm, sm, aK, aH, o_4.flat, o_4.one, wV, aFY, aZT, aZU]
   refine ⟨(i + 1, g0), ?_⟩
   simp only [t3, t4, j3, hs3]
   refine ⟨?_, aB.le_refl _, ⟨by omega, ?_⟩, by omega⟩
   ·repeat' (with_reducible refine And.intro ?_ ?_)
    all_goals first | rfl | trivial | omega | (rw [IntWalk.i64_in _ (by omega)]; omega)
   ·simpa only [List.append_assoc, List.cons_append, List.nil_append, List.append_nil, OV.cT, OV.eC, OV.j8, cR, dK, cP, eV, eW, fW, OV.dZ, o_4.mk_val, uR] using hr0
  ·have hi2 : i = es.length := by omega
   subst hi2
   rw [List.take_length, List.drop_length, List.append_nil] at hc
   rw [List.take_length]
   simp -dsimp -implicitDefEqProofs only [go_sem, ↓reduceIte, Tryz.f143, Int.lt_irrefl, Nat.lt_irrefl]
   try intro _
   refine ⟨g, aB.le_refl _, ?_⟩
   first | exact hc | exact ⟨rfl, hc⟩
theorem aDP (l : List aA) : aFV Tryz.prog 143 (OS aA.o 5 l) :=
 aBQ l fun x hx => aDP x.aI
termination_by SizeOf.sizeOf l
decreasing_by
 have h1 := List.sizeOf_lt_of_mem hx
 cases x
 simp only [aA.mk.sizeOf_spec, aA.aI] at h1 ⊢
 omega
theorem aMV (l : List aP) : aFV Tryz.prog 64 (OS aP.o 3 l) := by
 intro y k h hy h0 h1 ho nd
 rcases hy with ⟨rfl, hl⟩ | ⟨n, es, rfl, hor⟩
 ·rw [OV.xE, OV.nC, OV.vI, OV.yO]
  refine aAF 35 tI bT bD mix Tryz.func64 rfl (by kernel_rfl) (by simp) ?_
  simp -dsimp -implicitDefEqProofs only [go_sem, ↓reduceIte, Tryz.f64]
  refine bX (keep := tI) (ib := bT) (mk := bD) mix (by kernel_rfl) (fun _ : Unit => [(0, .sl 3 [] true), (1, I k), (5, I 0)]) (fun _ => h) (fun _ => True) (fun _ => 0) () (by simp [b8, bJ, aB.le_refl]) ?_
  intro _ _
  simp -dsimp -implicitDefEqProofs only [go_sem, ↓reduceIte, Tryz.f64, oB, Int.lt_irrefl]
  try intro _
  refine ⟨h, aB.le_refl _, ?_⟩
  first | exact o5.refl (by simp [eM]) | exact ⟨by simp, o5.refl (by simp [eM])⟩
 ·rw [OV.aDL, OV.dI, OV.dI, OV.q9, OV.nD]
  rw [OV.q9] at h1
  rw [OV.dI] at ho nd
  generalize hL0 : (n, bL.row 3 (OV.cells es)) :: OV.bG es = L0 at nd ⊢
  refine aAF 35 tI bT bD mix Tryz.func64 rfl (by kernel_rfl) (by simp) ?_
  simp -dsimp -implicitDefEqProofs only [go_sem, ↓reduceIte, Tryz.f64]
  refine bX (keep := tI) (ib := bT) (mk := bD) mix (by kernel_rfl) (fun x : Nat × aB => [(0, .os n 3 0 es.length), (1, I (k + OV.cU (es.take x.1))), (5, I x.1)]) (fun x => x.2) (fun x => x.1 ≤ es.length ∧ o5 h x.2 L0 ((n, .row 3 (OV.cells (OV.cO k (es.take x.1) ++ es.drop x.1))) :: OV.bG (OV.cO k (es.take x.1) ++ es.drop x.1))) (fun x => es.length - x.1) (0, h) (by
   refine ⟨by simp [b8, bJ, OV.cU], aB.le_refl _, Nat.zero_le _, ?_⟩
   rw [← hL0]
   simpa [OV.cO] using o5.refl ho) ?_
  rintro ⟨i, g⟩ ⟨hi, hc⟩
  simp only at hi hc ⊢
  rcases Nat.lt_or_ge i es.length with hlt | hge
  ·have hll : i < l.length := by rw [hor.length]; exact hlt
   obtain ⟨A, e, B, rfl, hA, he⟩ := hor.split i hll
   have t1 : (A ++ e :: B).take i = A := by rw [← hA]; simp
   have t2 : (A ++ e :: B).drop i = e :: B := by rw [← hA]; simp
   have t0 : A ++ e :: B = (A ++ [e]) ++ B := by simp
   have t3 : (A ++ e :: B).take (i + 1) = A ++ [e] := by rw [t0]; exact List.take_left' (by simp [hA])
   have t4 : (A ++ e :: B).drop (i + 1) = B := by rw [t0]; exact List.drop_left' (by simp [hA])
   clear t0
   have hct := OV.iU A (e :: B)
   rw [OV.cU] at hct
   rw [t1, t2] at hc
   rw [t1]
   have hA2 : (OV.cells (OV.cO k A)).length = i := by rw [OV.cells, List.length_map, OV.jV, hA]
   have j3 := OV.q8 k A e
   have hs3 := OV.mU A e
   obtain ⟨y_2, rfl, o_2⟩ := he
   simp only [OV.n9, OV.pV, OV.aDK, Nat.add_zero, OV.oA, OV.pW, OV.aQP, sD, pX, sE, oT] at hct j3 hs3
   generalize hkk : k + (OV.cU A : Int) = kk at j3 ⊢
   generalize OV.cO k A = A2 at j3 hc hA2
   have gm : ∀ (c : List Cell) (Y : List (List Cell)), (OV.cells A2 ++ c :: Y)[i]? = some c := fun c Y => wD hA2
   have sm : ∀ (c c2 : List Cell) (Y : List (List Cell)), (OV.cells A2 ++ c :: Y).set i c2 = OV.cells A2 ++ c2 :: Y := fun c c2 Y => aBY hA2
   have pB := hc
   simp only [List.append_assoc, List.cons_append, List.nil_append, List.append_nil, OV.cT, OV.eC, OV.j8, cR, dK, cP, eV, eW, fW, OV.dZ] at pB
   have hgn := pB.iJ (n, _) List.mem_cons_self
   simp only at hgn
   have wV : IntKind.i64.wrap (kk + 1) = kk + 1 := IntWalk.i64_in _ (by omega)
   have aFY : IntKind.i64.wrap (kk + 1 + 1) = kk + 1 + 1 := IntWalk.i64_in _ (by omega)
   simp -dsimp -implicitDefEqProofs only [go_sem, ↓reduceIte, Tryz.f64, hgn, gm, sm, aK, aH, o_2.flat, o_2.one, wV, aFY]
   repeat' (with_reducible first | intro _ | refine And.intro ?_ ?_)
   all_goals try omega
   refine aG.mk (aSZ (kk) (by omega)) ?_
   simp -dsimp -implicitDefEqProofs only [go_sem, ↓reduceIte, Tryz.f64, hgn, gm, sm, aK, aH, o_2.flat, o_2.one, wV, aFY]
   repeat' (with_reducible first | intro _ | refine And.intro ?_ ?_)
   all_goals try omega
   have hq0 := pB.trans (o5.set (o' := .row 3 (OV.cells A2 ++ [.v (.str (wU (kk))), .v (.int .i64 (kk + 1)), .v y_2.val] :: OV.cells B)) pB.iJ (pB.nodup nd))
   have hg0 : a5 g n (.row 3 (OV.cells A2 ++ [.v (.str (wU (kk))), .v (.int .i64 (kk + 1)), .v y_2.val] :: OV.cells B)) n = some (.row 3 (OV.cells A2 ++ [.v (.str (wU (kk))), .v (.int .i64 (kk + 1)), .v y_2.val] :: OV.cells B)) := aH _ _ _
   have hp0 : o5 h (a5 g n (.row 3 (OV.cells A2 ++ [.v (.str (wU (kk))), .v (.int .i64 (kk + 1)), .v y_2.val] :: OV.cells B))) L0 (((n, .row 3 (OV.cells A2 ++ [.v (.str (wU (kk))), .v (.int .i64 (kk + 1)), .v y_2.val] :: OV.cells B)) :: (OV.bG A2)) ++ (y_2.rows ++ (OV.bG B))) := by simpa only [List.append_assoc, List.cons_append, List.nil_append, List.append_nil, OV.cT, OV.eC, OV.j8, cR, dK, cP, eV, eW, fW, OV.dZ] using hq0
   refine aG.fF ((aDP l[i].aM) y_2 (kk + 1 + 1) _ o_2 (by omega) (by omega) hp0.iJ.right.left (wC (hp0.nodup nd))) ?_
   rintro r g0 ⟨rfl, aMU⟩
   have hr0 := hp0.trans (o5.mid hp0.iJ (hp0.nodup nd) aMU)
   have aKD := hr0.iJ (n, _) List.mem_cons_self
   simp only at aKD
   have uR : ∃ z : Int, z = kk + 1 + 1 + (y_2.ct : Int) := ⟨_, rfl⟩
   obtain ⟨kk0, uR⟩ := uR
   rw [← uR]
   simp -dsimp -implicitDefEqProofs only [go_sem, ↓reduceIte, Tryz.f64, aKD, gm, sm, aK, aH, o_2.flat, o_2.one, wV, aFY]
   refine ⟨(i + 1, g0), ?_⟩
   simp only [t3, t4, j3, hs3]
   refine ⟨?_, aB.le_refl _, ⟨by omega, ?_⟩, by omega⟩
   ·repeat' (with_reducible refine And.intro ?_ ?_)
    all_goals first | rfl | trivial | omega | (rw [IntWalk.i64_in _ (by omega)]; omega)
   ·simpa only [List.append_assoc, List.cons_append, List.nil_append, List.append_nil, OV.cT, OV.eC, OV.j8, cR, dK, cP, eV, eW, fW, OV.dZ, o_2.mk_val, uR] using hr0
  ·have hi2 : i = es.length := by omega
   subst hi2
   rw [List.take_length, List.drop_length, List.append_nil] at hc
   rw [List.take_length]
   simp -dsimp -implicitDefEqProofs only [go_sem, ↓reduceIte, Tryz.f64, Int.lt_irrefl, Nat.lt_irrefl]
   try intro _
   refine ⟨g, aB.le_refl _, ?_⟩
   first | exact hc | exact ⟨rfl, hc⟩
theorem aG9 (x : aC) : a7L Tryz.prog 15 x.o := by
 intro e k h he h0 h1 ho nd
 obtain ⟨y_0, rfl, o_0⟩ := he
 simp only [OV.aMS, OV.aQQ, OV.a7J, OV.aMT, OV.aQR, OV.a7K, Nat.add_zero, Nat.zero_add, oB, Int.add_zero, Int.zero_add, o_0.ctT, o_0.mkT] at h1 ⊢
 have pB := o5.refl ho
 simp only [List.append_assoc, List.cons_append, List.nil_append, List.append_nil, OV.cT, OV.eC, OV.j8, cR, dK, cP, eV, eW, fW, OV.dZ] at pB nd ⊢
 obtain ⟨L0, hL0⟩ : ∃ L : List (Nat × bL), L = (y_0.rows) := ⟨_, rfl⟩
 replace pB : o5 h h L0 (y_0.rows) := by rw [hL0]; exact pB
 rw [← hL0] at nd ⊢
 refine aAF 10 aZH aML bD mix Tryz.func15 rfl (by kernel_rfl) (by simp) ?_
 simp -dsimp -implicitDefEqProofs only [go_sem, ↓reduceIte, Tryz.f15, OV.dC, OV.bK, OV.dZ, o_0.flat, o_0.one]
 have hp0 : o5 h h L0 ((([] : List (Nat × bL))) ++ ((y_0.rows) ++ (([] : List (Nat × bL))))) := by simpa only [List.append_assoc, List.cons_append, List.nil_append, List.append_nil, OV.cT, OV.eC, OV.j8, cR, dK, cP, eV, eW, fW, OV.dZ] using pB
 refine aG.fF (aMV x.aJ y_0 (k) _ o_0 (by omega) (by omega) hp0.iJ.right.left (wC (hp0.nodup nd))) ?_
 rintro r g0 ⟨rfl, aMU⟩
 have hr0 := hp0.trans (o5.mid hp0.iJ (hp0.nodup nd) (by simpa only [List.append_assoc, List.cons_append, List.nil_append, List.append_nil, OV.cT, OV.eC, OV.j8, cR, dK, cP, eV, eW, fW, OV.dZ] using aMU))
 simp -dsimp -implicitDefEqProofs only [go_sem, ↓reduceIte, Tryz.f15, OV.dC, OV.bK, OV.dZ, o_0.flat, o_0.one]
 refine ⟨g0, aB.le_refl _, ?_⟩
 first
  |exact ⟨by congr 1; omega, by simpa only [List.append_assoc, List.cons_append, List.nil_append, List.append_nil, OV.cT, OV.eC, OV.j8, cR, dK, cP, eV, eW, fW, OV.dZ, Int.natCast_add, ← Int.add_assoc] using hr0⟩
  |exact ⟨by omega, by simpa only [List.append_assoc, List.cons_append, List.nil_append, List.append_nil, OV.cT, OV.eC, OV.j8, cR, dK, cP, eV, eW, fW, OV.dZ, Int.natCast_add, ← Int.add_assoc] using hr0⟩
  |simpa only [List.append_assoc, List.cons_append, List.nil_append, List.append_nil, OV.cT, OV.eC, OV.j8, cR, dK, cP, eV, eW, fW, OV.dZ, Int.natCast_add, ← Int.add_assoc] using hr0
theorem vL (l : List Int) : aFV Tryz.prog 16 (OS (oP I) 1 l) := by
 intro y k h hy h0 h1 ho nd
 rcases hy with ⟨rfl, hl⟩ | ⟨n, es, rfl, hor⟩
 ·rw [OV.xE, OV.nC, OV.vI, OV.yO]
  refine aAF 19 tI bT bD mix Tryz.func16 rfl (by kernel_rfl) (by simp) ?_
  simp -dsimp -implicitDefEqProofs only [go_sem, ↓reduceIte, Tryz.f16]
  refine bX (keep := tI) (ib := bT) (mk := bD) mix (by kernel_rfl) (fun _ : Unit => [(0, .sl 1 [] true), (1, I k), (5, I 0)]) (fun _ => h) (fun _ => True) (fun _ => 0) () (by simp [b8, bJ, aB.le_refl]) ?_
  intro _ _
  simp -dsimp -implicitDefEqProofs only [go_sem, ↓reduceIte, Tryz.f16, oB, Int.lt_irrefl]
  try intro _
  refine ⟨h, aB.le_refl _, ?_⟩
  first | exact o5.refl (by simp [eM]) | exact ⟨by simp, o5.refl (by simp [eM])⟩
 ·rw [OV.aDL, OV.dI, OV.dI, OV.q9, OV.nD]
  rw [OV.q9] at h1
  rw [OV.dI] at ho nd
  generalize hL0 : (n, bL.row 1 (OV.cells es)) :: OV.bG es = L0 at nd ⊢
  refine aAF 19 tI bT bD mix Tryz.func16 rfl (by kernel_rfl) (by simp) ?_
  simp -dsimp -implicitDefEqProofs only [go_sem, ↓reduceIte, Tryz.f16]
  refine bX (keep := tI) (ib := bT) (mk := bD) mix (by kernel_rfl) (fun x : Nat × aB => [(0, .os n 1 0 es.length), (1, I (k + OV.cU (es.take x.1))), (5, I x.1)]) (fun x => x.2) (fun x => x.1 ≤ es.length ∧ o5 h x.2 L0 ((n, .row 1 (OV.cells (OV.cO k (es.take x.1) ++ es.drop x.1))) :: OV.bG (OV.cO k (es.take x.1) ++ es.drop x.1))) (fun x => es.length - x.1) (0, h) (by
   refine ⟨by simp [b8, bJ, OV.cU], aB.le_refl _, Nat.zero_le _, ?_⟩
   rw [← hL0]
   simpa [OV.cO] using o5.refl ho) ?_
  rintro ⟨i, g⟩ ⟨hi, hc⟩
  simp only at hi hc ⊢
  rcases Nat.lt_or_ge i es.length with hlt | hge
  ·have hll : i < l.length := by rw [hor.length]; exact hlt
   obtain ⟨A, e, B, rfl, hA, he⟩ := hor.split i hll
   have t1 : (A ++ e :: B).take i = A := by rw [← hA]; simp
   have t2 : (A ++ e :: B).drop i = e :: B := by rw [← hA]; simp
   have t0 : A ++ e :: B = (A ++ [e]) ++ B := by simp
   have t3 : (A ++ e :: B).take (i + 1) = A ++ [e] := by rw [t0]; exact List.take_left' (by simp [hA])
   have t4 : (A ++ e :: B).drop (i + 1) = B := by rw [t0]; exact List.drop_left' (by simp [hA])
   clear t0
   have hct := OV.iU A (e :: B)
   rw [OV.cU] at hct
   rw [t1, t2] at hc
   rw [t1]
   have hA2 : (OV.cells (OV.cO k A)).length = i := by rw [OV.cells, List.length_map, OV.jV, hA]
   have j3 := OV.q8 k A e
   have hs3 := OV.mU A e
   obtain rfl : _ = _ := he
   simp only [OV.n9, OV.pV, OV.aDK, Nat.add_zero, OV.oA, OV.pW, OV.aQP, sD, pX, sE, oT] at hct j3 hs3
   generalize hkk : k + (OV.cU A : Int) = kk at j3 ⊢
   generalize OV.cO k A = A2 at j3 hc hA2
   have gm : ∀ (c : List Cell) (Y : List (List Cell)), (OV.cells A2 ++ c :: Y)[i]? = some c := fun c Y => wD hA2
   have sm : ∀ (c c2 : List Cell) (Y : List (List Cell)), (OV.cells A2 ++ c :: Y).set i c2 = OV.cells A2 ++ c2 :: Y := fun c c2 Y => aBY hA2
   have pB := hc
   simp only [List.append_assoc, List.cons_append, List.nil_append, List.append_nil, OV.cT, OV.eC, OV.j8, cR, dK, cP, eV, eW, fW, OV.dZ] at pB
   have hgn := pB.iJ (n, _) List.mem_cons_self
   simp only at hgn
   have wV : IntKind.i64.wrap (kk + 1) = kk + 1 := IntWalk.i64_in _ (by omega)
   simp -dsimp -implicitDefEqProofs only [go_sem, ↓reduceIte, Tryz.f16, hgn, gm, sm, aK, aH, wV]
   repeat' (with_reducible first | intro _ | refine And.intro ?_ ?_)
   all_goals try omega
   have hq0 := pB.trans (o5.set (o' := .row 1 (OV.cells A2 ++ [.v (.int .i64 (kk))] :: OV.cells B)) pB.iJ (pB.nodup nd))
   have hg0 : a5 g n (.row 1 (OV.cells A2 ++ [.v (.int .i64 (kk))] :: OV.cells B)) n = some (.row 1 (OV.cells A2 ++ [.v (.int .i64 (kk))] :: OV.cells B)) := aH _ _ _
   refine ⟨(i + 1, (a5 g n (.row 1 (OV.cells A2 ++ [.v (.int .i64 (kk))] :: OV.cells B)))), ?_⟩
   simp only [t3, t4, j3, hs3]
   refine ⟨?_, aB.le_refl _, ⟨by omega, ?_⟩, by omega⟩
   ·repeat' (with_reducible refine And.intro ?_ ?_)
    all_goals first | rfl | trivial | omega | (rw [IntWalk.i64_in _ (by omega)]; omega)
   ·simpa only [List.append_assoc, List.cons_append, List.nil_append, List.append_nil, OV.cT, OV.eC, OV.j8, cR, dK, cP, eV, eW, fW, OV.dZ] using hq0
  ·have hi2 : i = es.length := by omega
   subst hi2
   rw [List.take_length, List.drop_length, List.append_nil] at hc
   rw [List.take_length]
   simp -dsimp -implicitDefEqProofs only [go_sem, ↓reduceIte, Tryz.f16, Int.lt_irrefl, Nat.lt_irrefl]
   try intro _
   refine ⟨g, aB.le_refl _, ?_⟩
   first | exact hc | exact ⟨rfl, hc⟩
theorem aHA (l : List (List Int)) : aFV Tryz.prog 17 (OS (oS (oP I) 1) 1 l) := by
 intro y k h hy h0 h1 ho nd
 rcases hy with ⟨rfl, hl⟩ | ⟨n, es, rfl, hor⟩
 ·rw [OV.xE, OV.nC, OV.vI, OV.yO]
  refine aAF 19 tI bT bD mix Tryz.func17 rfl (by kernel_rfl) (by simp) ?_
  simp -dsimp -implicitDefEqProofs only [go_sem, ↓reduceIte, Tryz.f17]
  refine bX (keep := tI) (ib := bT) (mk := bD) mix (by kernel_rfl) (fun _ : Unit => [(0, .sl 1 [] true), (1, I k), (5, I 0)]) (fun _ => h) (fun _ => True) (fun _ => 0) () (by simp [b8, bJ, aB.le_refl]) ?_
  intro _ _
  simp -dsimp -implicitDefEqProofs only [go_sem, ↓reduceIte, Tryz.f17, oB, Int.lt_irrefl]
  try intro _
  refine ⟨h, aB.le_refl _, ?_⟩
  first | exact o5.refl (by simp [eM]) | exact ⟨by simp, o5.refl (by simp [eM])⟩
 ·rw [OV.aDL, OV.dI, OV.dI, OV.q9, OV.nD]
  rw [OV.q9] at h1
  rw [OV.dI] at ho nd
  generalize hL0 : (n, bL.row 1 (OV.cells es)) :: OV.bG es = L0 at nd ⊢
  refine aAF 19 tI bT bD mix Tryz.func17 rfl (by kernel_rfl) (by simp) ?_
  simp -dsimp -implicitDefEqProofs only [go_sem, ↓reduceIte, Tryz.f17]
  refine bX (keep := tI) (ib := bT) (mk := bD) mix (by kernel_rfl) (fun x : Nat × aB => [(0, .os n 1 0 es.length), (1, I (k + OV.cU (es.take x.1))), (5, I x.1)]) (fun x => x.2) (fun x => x.1 ≤ es.length ∧ o5 h x.2 L0 ((n, .row 1 (OV.cells (OV.cO k (es.take x.1) ++ es.drop x.1))) :: OV.bG (OV.cO k (es.take x.1) ++ es.drop x.1))) (fun x => es.length - x.1) (0, h) (by
   refine ⟨by simp [b8, bJ, OV.cU], aB.le_refl _, Nat.zero_le _, ?_⟩
   rw [← hL0]
   simpa [OV.cO] using o5.refl ho) ?_
  rintro ⟨i, g⟩ ⟨hi, hc⟩
  simp only at hi hc ⊢
  rcases Nat.lt_or_ge i es.length with hlt | hge
  ·have hll : i < l.length := by rw [hor.length]; exact hlt
   obtain ⟨A, e, B, rfl, hA, he⟩ := hor.split i hll
   have t1 : (A ++ e :: B).take i = A := by rw [← hA]; simp
   have t2 : (A ++ e :: B).drop i = e :: B := by rw [← hA]; simp
   have t0 : A ++ e :: B = (A ++ [e]) ++ B := by simp
   have t3 : (A ++ e :: B).take (i + 1) = A ++ [e] := by rw [t0]; exact List.take_left' (by simp [hA])
   have t4 : (A ++ e :: B).drop (i + 1) = B := by rw [t0]; exact List.drop_left' (by simp [hA])
   clear t0
   have hct := OV.iU A (e :: B)
   rw [OV.cU] at hct
   rw [t1, t2] at hc
   rw [t1]
   have hA2 : (OV.cells (OV.cO k A)).length = i := by rw [OV.cells, List.length_map, OV.jV, hA]
   have j3 := OV.q8 k A e
   have hs3 := OV.mU A e
   obtain ⟨y_0, rfl, o_0⟩ := he
   simp only [OV.n9, OV.pV, OV.aDK, Nat.add_zero, OV.oA, OV.pW, OV.aQP, sD, pX, sE, oT] at hct j3 hs3
   generalize hkk : k + (OV.cU A : Int) = kk at j3 ⊢
   generalize OV.cO k A = A2 at j3 hc hA2
   have gm : ∀ (c : List Cell) (Y : List (List Cell)), (OV.cells A2 ++ c :: Y)[i]? = some c := fun c Y => wD hA2
   have sm : ∀ (c c2 : List Cell) (Y : List (List Cell)), (OV.cells A2 ++ c :: Y).set i c2 = OV.cells A2 ++ c2 :: Y := fun c c2 Y => aBY hA2
   have pB := hc
   simp only [List.append_assoc, List.cons_append, List.nil_append, List.append_nil, OV.cT, OV.eC, OV.j8, cR, dK, cP, eV, eW, fW, OV.dZ] at pB
   have hgn := pB.iJ (n, _) List.mem_cons_self
   simp only at hgn
   simp -dsimp -implicitDefEqProofs only [go_sem, ↓reduceIte, Tryz.f17, hgn, gm, sm, aK, aH, o_0.flat, o_0.one]
   repeat' (with_reducible first | intro _ | refine And.intro ?_ ?_)
   all_goals try omega
   have hp0 : o5 h g L0 (((n, .row 1 (OV.cells A2 ++ [.v y_0.val] :: OV.cells B)) :: (OV.bG A2)) ++ (y_0.rows ++ (OV.bG B))) := by simpa only [List.append_assoc, List.cons_append, List.nil_append, List.append_nil, OV.cT, OV.eC, OV.j8, cR, dK, cP, eV, eW, fW, OV.dZ] using pB
   refine aG.fF ((vL l[i]) y_0 (kk) _ o_0 (by omega) (by omega) hp0.iJ.right.left (wC (hp0.nodup nd))) ?_
   rintro r g0 ⟨rfl, aMU⟩
   have hr0 := hp0.trans (o5.mid hp0.iJ (hp0.nodup nd) aMU)
   have aKD := hr0.iJ (n, _) List.mem_cons_self
   simp only at aKD
   have uR : ∃ z : Int, z = kk + (y_0.ct : Int) := ⟨_, rfl⟩
   obtain ⟨kk0, uR⟩ := uR
   rw [← uR]
   simp -dsimp -implicitDefEqProofs only [go_sem, ↓reduceIte, Tryz.f17, aKD, gm, sm, aK, aH, o_0.flat, o_0.one]
   refine ⟨(i + 1, g0), ?_⟩
   simp only [t3, t4, j3, hs3]
   refine ⟨?_, aB.le_refl _, ⟨by omega, ?_⟩, by omega⟩
   ·repeat' (with_reducible refine And.intro ?_ ?_)
    all_goals first | rfl | trivial | omega | (rw [IntWalk.i64_in _ (by omega)]; omega)
   ·simpa only [List.append_assoc, List.cons_append, List.nil_append, List.append_nil, OV.cT, OV.eC, OV.j8, cR, dK, cP, eV, eW, fW, OV.dZ, o_0.mk_val, uR] using hr0
  ·have hi2 : i = es.length := by omega
   subst hi2
   rw [List.take_length, List.drop_length, List.append_nil] at hc
   rw [List.take_length]
   simp -dsimp -implicitDefEqProofs only [go_sem, ↓reduceIte, Tryz.f17, Int.lt_irrefl, Nat.lt_irrefl]
   try intro _
   refine ⟨g, aB.le_refl _, ?_⟩
   first | exact hc | exact ⟨rfl, hc⟩
@[go_sem] def aHB : List Nat := [0, 1, 4, 5, 9, 17]
theorem aKE (l : List Int) : aZN Tryz.prog 65 (OS (oP I) 1 l) := by
 intro y k hy h0 h1
 rcases hy with ⟨rfl, hl⟩ | ⟨n, es, rfl, hor⟩
 ·rw [OV.xE, aOO, OV.vI]
  refine dS 21 aHB bT bD mix Tryz.func65 rfl (by kernel_rfl) (by simp) fun h => ?_
  simp -dsimp -implicitDefEqProofs only [go_sem, ↓reduceIte, Tryz.f65]
  refine bX (keep := aHB) (ib := bT) (mk := bD) mix (by kernel_rfl) (fun _ : Unit => [(0, .sl 1 [] false), (1, I k), (5, I 0)]) (fun _ => h) (fun _ => True) (fun _ => 0) () (by simp [b8, bJ, aB.le_refl]) ?_
  intro _ _
  simp -dsimp -implicitDefEqProofs only [go_sem, ↓reduceIte, Tryz.f65, oB, Int.lt_irrefl]
  first | done | (intro _; simp) | simp
 ·rw [OV.aDL, aSU, OV.q9]
  rw [OV.q9] at h1
  have hlen : (OV.cS (OV.cO k es)).length = es.length := by rw [rA, OV.jV]
  refine dS 21 aHB bT bD mix Tryz.func65 rfl (by kernel_rfl) (by simp) fun h => ?_
  simp -dsimp -implicitDefEqProofs only [go_sem, ↓reduceIte, Tryz.f65, hlen]
  refine bX (keep := aHB) (ib := bT) (mk := bD) mix (by kernel_rfl) (fun i : Nat => [(0, .sl 1 (OV.cS (OV.cO k es)) false), (1, I (k + OV.cU (es.take i))), (5, I i)]) (fun _ => h) (fun i => i ≤ es.length) (fun i => es.length - i) 0 (by simp [b8, bJ, OV.cU, aB.le_refl]) ?_
  intro i hi
  rcases Nat.lt_or_ge i es.length with hlt | hge
  ·have hll : i < l.length := by rw [hor.length]; exact hlt
   obtain ⟨A, e, B, rfl, hA, he⟩ := hor.split i hll
   have t1 : (A ++ e :: B).take i = A := by rw [← hA]; simp
   have t0 : A ++ e :: B = (A ++ [e]) ++ B := by simp
   have t3 : (A ++ e :: B).take (i + 1) = A ++ [e] := by rw [t0]; exact List.take_left' (by simp [hA])
   clear t0
   have hct := OV.iU A (e :: B)
   rw [OV.cU] at hct
   rw [t1]
   have hs3 := OV.mU A e
   have hD : OV.cS (OV.cO k (A ++ e :: B)) = OV.cS (OV.cO k A) ++ (OV.uK (k + (OV.cU A : Int)) e).map OV.lA :: OV.cS (OV.cO (k + (OV.cU A : Int) + (OV.jZ e : Int)) B) := by
    rw [OV.oJ, vJ, OV.cO, yP]
   have hA2 : (OV.cS (OV.cO k A)).length = i := by rw [rA, OV.jV, hA]
   have hi2 : (i : Int) < (A ++ e :: B).length := by omega
   obtain rfl : _ = _ := he
   simp only [OV.n9, OV.pV, OV.aDK, Nat.add_zero, oT] at hct hs3
   generalize hkk : k + (OV.cU A : Int) = kk at hD ⊢
   have gm : (OV.cS (OV.cO k (A ++ [.v (.int .i64 l[i])] :: B)))[i]? = some ((OV.uK kk [.v (.int .i64 l[i])]).map OV.lA) := by rw [hD]; exact wD hA2
   simp only [OV.oA, OV.pW, OV.aQP, sD, pX, sE, OV.aDK, oT, yQ, aBE, aZM] at gm
   clear hD
   generalize OV.cS (OV.cO k (A ++ [.v (.int .i64 l[i])] :: B)) = DD at gm hlen ⊢
   have wV : IntKind.i64.wrap (kk + 1) = kk + 1 := IntWalk.i64_in _ (by omega)
   simp -dsimp -implicitDefEqProofs only [go_sem, ↓reduceIte, Tryz.f65, hlen, hi2, gm, eq_self, decide_true, Bool.not_true, bne_self_eq_false, wV]
   repeat' (with_reducible first | intro _ | refine And.intro ?_ ?_)
   all_goals try omega
   all_goals try (exact absurd rfl (by assumption))
   refine ⟨i + 1, ?_⟩
   simp only [t3, hs3]
   repeat' (with_reducible first | intro _ | refine And.intro ?_ ?_)
   all_goals first | rfl | trivial | omega | exact aB.le_refl _ | (rw [IntWalk.i64_in _ (by omega)]; omega)
  ·have hi2 : i = es.length := by omega
   subst hi2
   rw [List.take_length]
   simp -dsimp -implicitDefEqProofs only [go_sem, ↓reduceIte, Tryz.f65, hlen, Int.lt_irrefl, Nat.lt_irrefl]
   first | done | (intro _; rfl) | rfl
@[go_sem] def aHC : List Nat := [0, 1, 4, 5, 9, 19]
theorem yR (l : List (List Int)) : aZN Tryz.prog 18 (OS (oS (oP I) 1) 1 l) := by
 intro y k hy h0 h1
 rcases hy with ⟨rfl, hl⟩ | ⟨n, es, rfl, hor⟩
 ·rw [OV.xE, aOO, OV.vI]
  refine dS 21 aHC bT bD mix Tryz.func18 rfl (by kernel_rfl) (by simp) fun h => ?_
  simp -dsimp -implicitDefEqProofs only [go_sem, ↓reduceIte, Tryz.f18]
  refine bX (keep := aHC) (ib := bT) (mk := bD) mix (by kernel_rfl) (fun _ : Unit => [(0, .sl 1 [] false), (1, I k), (5, I 0)]) (fun _ => h) (fun _ => True) (fun _ => 0) () (by simp [b8, bJ, aB.le_refl]) ?_
  intro _ _
  simp -dsimp -implicitDefEqProofs only [go_sem, ↓reduceIte, Tryz.f18, oB, Int.lt_irrefl]
  first | done | (intro _; simp) | simp
 ·rw [OV.aDL, aSU, OV.q9]
  rw [OV.q9] at h1
  have hlen : (OV.cS (OV.cO k es)).length = es.length := by rw [rA, OV.jV]
  refine dS 21 aHC bT bD mix Tryz.func18 rfl (by kernel_rfl) (by simp) fun h => ?_
  simp -dsimp -implicitDefEqProofs only [go_sem, ↓reduceIte, Tryz.f18, hlen]
  refine bX (keep := aHC) (ib := bT) (mk := bD) mix (by kernel_rfl) (fun i : Nat => [(0, .sl 1 (OV.cS (OV.cO k es)) false), (1, I (k + OV.cU (es.take i))), (5, I i)]) (fun _ => h) (fun i => i ≤ es.length) (fun i => es.length - i) 0 (by simp [b8, bJ, OV.cU, aB.le_refl]) ?_
  intro i hi
  rcases Nat.lt_or_ge i es.length with hlt | hge
  ·have hll : i < l.length := by rw [hor.length]; exact hlt
   obtain ⟨A, e, B, rfl, hA, he⟩ := hor.split i hll
   have t1 : (A ++ e :: B).take i = A := by rw [← hA]; simp
   have t0 : A ++ e :: B = (A ++ [e]) ++ B := by simp
   have t3 : (A ++ e :: B).take (i + 1) = A ++ [e] := by rw [t0]; exact List.take_left' (by simp [hA])
   clear t0
   have hct := OV.iU A (e :: B)
   rw [OV.cU] at hct
   rw [t1]
   have hs3 := OV.mU A e
   have hD : OV.cS (OV.cO k (A ++ e :: B)) = OV.cS (OV.cO k A) ++ (OV.uK (k + (OV.cU A : Int)) e).map OV.lA :: OV.cS (OV.cO (k + (OV.cU A : Int) + (OV.jZ e : Int)) B) := by
    rw [OV.oJ, vJ, OV.cO, yP]
   have hA2 : (OV.cS (OV.cO k A)).length = i := by rw [rA, OV.jV, hA]
   have hi2 : (i : Int) < (A ++ e :: B).length := by omega
   obtain ⟨y_0, rfl, o_0⟩ := he
   simp only [OV.n9, OV.pV, OV.aDK, Nat.add_zero, oT] at hct hs3
   generalize hkk : k + (OV.cU A : Int) = kk at hD ⊢
   have gm : (OV.cS (OV.cO k (A ++ [y_0] :: B)))[i]? = some ((OV.uK kk [y_0]).map OV.lA) := by rw [hD]; exact wD hA2
   simp only [OV.oA, OV.pW, OV.aQP, sD, pX, sE, OV.aDK, oT, yQ, aBE, aZM] at gm
   clear hD
   generalize OV.cS (OV.cO k (A ++ [y_0] :: B)) = DD at gm hlen ⊢
   simp -dsimp -implicitDefEqProofs only [go_sem, ↓reduceIte, Tryz.f18, hlen, hi2, gm, eq_self, decide_true, Bool.not_true, bne_self_eq_false]
   repeat' (with_reducible first | intro _ | refine And.intro ?_ ?_)
   all_goals try omega
   all_goals try (exact absurd rfl (by assumption))
   refine aG.mk ((aKE l[i]) y_0 (kk) o_0 (by omega) (by omega)) ?_
   have uR : ∃ z : Int, z = kk + (y_0.ct : Int) := ⟨_, rfl⟩
   obtain ⟨kk0, uR⟩ := uR
   rw [← uR]
   simp -dsimp -implicitDefEqProofs only [go_sem, ↓reduceIte, Tryz.f18, hlen, hi2, gm, eq_self, decide_true, Bool.not_true, bne_self_eq_false]
   repeat' (with_reducible first | intro _ | refine And.intro ?_ ?_)
   all_goals try omega
   all_goals try (exact absurd rfl (by assumption))
   refine ⟨i + 1, ?_⟩
   simp only [t3, hs3]
   repeat' (with_reducible first | intro _ | refine And.intro ?_ ?_)
   all_goals first | rfl | trivial | omega | exact aB.le_refl _ | (rw [IntWalk.i64_in _ (by omega)]; omega)
  ·have hi2 : i = es.length := by omega
   subst hi2
   rw [List.take_length]
   simp -dsimp -implicitDefEqProofs only [go_sem, ↓reduceIte, Tryz.f18, hlen, Int.lt_irrefl, Nat.lt_irrefl]
   first | done | (intro _; rfl) | rfl
theorem eD (n a b : Int) : dV Tryz.prog 86 [I n, I a, I b] (.bool (decide (a ≤ n ∧ n ≤ b))) := by
 refine dS 15 aZI bT bD mix Tryz.func86 rfl (by kernel_rfl) (by simp) fun h => ?_
 simp -dsimp -implicitDefEqProofs only [go_sem, ↓reduceIte, Tryz.f86]
 repeat' (with_reducible first | intro _ | refine And.intro ?_ ?_)
 all_goals try (first | (simp [*]; done) | omega | grind)
theorem within (n a b : Int) : dV Tryz.prog 116 [I n, I a, I b] (.bool (decide (a ≤ n ∧ n ≤ b))) := by
 refine dS 15 aZI bT bD mix Tryz.func116 rfl (by kernel_rfl) (by simp) fun h => ?_
 simp -dsimp -implicitDefEqProofs only [go_sem, ↓reduceIte, Tryz.f116]
 repeat' (with_reducible first | intro _ | refine And.intro ?_ ?_)
 all_goals try (first | (simp [*]; done) | omega | grind)
theorem mW (n : Int) : dV Tryz.prog 183 [I n] (.bool (decide (iI n))) := by
 refine dS 5 aAH bT bD mix Tryz.func183 rfl (by kernel_rfl) (by simp) fun h => ?_
 simp -dsimp -implicitDefEqProofs only [go_sem, ↓reduceIte, Tryz.f183]
 first | refine aG.mk (eD n 0 1000002) ?_ | refine aE.mk (eD n 0 1000002) ?_ | refine aG.a8 (eD n 0 1000002) ?_ | refine aE.mk (a6.cK (eD n 0 1000002)) ?_
 simp -dsimp -implicitDefEqProofs only [go_sem, ↓reduceIte, Tryz.f183]
 all_goals rfl
theorem oV (n : Int) : dV Tryz.prog 168 [I n] (.bool (decide (iI n))) := by
 refine dS 5 aAH bT bD mix Tryz.func168 rfl (by kernel_rfl) (by simp) fun h => ?_
 simp -dsimp -implicitDefEqProofs only [go_sem, ↓reduceIte, Tryz.f168]
 first | refine aG.mk (within n 0 1000002) ?_ | refine aE.mk (within n 0 1000002) ?_ | refine aG.a8 (within n 0 1000002) ?_ | refine aE.mk (a6.cK (within n 0 1000002)) ?_
 simp -dsimp -implicitDefEqProofs only [go_sem, ↓reduceIte, Tryz.f168]
 all_goals rfl
@[go_sem] def aOV : List Nat := [0, 2, 3, 7, 15]
theorem tQ (l : List Int) : dV Tryz.prog 124 [dB 1 (fun n => [I n]) l] (.bool (decide (dP l))) := by
 refine dS 16 aOV bT bD mix Tryz.func124 rfl (by kernel_rfl) (by simp) fun h => ?_
 simp -dsimp -implicitDefEqProofs only [go_sem, ↓reduceIte, Tryz.f124]
 refine bX (keep := aOV) (ib := bT) (mk := bD) mix (by kernel_rfl) (fun k : Nat => [(0, dB 1 (fun n => [I n]) l), (3, I k)]) (fun _ => h) (fun k => k ≤ (l).length ∧ ∀ x ∈ (l).take k, iI x) (fun k => (l).length - k) 0 (by simp [b8, bJ, aB.le_refl]) ?_
 intro k ⟨hk, hp⟩
 rcases Nat.lt_or_ge k (l).length with hlt | hge
 ·have ea : (l)[k]? = some (l)[k] := List.getElem?_eq_getElem hlt
  simp -dsimp -implicitDefEqProofs only [go_sem, ↓reduceIte, Tryz.f124, ea]
  repeat' (with_reducible first | intro _ | refine And.intro ?_ ?_)
  all_goals try omega
  first | refine aG.mk (mW l[k]) ?_ | refine aE.mk (mW l[k]) ?_ | refine aG.a8 (mW l[k]) ?_ | refine aE.mk (a6.cK (mW l[k])) ?_
  simp -dsimp -implicitDefEqProofs only [go_sem, ↓reduceIte, Tryz.f124]
  repeat' (with_reducible first | intro _ | refine And.intro ?_ ?_)
  ·rename_i he
   exact (decide_eq_false fun e => he (e _ (List.getElem_mem hlt))).symm
  ·rename_i he
   refine ⟨k + 1, ?_⟩
   repeat' (with_reducible refine And.intro ?_ ?_)
   all_goals try (rw [IntWalk.i64_in _ (by omega)]; first | rfl | omega)
   all_goals try omega
   all_goals try (repeat' (with_reducible first | exact aB.le_refl _ | refine (bF (by first | assumption | exact And.right (by assumption) | exact b9.2 (by assumption))).2 ?_))
   exact qA hlt hp he
 ·have hk' : k = (l).length := by omega
  subst hk'
  rw [List.take_length] at hp
  simp -dsimp -implicitDefEqProofs only [go_sem, ↓reduceIte, Tryz.f124, Nat.lt_irrefl]
  intro _
  exact (decide_eq_true hp).symm
theorem aKJ (a : List Int) (p : Int → Bool) (g : FuncId) (cap : List aD) {h0 : aB} (hc : ∀ x ∈ a, a6 Tryz.prog g ([(.int .i64 x)] ++ cap) (.bool (p x)) h0) : a6 Tryz.prog 197 [(dB 1 (fun n => [I n]) a), .fn (.func g) [] cap] (I (idxOf p a)) h0 := by
 refine aJY 19 aOD bT bD mix Tryz.func197 rfl (by kernel_rfl) (by simp) fun h hle => ?_
 simp -dsimp -implicitDefEqProofs only [go_sem, ↓reduceIte, Tryz.f197, Tryz.f197]
 intro _
 refine bX (keep := aOD) (ib := bT) (mk := bD) mix (by kernel_rfl) (fun k : Nat => [(0, (dB 1 (fun n => [I n]) a)), (1, .fn (.func g) [] cap), (7, I a.length), (8, I k)]) (fun _ => h) (fun k => k ≤ a.length ∧ ∀ x ∈ a.take k, p x = false) (fun k => a.length - k) 0 (by simp [b8, bJ, aB.le_refl]) ?_
 intro k ⟨hk, hp⟩
 rcases Nat.lt_or_ge k a.length with hlt | hge
 ·have ea : a[k]? = some a[k] := List.getElem?_eq_getElem hlt
  simp -dsimp -implicitDefEqProofs only [go_sem, ↓reduceIte, Tryz.f197, Tryz.f197, ea]
  repeat' (with_reducible first | intro _ | refine And.intro ?_ ?_)
  all_goals try omega
  have hx := hc a[k] (List.getElem_mem hlt)
  refine aG.a8 (hx.mono hle) ?_
  cases hpk : p a[k] with
  |true =>
   simp -dsimp -implicitDefEqProofs only [go_sem, ↓reduceIte, Tryz.f197, Tryz.f197]
   repeat' (with_reducible first | intro _ | refine And.intro ?_ ?_)
   all_goals first | exact (tN hlt hp hpk).symm | rfl | (rw [tN hlt hp hpk])
  |false =>
   simp -dsimp -implicitDefEqProofs only [go_sem, ↓reduceIte, Tryz.f197, Tryz.f197]
   refine ⟨k + 1, ?_⟩
   repeat' (with_reducible refine And.intro ?_ ?_)
   all_goals try (rw [IntWalk.i64_in _ (by omega)]; first | rfl | omega)
   all_goals try omega
   exact qA (P := fun x => p x = false) hlt hp hpk
 ·have hk' : k = a.length := by omega
  subst hk'
  rw [List.take_length] at hp
  simp -dsimp -implicitDefEqProofs only [go_sem, ↓reduceIte, Tryz.f197, Tryz.f197, Nat.lt_irrefl]
  all_goals first | exact (tM hp).symm | rw [tM hp]
theorem rE (a : List Int) (p : Int → Bool) (g : FuncId) (cap : List aD) {h0 : aB} (hc : ∀ x ∈ a, a6 Tryz.prog g ([(.int .i64 x)] ++ cap) (.bool (p x)) h0) : a6 Tryz.prog 166 [(dB 1 (fun n => [I n]) a), .fn (.func g) [] cap] (.bool (a.any p)) h0 := by
 refine aJY 9 aAI bT bD mix Tryz.func166 rfl (by kernel_rfl) (by simp) fun h hle => ?_
 simp -dsimp -implicitDefEqProofs only [go_sem, ↓reduceIte, Tryz.f166, Tryz.f166]
 refine aG.a8 ((aKJ a p g cap hc).mono hle) ?_
 simp -dsimp -implicitDefEqProofs only [go_sem, ↓reduceIte, Tryz.f166, Tryz.f166]
 all_goals first | done | exact pI | rw [pI]
theorem rF (n : Int) : dV Tryz.prog 167 [I n] (.bool (!decide (iI n))) := by
 refine dS 6 aAH bT bD mix Tryz.func167 rfl (by kernel_rfl) (by simp) fun h => ?_
 simp -dsimp -implicitDefEqProofs only [go_sem, ↓reduceIte, Tryz.f167]
 first | refine aG.mk (oV n) ?_ | refine aE.mk (oV n) ?_ | refine aG.a8 (oV n) ?_ | refine aE.mk (a6.cK (oV n)) ?_
 simp -dsimp -implicitDefEqProofs only [go_sem, ↓reduceIte, Tryz.f167]
theorem aDR (l : List Int) (c : Int) : dV Tryz.prog 93 [dB 1 (fun n => [I n]) l, I c] (.bool (decide ((l.length : Int) = c ∧ dP l))) := by
 refine dS 14 aAI bT bD mix Tryz.func93 rfl (by kernel_rfl) (by simp) fun h => ?_
 simp -dsimp -implicitDefEqProofs only [go_sem, ↓reduceIte, Tryz.f93]
 repeat' (with_reducible first | intro _ | refine And.intro ?_ ?_)
 all_goals try (first | (simp [*]; done) | omega | grind)
 first | refine aG.mk (rE l (fun n => !decide (iI n)) 167 [] fun x _ => (rF x).aWI) ?_ | refine aE.mk (rE l (fun n => !decide (iI n)) 167 [] fun x _ => (rF x).aWI) ?_ | refine aG.a8 (rE l (fun n => !decide (iI n)) 167 [] fun x _ => (rF x).aWI) ?_ | refine aE.mk (a6.cK (rE l (fun n => !decide (iI n)) 167 [] fun x _ => (rF x).aWI)) ?_
 simp -dsimp -implicitDefEqProofs only [go_sem, ↓reduceIte, Tryz.f93]
 rename_i e
 rw [aWK, decide_eq_decide]
 exact ⟨fun q => ⟨e, q⟩, fun q => q.2⟩
def Low (c : UInt8) : Prop := 97 ≤ c.toNat ∧ c.toNat ≤ 122
def Dig (c : UInt8) : Prop := 48 ≤ c.toNat ∧ c.toNat ≤ 57
instance (c : UInt8) : Decidable (Low c) := inferInstanceAs (Decidable (_ ∧ _))
instance (c : UInt8) : Decidable (Dig c) := inferInstanceAs (Decidable (_ ∧ _))
def yV (s : List UInt8) : Prop := 1 ≤ s.length ∧ s.length ≤ 12 ∧ (∀ c, s[0]? = some c → Low c) ∧ ∀ c ∈ s, Low c ∨ Dig c
noncomputable instance (s : List UInt8) : Decidable (yV s) := Classical.propDecidable _
theorem aF0 {s : List UInt8} {k : Nat} {c : UInt8} (h : k < s.length) (ec : s[k] = c) (hp : ∀ x ∈ s.take k, Low x ∨ Dig x) (he : Low c ∨ Dig c) : ∀ x ∈ s.take (k + 1), Low x ∨ Dig x :=
 qA (P := fun x => Low x ∨ Dig x) h hp (by rw [ec]; exact he)
theorem aKK {s : List UInt8} {k : Nat} {c : UInt8} (h : k < s.length) (ec : s[k] = c) (he : ¬ (Low c ∨ Dig c)) : false = decide (yV s) :=
 (decide_eq_false fun e => he (ec ▸ e.2.2.2 _ (List.getElem_mem h))).symm
theorem aQW {s : List UInt8} {k : Nat} {c : UInt8} (h : k < s.length) (h0 : (k : Int) = 0) (ec : s[k] = c) (he : ¬ Low c) : false = decide (yV s) :=
 (decide_eq_false fun e => he (e.2.2.1 c (by have : k = 0 := by omega
                                             subst this; rw [List.getElem?_eq_getElem h, ec]))).symm
@[go_sem] def aHD : List Nat := [0, 2, 3, 17, 21, 45]
theorem tR (s : List UInt8) : dV Tryz.prog 216 [.str s] (.bool (decide (yV s))) := by
 cases s with
 |nil =>
  refine dS 46 aHD bT bD mix Tryz.func216 rfl (by kernel_rfl) (by simp) fun h => ?_
  simp -dsimp -implicitDefEqProofs only [go_sem, ↓reduceIte, Tryz.f216]
  first | refine aG.mk (eD 0 1 12) ?_ | refine aE.mk (eD 0 1 12) ?_ | refine aG.a8 (eD 0 1 12) ?_ | refine aE.mk (a6.cK (eD 0 1 12)) ?_
  simp -dsimp -implicitDefEqProofs only [go_sem, ↓reduceIte, Tryz.f216]
  repeat' (with_reducible first | intro _ | refine And.intro ?_ ?_)
  all_goals try (first | (simp [yV, *]; done) | omega | (grind [yV]) | (simp [yV]; omega))
 |cons c t =>
  refine dS 46 aHD bT bD mix Tryz.func216 rfl (by kernel_rfl) (by simp) fun h => ?_
  simp -dsimp -implicitDefEqProofs only [go_sem, ↓reduceIte, Tryz.f216, List.getElem?_cons_zero, Int.toNat_zero]
  intro _
  first | refine aG.mk (eD (c :: t).length 1 12) ?_ | refine aE.mk (eD (c :: t).length 1 12) ?_ | refine aG.a8 (eD (c :: t).length 1 12) ?_ | refine aE.mk (a6.cK (eD (c :: t).length 1 12)) ?_
  simp -dsimp -implicitDefEqProofs only [go_sem, ↓reduceIte, Tryz.f216, List.getElem?_cons_zero, Int.toNat_zero]
  repeat' (with_reducible first | intro _ | refine And.intro ?_ ?_)
  all_goals try (first | (simp [yV, Low, Dig, *]; done) | omega | (grind [yV, Low, Dig]) | (simp [yV, Low, Dig]; omega))
  rename_i h0 h1 h2 h3
  generalize hs : c :: t = s at *
  refine bX (keep := aHD) (ib := bT) (mk := bD) mix (by kernel_rfl) (fun k : Nat => [(0, .str s), (3, I k)]) (fun _ => h) (fun k => k ≤ s.length ∧ ∀ x ∈ s.take k, Low x ∨ Dig x) (fun k => s.length - k) 0 (by simp [b8, bJ, aB.le_refl]) ?_
  intro k ⟨hk, hp⟩
  rcases Nat.lt_or_ge k s.length with hlt | hge
  ·generalize ec : s[k] = d
   have ea : s[k]? = some d := by rw [← ec]; exact List.getElem?_eq_getElem hlt
   simp -dsimp -implicitDefEqProofs only [go_sem, ↓reduceIte, Tryz.f216, ea, Int.toNat_natCast]
   repeat' (with_reducible first | intro _ | refine And.intro ?_ ?_)
   all_goals try omega
   all_goals try exact aKK hlt ec (by simp only [Low, Dig]; omega)
   all_goals
    refine ⟨k + 1, ?_⟩
    repeat' (with_reducible refine And.intro ?_ ?_)
    all_goals try (rw [IntWalk.i64_in _ (by omega)]; first | rfl | omega)
    all_goals try omega
    all_goals try (repeat' (with_reducible first | exact aB.le_refl _ | refine (bF (by first | assumption | exact And.right (by assumption) | exact b9.2 (by assumption))).2 ?_))
    exact aF0 hlt ec hp (by simp only [Low, Dig]; omega)
  ·have hk' : k = s.length := by omega
   subst hk'
   rw [List.take_length] at hp
   simp -dsimp -implicitDefEqProofs only [go_sem, ↓reduceIte, Tryz.f216, Nat.lt_irrefl]
   have : s.length = t.length + 1 := by rw [← hs]; rfl
   exact fun _ => (decide_eq_true ⟨by omega, by omega, fun x hx => by rw [← hs] at hx; simp at hx; subst hx; simp only [Low]; omega, hp⟩).symm
@[go_sem] def aOW : List Nat := [0, 2, 3, 5, 6, 7, 34]
theorem aHE (s : List UInt8) : dV Tryz.prog 198 [.str s] (.bool (decide (yV s))) := by
 refine dS 44 aOW bT bD mix Tryz.func198 rfl (by kernel_rfl) (by simp) fun h => ?_
 simp -dsimp -implicitDefEqProofs only [go_sem, ↓reduceIte, Tryz.f198]
 repeat' (with_reducible first | intro _ | refine And.intro ?_ ?_)
 refine bX (keep := aOW) (ib := bT) (mk := bD) mix (by kernel_rfl) (fun k : Nat => [(0, .str s), (5, I s.length), (6, I k)]) (fun _ => h) (fun k => k ≤ s.length ∧ (∀ x ∈ s.take k, Low x ∨ Dig x) ∧ (0 < k → ∀ c, s[0]? = some c → Low c)) (fun k => s.length - k) 0 (by simp [b8, bJ, aB.le_refl]) ?_
 intro k ⟨hk, hp, hz⟩
 rcases Nat.lt_or_ge k s.length with hlt | hge
 ·generalize ec : s[k] = d
  have ea : s[k]? = some d := by rw [← ec]; exact List.getElem?_eq_getElem hlt
  have hz' : Low d ∨ ¬ ((k : Int) = 0) → ∀ c, s[0]? = some c → Low c := by
   intro q c hc
   by_cases h0 : k = 0
   ·subst h0
    rw [ea] at hc
    obtain rfl := Option.some.inj hc
    exact q.resolve_right (by simp)
   ·exact hz (by omega) c hc
  simp -dsimp -implicitDefEqProofs only [go_sem, ↓reduceIte, Tryz.f198, ea, Int.toNat_natCast]
  repeat' (with_reducible first | intro _ | refine And.intro ?_ ?_)
  all_goals try omega
  all_goals try exact aKK hlt ec (by simp only [Low, Dig]; omega)
  all_goals try exact aQW hlt (by omega) ec (by simp only [Low]; omega)
  all_goals
   refine ⟨k + 1, ?_⟩
   repeat' (with_reducible refine And.intro ?_ ?_)
   all_goals try (rw [IntWalk.i64_in _ (by omega)]; first | rfl | omega)
   all_goals try omega
   all_goals try (repeat' (with_reducible first | exact aB.le_refl _ | refine (bF (by first | assumption | exact And.right (by assumption) | exact b9.2 (by assumption))).2 ?_))
   all_goals first | exact aF0 hlt ec hp (by simp only [Low, Dig]; omega) | exact fun _ => hz' (by simp only [Low]; omega)
 ·have hk' : k = s.length := by omega
  subst hk'
  rw [List.take_length] at hp
  simp -dsimp -implicitDefEqProofs only [go_sem, ↓reduceIte, Tryz.f198, Nat.lt_irrefl]
  repeat' (with_reducible first | intro _ | refine And.intro ?_ ?_)
  all_goals simp only [yV, decide_eq_decide, eq_comm (a := false), decide_eq_false_iff_not]
  all_goals grind
mutual
def aA.d : aA → Nat
 | .mk _ _ _ _ kids => aA.dL kids + 1
def aA.dL : List aA → Nat
 | [] => 0
 |x :: l => max x.d (aA.dL l)
end
theorem aA.a7V (x : aA) : x.d = aA.dL x.aI + 1 := by cases x; rfl
theorem aA.aHF : ∀ {l : List aA} {k : Nat} (h : k < l.length), aA.dL (l.take (k + 1)) = max (aA.dL (l.take k)) l[k].d
 |x :: l, 0, _ => by simp [aA.dL]
 |x :: l, k + 1, h => by
  have := aA.aHF (l := l) (k := k) (by simpa using h)
  simp only [List.take_succ_cons, aA.dL, this, List.getElem_cons_succ]
  omega
mutual
theorem aA.a15 : ∀ x : aA, x.d ≤ x.s + 1
 | .mk _ _ _ _ kids => by
  have := aA.aZV kids
  simp only [aA.d, aA.s]; omega
theorem aA.aZV : ∀ l : List aA, aA.dL l ≤ l.length + aA.sL l
 | [] => by simp [aA.dL]
 |x :: l => by
  have h1 := aA.a15 x
  have h2 := aA.aZV l
  simp only [aA.dL, aA.sL, List.length_cons]; omega
end
theorem aA.aBF {x y : aA} (h : y ∈ x.aI) : y.s < x.s := by
 have h1 := pH aA.s h
 have h2 := List.length_pos_of_mem h
 rw [x.n8, iW]; omega
theorem aA.aS1 (x : aA) {k : Nat} (h : k < x.aI.length) : k + ((x.aI.take k).map aA.s).sum + x.aI[k].s + 1 ≤ x.s := by
 have h1 := gY aA.s x.aI k h
 have h2 := mT aA.s x.aI (k + 1)
 rw [x.n8, iW]; omega
theorem aA.aZW (x : aA) : x.aI.length + ((x.aI.take x.aI.length).map aA.s).sum = x.s := by
 rw [List.take_length, x.n8, iW]
theorem aFC (x : aA) (hs : x.s ≤ 4294967296) (hc : ∀ y ∈ x.aI, dV Tryz.prog 202 [.agg y.c] (I ((y.s : Int) + 1))) : dV Tryz.prog 202 [.agg x.c] (I ((x.s : Int) + 1)) := by
 have hx := x.aZW
 rw [aA.aN x]
 refine dS 19 aOE aAJ bD mix Tryz.func202 rfl (by kernel_rfl) (by simp) fun h => ?_
 simp -dsimp -implicitDefEqProofs only [go_sem, ↓reduceIte, Tryz.f202]
 repeat' (with_reducible first | intro _ | refine And.intro ?_ ?_)
 refine bX (keep := aOE) (ib := aAJ) (mk := bD) mix (by kernel_rfl) (fun k : Nat => [(1, .ip 5 [x.c] 0 0), (3, I (1 + k + (((x.aI.take k).map aA.s).sum : Int))), (7, dB 5 aA.c x.aI), (8, I x.aI.length), (9, I k)]) (fun _ => h) (fun k => k ≤ x.aI.length) (fun k => x.aI.length - k) 0 (by simp [b8, bJ, aB.le_refl, aA.aN]) ?_
 intro k hk
 rcases Nat.lt_or_ge k x.aI.length with hlt | hge
 ·have ea : x.aI[k]? = some x.aI[k] := List.getElem?_eq_getElem hlt
  have hp := x.aS1 hlt
  have h1 := gY aA.s x.aI k hlt
  have hcy := hc x.aI[k] (List.getElem_mem hlt)
  simp only [aA.aN] at hcy
  simp -dsimp -implicitDefEqProofs only [go_sem, ↓reduceIte, Tryz.f202, ea, aA.aN, aK]
  repeat' (with_reducible first | intro _ | refine And.intro ?_ ?_)
  all_goals try omega
  first | refine aG.mk (hcy) ?_ | refine aE.mk (hcy) ?_ | refine aG.a8 (hcy) ?_ | refine aE.mk (a6.cK (hcy)) ?_
  simp -dsimp -implicitDefEqProofs only [go_sem, ↓reduceIte, Tryz.f202]
  rename_i n hn
  refine ⟨k + 1, ?_⟩
  repeat' (with_reducible refine And.intro ?_ ?_)
  all_goals try (rw [IntWalk.i64_in _ (by omega)]; first | rfl | omega)
  all_goals try omega
  all_goals try (repeat' (with_reducible first | exact aB.le_refl _ | refine (bF (by first | assumption | exact And.right (by assumption) | exact b9.2 (by assumption))).2 ?_))
  all_goals try (simp only [aA.aN]; done)
 ·have hk' : k = x.aI.length := by omega
  subst hk'
  simp -dsimp -implicitDefEqProofs only [go_sem, ↓reduceIte, Tryz.f202, Nat.lt_irrefl]
  omega
theorem aDS (x : aA) (hs : x.s ≤ 4294967296) : dV Tryz.prog 202 [.agg x.c] (I ((x.s : Int) + 1)) :=
 aFC x hs fun y hy => aDS y (by have := aA.aBF hy; omega)
termination_by SizeOf.sizeOf x
decreasing_by exact aA.qB hy
theorem aDT (x : aA) (hs : x.s ≤ 4294967296) (hc : ∀ y ∈ x.aI, dV Tryz.prog 221 [.agg y.c] (I (y.d : Int))) : dV Tryz.prog 221 [.agg x.c] (I (x.d : Int)) := by
 have hd := x.a15
 rw [aA.a7V] at hd ⊢
 rw [aA.aN x]
 refine dS 20 aOE aAJ bD mix Tryz.func221 rfl (by kernel_rfl) (by simp) fun h => ?_
 simp -dsimp -implicitDefEqProofs only [go_sem, ↓reduceIte, Tryz.f221]
 repeat' (with_reducible first | intro _ | refine And.intro ?_ ?_)
 refine bX (keep := aOE) (ib := aAJ) (mk := bD) mix (by kernel_rfl) (fun k : Nat => [(1, .ip 5 [x.c] 0 0), (3, I (aA.dL (x.aI.take k) : Int)), (7, dB 5 aA.c x.aI), (8, I x.aI.length), (9, I k)]) (fun _ => h) (fun k => k ≤ x.aI.length) (fun k => x.aI.length - k) 0 (by simp [b8, bJ, aB.le_refl, aA.aN, aA.dL]) ?_
 intro k hk
 rcases Nat.lt_or_ge k x.aI.length with hlt | hge
 ·have ea : x.aI[k]? = some x.aI[k] := List.getElem?_eq_getElem hlt
  have h1 := aA.aHF hlt
  have hcy := hc x.aI[k] (List.getElem_mem hlt)
  simp only [aA.aN] at hcy
  simp -dsimp -implicitDefEqProofs only [go_sem, ↓reduceIte, Tryz.f221, ea, aA.aN, aK]
  repeat' (with_reducible first | intro _ | refine And.intro ?_ ?_)
  all_goals try omega
  first | refine aG.mk (hcy) ?_ | refine aE.mk (hcy) ?_ | refine aG.a8 (hcy) ?_ | refine aE.mk (a6.cK (hcy)) ?_
  simp -dsimp -implicitDefEqProofs only [go_sem, ↓reduceIte, Tryz.f221]
  repeat' (with_reducible first | intro _ | refine And.intro ?_ ?_)
  all_goals try rfl
  rename_i n hn
  refine ⟨k + 1, ?_⟩
  repeat' (with_reducible refine And.intro ?_ ?_)
  all_goals try (rw [IntWalk.i64_in _ (by omega)]; first | rfl | omega)
  all_goals try omega
  all_goals try (repeat' (with_reducible first | exact aB.le_refl _ | refine (bF (by first | assumption | exact And.right (by assumption) | exact b9.2 (by assumption))).2 ?_))
  all_goals try (simp only [aA.aN]; done)
 ·have hk' : k = x.aI.length := by omega
  subst hk'
  simp -dsimp -implicitDefEqProofs only [go_sem, ↓reduceIte, Tryz.f221, Nat.lt_irrefl]
  rw [List.take_length, IntWalk.i64_in _ (by omega)]; omega
theorem aF1 (x : aA) (hs : x.s ≤ 4294967296) : dV Tryz.prog 221 [.agg x.c] (I (x.d : Int)) :=
 aDT x hs fun y hy => aF1 y (by have := aA.aBF hy; omega)
termination_by SizeOf.sizeOf x
decreasing_by exact aA.qB hy
@[go_sem] def aOX : List Nat := [0, 1, 4, 5, 18]
theorem aHG (x : aA) (left : Int) (h0 : 0 ≤ left) (h9 : left ≤ 4294967296) (hs : x.s ≤ 4294967296) (hc : ∀ y ∈ x.aI, ∀ left : Int, 0 ≤ left → left ≤ 4294967296 → dV Tryz.prog 217 [.ip 5 [y.c] 0 0, I left] (I (lft left (y.s + 1)))) : dV Tryz.prog 217 [.ip 5 [x.c] 0 0, I left] (I (lft left (x.s + 1))) := by
 have hx := x.aZW
 rw [aA.aN x]
 refine dS 30 aOX bT bD mix Tryz.func217 rfl (by kernel_rfl) (by simp) fun h => ?_
 simp -dsimp -implicitDefEqProofs only [go_sem, ↓reduceIte, Tryz.f217]
 repeat' (with_reducible first | intro _ | refine And.intro ?_ ?_)
 refine bX (keep := aOX) (ib := bT) (mk := bD) mix (by kernel_rfl) (fun k : Nat => [(0, .ip 5 [x.c] 0 0), (1, I (lft left (1 + k + ((x.aI.take k).map aA.s).sum))), (5, I k)]) (fun _ => h) (fun k => k ≤ x.aI.length) (fun k => x.aI.length - k) 0 (by simp [b8, bJ, aB.le_refl, aA.aN]; rw [IntWalk.i64_in _ (by omega)]; unfold lft; split <;> omega) ?_
 intro k hk
 rcases Nat.lt_or_ge k x.aI.length with hlt | hge
 ·have hp := x.aS1 hlt
  have h1 := gY aA.s x.aI k hlt
  rcases pU left (1 + k + ((x.aI.take k).map aA.s).sum) with ⟨e, hl⟩ | ⟨e, hl⟩
  ·rw [e, aA.aN x]
   simp -dsimp -implicitDefEqProofs only [go_sem, ↓reduceIte, Tryz.f217]
   repeat' (with_reducible first | intro _ | refine And.intro ?_ ?_)
   all_goals try omega
   exact (tJ (by omega)).symm
  ·rw [e, aA.aN x]
   simp -dsimp -implicitDefEqProofs only [go_sem, ↓reduceIte, Tryz.f217]
   repeat' (with_reducible first | intro _ | refine And.intro ?_ ?_)
   all_goals try omega
   first | refine aE.mk ((hc x.aI[k] (List.getElem_mem hlt) _ hl (by omega)).sub (by repeat' (first | exact fH.nil | refine fH.cons ?_ ?_ | exact Sub.refl _ | (rw [aA.aN]; exact Sub.refl _) | exact Sub.fI rfl rfl rfl | exact Sub.ip (bY (by omega)) (by simp) | exact Sub.fI (bY (by omega)) rfl rfl | exact Sub.ip (by simp [*]) (by simp) | exact Sub.fI (by simp [*]) (by rfl) (by rfl)))) ?_ | refine aG.mk ((hc x.aI[k] (List.getElem_mem hlt) _ hl (by omega)).sub (by repeat' (first | exact fH.nil | refine fH.cons ?_ ?_ | exact Sub.refl _ | (rw [aA.aN]; exact Sub.refl _) | exact Sub.fI rfl rfl rfl | exact Sub.ip (bY (by omega)) (by simp) | exact Sub.fI (bY (by omega)) rfl rfl | exact Sub.ip (by simp [*]) (by simp) | exact Sub.fI (by simp [*]) (by rfl) (by rfl)))) ?_
   simp -dsimp -implicitDefEqProofs only [go_sem, ↓reduceIte, Tryz.f217]
   refine ⟨k + 1, ?_⟩
   repeat' (with_reducible refine And.intro ?_ ?_)
   all_goals try (rw [IntWalk.i64_in _ (by omega)]; first | rfl | omega)
   all_goals try omega
   all_goals try (repeat' (with_reducible first | exact aB.le_refl _ | refine (bF (by first | assumption | exact And.right (by assumption) | exact b9.2 (by assumption))).2 ?_))
   all_goals try (simp only [aA.aN]; done)
   all_goals (rw [h1]; unfold lft; split <;> split <;> omega)
 ·have hk' : k = x.aI.length := by omega
  subst hk'
  rw [aA.aN x]
  simp -dsimp -implicitDefEqProofs only [go_sem, ↓reduceIte, Tryz.f217, Nat.lt_irrefl]
  rw [show 1 + x.aI.length + ((x.aI.take x.aI.length).map aA.s).sum = x.s + 1 by omega]
  exact fun _ => rfl
theorem yW (x : aA) (left : Int) (h0 : 0 ≤ left) (h9 : left ≤ 4294967296) (hs : x.s ≤ 4294967296) : dV Tryz.prog 217 [.ip 5 [x.c] 0 0, I left] (I (lft left (x.s + 1))) :=
 aHG x left h0 h9 hs fun y hy left h0 h9 => yW y left h0 h9 (by have := aA.aBF hy; omega)
termination_by SizeOf.sizeOf x
decreasing_by exact aA.qB hy
@[go_sem] def aWR : List Nat := [0, 1, 4, 7]
theorem aHH (a b : Int) : dV Tryz.prog 233 [I a, I b] (I (max a b)) := by
 refine dS 10 aWR bT bD mix Tryz.func233 rfl (by kernel_rfl) (by simp) fun h => ?_
 simp -dsimp -implicitDefEqProofs only [go_sem, ↓reduceIte, Tryz.f233]
 repeat' (with_reducible first | intro _ | refine And.intro ?_ ?_)
 all_goals omega
theorem aFD (x : aA) (hs : x.s ≤ 4294967296) (hc : ∀ y ∈ x.aI, dV Tryz.prog 228 [.ip 5 [y.c] 0 0] (I (y.d : Int))) : dV Tryz.prog 228 [.ip 5 [x.c] 0 0] (I (x.d : Int)) := by
 have hd := x.a15
 rw [aA.a7V] at hd ⊢
 rw [aA.aN x]
 refine dS 25 wN bT bD mix Tryz.func228 rfl (by kernel_rfl) (by simp) fun h => ?_
 simp -dsimp -implicitDefEqProofs only [go_sem, ↓reduceIte, Tryz.f228]
 repeat' (with_reducible first | intro _ | refine And.intro ?_ ?_)
 refine bX (keep := wN) (ib := bT) (mk := bD) mix (by kernel_rfl) (fun k : Nat => [(0, .ip 5 [x.c] 0 0), (3, I (aA.dL (x.aI.take k) : Int)), (4, I k)]) (fun _ => h) (fun k => k ≤ x.aI.length) (fun k => x.aI.length - k) 0 (by simp [b8, bJ, aB.le_refl, aA.aN, aA.dL]) ?_
 intro k hk
 rw [aA.aN x]
 rcases Nat.lt_or_ge k x.aI.length with hlt | hge
 ·have h1 := aA.aHF hlt
  simp -dsimp -implicitDefEqProofs only [go_sem, ↓reduceIte, Tryz.f228]
  repeat' (with_reducible first | intro _ | refine And.intro ?_ ?_)
  all_goals try omega
  first | refine aE.mk ((hc x.aI[k] (List.getElem_mem hlt)).sub (by repeat' (first | exact fH.nil | refine fH.cons ?_ ?_ | exact Sub.refl _ | (rw [aA.aN]; exact Sub.refl _) | exact Sub.fI rfl rfl rfl | exact Sub.ip (bY (by omega)) (by simp) | exact Sub.fI (bY (by omega)) rfl rfl | exact Sub.ip (by simp [*]) (by simp) | exact Sub.fI (by simp [*]) (by rfl) (by rfl)))) ?_ | refine aG.mk ((hc x.aI[k] (List.getElem_mem hlt)).sub (by repeat' (first | exact fH.nil | refine fH.cons ?_ ?_ | exact Sub.refl _ | (rw [aA.aN]; exact Sub.refl _) | exact Sub.fI rfl rfl rfl | exact Sub.ip (bY (by omega)) (by simp) | exact Sub.fI (bY (by omega)) rfl rfl | exact Sub.ip (by simp [*]) (by simp) | exact Sub.fI (by simp [*]) (by rfl) (by rfl)))) ?_
  simp -dsimp -implicitDefEqProofs only [go_sem, ↓reduceIte, Tryz.f228]
  first | refine aG.mk (aHH _ _) ?_ | refine aE.mk (aHH _ _) ?_ | refine aG.a8 (aHH _ _) ?_ | refine aE.mk (a6.cK (aHH _ _)) ?_
  simp -dsimp -implicitDefEqProofs only [go_sem, ↓reduceIte, Tryz.f228]
  refine ⟨k + 1, ?_⟩
  repeat' (with_reducible refine And.intro ?_ ?_)
  all_goals try (rw [IntWalk.i64_in _ (by omega)]; first | rfl | omega)
  all_goals try omega
  all_goals try (repeat' (with_reducible first | exact aB.le_refl _ | refine (bF (by first | assumption | exact And.right (by assumption) | exact b9.2 (by assumption))).2 ?_))
  all_goals try (simp only [aA.aN]; done)
 ·have hk' : k = x.aI.length := by omega
  subst hk'
  simp -dsimp -implicitDefEqProofs only [go_sem, ↓reduceIte, Tryz.f228, Nat.lt_irrefl]
  intro _
  rw [List.take_length, IntWalk.i64_in _ (by omega)]; omega
theorem aDU (x : aA) (hs : x.s ≤ 4294967296) : dV Tryz.prog 228 [.ip 5 [x.c] 0 0] (I (x.d : Int)) :=
 aFD x hs fun y hy => aDU y (by have := aA.aBF hy; omega)
termination_by SizeOf.sizeOf x
decreasing_by exact aA.qB hy
def eE (k : Int) : Int := if k = 1 ∨ k = 2 then 0 else if k = 3 ∨ k = 4 ∨ k = 5 ∨ k = 6 ∨ k = 9 then 2 else if k = 7 then 1 else if k = 8 then 3 else -1
def mM (p : aC) (e : aA) (vars funcs : Int) : Prop :=
 if e.aQ = 10 ∨ e.aQ = 11 then
  0 ≤ e.aW ∧ e.aW ≤ funcs - 1 ∧ ∀ f, p.aJ[e.aW.toNat]? = some f →
   0 ≤ e.b7 ∧ e.b7 ≤ (f.aM.length : Int) - 1 ∧ (e.aI.length : Int) = f.aX ∧ (e.aQ = 10 → e.bV = 0) ∧ (e.aQ = 11 → 0 ≤ e.bV ∧ e.bV ≤ 8 ∧ (f.aM.length : Int) = f.aX)
 else eE e.aQ = e.aI.length ∧ e.b7 = 0 ∧ e.bV = 0 ∧ (e.aQ = 1 → iI e.aW) ∧ (e.aQ = 2 → 0 ≤ e.aW ∧ e.aW ≤ vars - 1) ∧ (e.aQ ≠ 1 → e.aQ ≠ 2 → e.aW = 0)
noncomputable instance (p : aC) (e : aA) (vars funcs : Int) : Decidable (mM p e vars funcs) := Classical.propDecidable _
def j2 (kind : Int) (i : Nat) (vars : Int) : Int := if kind = 9 ∧ i = 1 then vars + 1 else vars
mutual
def aA.ok (p : aC) (funcs : Int) : aA → Int → Prop
 | .mk a b c d kids, vars => mM p (.mk a b c d kids) vars funcs ∧ aA.okL p funcs a kids 0 vars
def aA.okL (p : aC) (funcs : Int) (kind : Int) : List aA → Nat → Int → Prop
 | [], _, _ => True
 |x :: l, i, vars => x.ok p funcs (j2 kind i vars) ∧ aA.okL p funcs kind l (i + 1) vars
end
noncomputable instance (p : aC) (funcs : Int) (e : aA) (vars : Int) : Decidable (e.ok p funcs vars) := Classical.propDecidable _
theorem aA.aOY (p : aC) (funcs kind : Int) : ∀ (l : List aA) (i : Nat) (vars : Int), aA.okL p funcs kind l i vars ↔ ∀ (k : Nat) (h : k < l.length), l[k].ok p funcs (j2 kind (i + k) vars)
 | [], i, vars => by simp [aA.okL]
 |x :: l, i, vars => by
  rw [aA.okL, aA.aOY p funcs kind l (i + 1) vars]
  constructor
  ·rintro ⟨h1, h2⟩ k hk
   cases k with
   |zero => exact h1
   |succ k => have := h2 k (by simpa using hk); rw [show i + 1 + k = i + (k + 1) by omega] at this; exact this
  ·intro h
   refine ⟨h 0 (by simp), fun k hk => ?_⟩
   have := h (k + 1) (by simpa using hk)
   rw [show i + 1 + k = i + (k + 1) by omega]; exact this
theorem aA.cC (p : aC) (funcs : Int) (x : aA) (vars : Int) : x.ok p funcs vars ↔ mM p x vars funcs ∧ ∀ (k : Nat) (h : k < x.aI.length), x.aI[k].ok p funcs (j2 x.aQ k vars) := by
 cases x with
 |mk a b c d kids =>
  rw [aA.ok, aA.aOY]
  simp only [Nat.zero_add, aA.aI, aA.aQ]
theorem aC.aF2 (p : aC) : p.aJ.length ≤ p.s := by rw [p.n8, iW]; omega
theorem aC.aDV {p : aC} {f : aP} (h : f ∈ p.aJ) : f.s + p.aJ.length ≤ p.s := by
 have := pH aP.s h
 rw [p.n8, iW]; omega
theorem aP.aDW (f : aP) : f.aM.length ≤ f.s := by rw [f.n8, iW]; omega
theorem aP.aZX {f : aP} {e : aA} (h : e ∈ f.aM) : e.s < f.s := by
 have := pH aA.s h
 have := List.length_pos_of_mem h
 rw [f.n8, iW]; omega
@[go_sem] def aWS : List Nat := [0, 2, 3, 4, 7, 13, 15]
theorem aB1 (k : Int) : dV Tryz.prog 194 [I k] (I (eE k)) := by
 refine dS 17 aWS bT bD mix Tryz.func194 rfl (by kernel_rfl) (by simp) fun h => ?_
 simp -dsimp -implicitDefEqProofs only [go_sem, ↓reduceIte, Tryz.f194]
 repeat' (with_reducible first | intro _ | refine And.intro ?_ ?_)
 all_goals try (first | (simp [eE, *]; done) | omega | (grind [eE]) | (simp [eE]; omega))
theorem oW {p : aC} {e : aA} {vars funcs : Int} (hk : e.aQ = 10 ∨ e.aQ = 11) {f : aP} (ef : p.aJ[e.aW.toNat]? = some f) : mM p e vars funcs ↔
  0 ≤ e.aW ∧ e.aW ≤ funcs - 1 ∧ 0 ≤ e.b7 ∧ e.b7 ≤ (f.aM.length : Int) - 1 ∧ (e.aI.length : Int) = f.aX ∧ (e.aQ = 10 → e.bV = 0) ∧ (e.aQ = 11 → 0 ≤ e.bV ∧ e.bV ≤ 8 ∧ (f.aM.length : Int) = f.aX) := by
 unfold mM
 rw [if_pos hk]
 simp [ef]
theorem yX {p : aC} {e : aA} {vars funcs : Int} (hk : e.aQ = 10 ∨ e.aQ = 11) (hr : ¬ (0 ≤ e.aW ∧ e.aW ≤ funcs - 1)) : ¬ mM p e vars funcs := by
 unfold mM
 rw [if_pos hk]
 intro h
 exact hr ⟨h.1, h.2.1⟩
theorem dM {p : aC} {e : aA} {vars funcs : Int} (hk : ¬ (e.aQ = 10 ∨ e.aQ = 11)) : mM p e vars funcs ↔
  eE e.aQ = e.aI.length ∧ e.b7 = 0 ∧ e.bV = 0 ∧ (e.aQ = 1 → iI e.aW) ∧ (e.aQ = 2 → 0 ≤ e.aW ∧ e.aW ≤ vars - 1) ∧ (e.aQ ≠ 1 → e.aQ ≠ 2 → e.aW = 0) := by
 unfold mM
 rw [if_neg hk]
@[go_sem] def aHI : List Nat := [0, 1, 2, 3, 8, 9, 21, 29, 62, 67, 114, 118, 119, 126]
@[go_sem] def aS2 : Marks := fun id => match id with | 4 => ([], (.op 0 (.op 1 (.op 2 (.op 3 (.op 4 (.op 5 (.op 6 (.op 7 (.op 8 (.op 9 .nil)))))))))), []) | 5 => ([], (.op 0 (.op 1 (.op 2 (.op 3 (.op 4 (.op 5 (.op 6 (.op 7 (.op 8 (.op 9 (.op 10 (.op 11 (.op 12 (.op 13 (.op 14 (.op 15 (.op 16 (.op 17 (.op 18 (.op 19 (.op 20 (.op 21 (.op 22 (.op 23 .nil)))))))))))))))))))))))), []) | 9 => ([], (.op 0 (.op 1 (.op 2 (.op 3 (.op 4 (.op 5 (.op 6 (.op 7 (.op 8 (.op 9 (.op 10 (.op 11 (.op 12 (.op 13 (.op 14 (.op 15 (.op 16 (.op 17 .nil)))))))))))))))))), []) | 10 => ([], (.op 0 (.op 1 (.op 2 (.op 3 (.op 4 (.op 5 (.op 6 (.op 7 (.op 8 (.op 9 (.op 10 (.op 11 (.op 12 (.op 13 (.op 14 (.op 15 (.op 16 (.op 17 (.op 18 (.op 19 (.op 20 (.op 21 (.op 22 (.op 23 (.op 24 .nil))))))))))))))))))))))))), []) | _ => ([], .nil, [])
theorem aOZ (p : aC) (e : aA) (vars funcs : Int) (hv : 0 ≤ vars) (hv2 : vars ≤ 4294967296) (c7 : 0 ≤ funcs) (hf : funcs ≤ p.aJ.length) (hps : p.s ≤ 4294967296) : dV Tryz.prog 234 [.ip 1 [p.c] 0 0, .ip 5 [e.c] 0 0, I vars, I funcs] (.bool (decide (mM p e vars funcs))) := by
 have hl := p.aF2
 have e1 : IntKind.i64.wrap (funcs - 1) = funcs - 1 := IntWalk.i64_in _ (by omega)
 have e2 : IntKind.i64.wrap (vars - 1) = vars - 1 := IntWalk.i64_in _ (by omega)
 rw [aA.aN]
 simp only [aC.aN]
 by_cases hk : e.aQ = 10 ∨ e.aQ = 11
 ·by_cases hr : 0 ≤ e.aW ∧ e.aW ≤ funcs - 1
  ·obtain ⟨f, ef⟩ : ∃ f, p.aJ[e.aW.toNat]? = some f := ⟨_, List.getElem?_eq_getElem (by omega)⟩
   have hn := oW (vars := vars) (funcs := funcs) hk ef
   have hfs := aC.aDV (List.mem_of_getElem? ef)
   have hos := f.aDW
   refine dS 140 aHI bT aS2 mix Tryz.func234 rfl (by kernel_rfl) (by simp) fun h => ?_
   simp -dsimp -implicitDefEqProofs only [go_sem, ↓reduceIte, Tryz.f234, e1, e2]
   repeat' (with_reducible first | intro _ | refine And.intro ?_ ?_)
   all_goals try omega
   all_goals (first | refine aG.mk (eD e.aW 0 (funcs - 1)) ?_ | refine aE.mk (eD e.aW 0 (funcs - 1)) ?_)
   all_goals simp -dsimp -implicitDefEqProofs only [go_sem, ↓reduceIte, Tryz.f234, ef, aP.aN]
   all_goals repeat' (with_reducible first | intro _ | refine And.intro ?_ ?_)
   all_goals try omega
   all_goals try simp (disch := omega) only [IntWalk.i64_in]
   all_goals (first | refine aG.mk (eD e.b7 0 (f.aM.length - 1)) ?_ | refine aE.mk (eD e.b7 0 (f.aM.length - 1)) ?_)
   all_goals simp -dsimp -implicitDefEqProofs only [go_sem, ↓reduceIte, Tryz.f234, ef, aP.aN]
   all_goals repeat' (with_reducible first | intro _ | refine And.intro ?_ ?_)
   all_goals try omega
   all_goals try (first | (simp [*]; done) | omega | grind)
   first | refine aG.mk (eD e.bV 0 8) ?_ | refine aE.mk (eD e.bV 0 8) ?_ | refine aG.a8 (eD e.bV 0 8) ?_ | refine aE.mk (a6.cK (eD e.bV 0 8)) ?_
   simp -dsimp -implicitDefEqProofs only [go_sem, ↓reduceIte, Tryz.f234, ef, aP.aN]
   repeat' (with_reducible first | intro _ | refine And.intro ?_ ?_)
   all_goals try (first | (simp [*]; done) | omega | grind)
  ·have hn := yX (p := p) (vars := vars) hk hr
   refine dS 140 aHI bT aS2 mix Tryz.func234 rfl (by kernel_rfl) (by simp) fun h => ?_
   simp -dsimp -implicitDefEqProofs only [go_sem, ↓reduceIte, Tryz.f234, e1, e2]
   repeat' (with_reducible first | intro _ | refine And.intro ?_ ?_)
   all_goals try omega
   all_goals (first | refine aG.mk (eD e.aW 0 (funcs - 1)) ?_ | refine aE.mk (eD e.aW 0 (funcs - 1)) ?_)
   all_goals simp -dsimp -implicitDefEqProofs only [go_sem, ↓reduceIte, Tryz.f234]
   all_goals repeat' (with_reducible first | intro _ | refine And.intro ?_ ?_)
   all_goals try (first | (simp [*]; done) | omega | grind)
 ·have hn := dM (p := p) (vars := vars) (funcs := funcs) hk
  refine dS 140 aHI bT aS2 mix Tryz.func234 rfl (by kernel_rfl) (by simp) fun h => ?_
  simp -dsimp -implicitDefEqProofs only [go_sem, ↓reduceIte, Tryz.f234, e1, e2]
  repeat' (with_reducible first | intro _ | refine And.intro ?_ ?_)
  all_goals try omega
  first | refine aG.mk (aB1 e.aQ) ?_ | refine aE.mk (aB1 e.aQ) ?_ | refine aG.a8 (aB1 e.aQ) ?_ | refine aE.mk (a6.cK (aB1 e.aQ)) ?_
  simp -dsimp -implicitDefEqProofs only [go_sem, ↓reduceIte, Tryz.f234]
  repeat' (with_reducible first | intro _ | refine And.intro ?_ ?_)
  all_goals try (first | (simp [*]; done) | omega | grind)
  ·first | refine aG.mk (mW e.aW) ?_ | refine aE.mk (mW e.aW) ?_ | refine aG.a8 (mW e.aW) ?_ | refine aE.mk (a6.cK (mW e.aW)) ?_
   simp -dsimp -implicitDefEqProofs only [go_sem, ↓reduceIte, Tryz.f234]
   all_goals try (first | (simp [*]; done) | omega | grind)
  ·all_goals try simp (disch := omega) only [IntWalk.i64_in]
   first | refine aG.mk (eD e.aW 0 (vars - 1)) ?_ | refine aE.mk (eD e.aW 0 (vars - 1)) ?_ | refine aG.a8 (eD e.aW 0 (vars - 1)) ?_ | refine aE.mk (a6.cK (eD e.aW 0 (vars - 1))) ?_
   simp -dsimp -implicitDefEqProofs only [go_sem, ↓reduceIte, Tryz.f234]
   all_goals try (first | (simp [*]; done) | omega | grind)
@[go_sem] def rG : List Nat := [0, 1, 2, 3, 4, 6, 7, 8, 9, 10, 11, 12, 25, 26, 38, 52, 68, 69, 81, 82, 94, 95, 104, 125, 152, 154, 155, 156, 157, 168, 175]
@[go_sem] def aBG : List Nat := [3, 4]
@[go_sem] def aO0 : List Nat := [0, 1, 2, 3, 8, 9, 10, 16, 23, 35, 48]
theorem aHJ (p : aC) (e : aA) (vars funcs : Int) (hv : 0 ≤ vars) (hv2 : vars + e.s ≤ 4294967296) (c7 : 0 ≤ funcs) (hf : funcs ≤ p.aJ.length) (hps : p.s ≤ 4294967296)
  (hc : ∀ y ∈ e.aI, ∀ vars : Int, 0 ≤ vars → vars + y.s ≤ 4294967296 → dV Tryz.prog 229 [.ip 1 [p.c] 0 0, .ip 5 [y.c] 0 0, I vars, I funcs] (.bool (decide (y.ok p funcs vars)))) :
  dV Tryz.prog 229 [.ip 1 [p.c] 0 0, .ip 5 [e.c] 0 0, I vars, I funcs] (.bool (decide (e.ok p funcs vars))) := by
 have hok := aA.cC p funcs e vars
 simp only [aA.aN, aC.aN]
 refine dS 49 aO0 bT bD mix Tryz.func229 rfl (by kernel_rfl) (by simp) fun h => ?_
 simp -dsimp -implicitDefEqProofs only [go_sem, ↓reduceIte, Tryz.f229]
 first | refine aE.mk ((aOZ p e vars funcs hv (by omega) c7 hf hps).sub (by repeat' (first | exact fH.nil | refine fH.cons ?_ ?_ | exact Sub.refl _ | (rw [aA.aN]; exact Sub.refl _) | exact Sub.fI rfl rfl rfl | exact Sub.ip (bY (by omega)) (by simp) | exact Sub.fI (bY (by omega)) rfl rfl | exact Sub.ip (by simp [*]) (by simp) | exact Sub.fI (by simp [*]) (by rfl) (by rfl)))) ?_ | refine aG.mk ((aOZ p e vars funcs hv (by omega) c7 hf hps).sub (by repeat' (first | exact fH.nil | refine fH.cons ?_ ?_ | exact Sub.refl _ | (rw [aA.aN]; exact Sub.refl _) | exact Sub.fI rfl rfl rfl | exact Sub.ip (bY (by omega)) (by simp) | exact Sub.fI (bY (by omega)) rfl rfl | exact Sub.ip (by simp [*]) (by simp) | exact Sub.fI (by simp [*]) (by rfl) (by rfl)))) ?_
 simp -dsimp -implicitDefEqProofs only [go_sem, ↓reduceIte, Tryz.f229]
 repeat' (with_reducible first | intro _ | refine And.intro ?_ ?_)
 ·rename_i hn
  exact (decide_eq_false fun q => hn (hok.1 q).1).symm
 ·rename_i hn
  refine bX (keep := aO0) (ib := bT) (mk := bD) mix (by kernel_rfl) (fun k : Nat => [(0, .ip 1 [p.c] 0 0), (1, .ip 5 [e.c] 0 0), (2, I vars), (3, I funcs), (9, I k)]) (fun _ => h) (fun k => k ≤ e.aI.length ∧ ∀ (j : Nat) (hj : j < e.aI.length), j < k → e.aI[j].ok p funcs (j2 e.aQ j vars)) (fun k => e.aI.length - k) 0 (by simp [b8, bJ, aB.le_refl, aA.aN, aC.aN]) ?_
  intro k ⟨hk, hp⟩
  simp only [aA.aN, aC.aN]
  rcases Nat.lt_or_ge k e.aI.length with hlt | hge
  ·have jF := aA.aBF (List.getElem_mem hlt)
   have nx (q : e.aI[k].ok p funcs (j2 e.aQ k vars)) : ∀ (j : Nat) (hj : j < e.aI.length), j < k + 1 → e.aI[j].ok p funcs (j2 e.aQ j vars) := by
    intro j hj hjk
    rcases Nat.lt_succ_iff_lt_or_eq.1 hjk with h1 | rfl
    ·exact hp j hj h1
    ·exact q
   have no (q : ¬ e.aI[k].ok p funcs (j2 e.aQ k vars)) : false = decide (e.ok p funcs vars) := (decide_eq_false fun z => q ((hok.1 z).2 k hlt)).symm
   simp -dsimp -implicitDefEqProofs only [go_sem, ↓reduceIte, Tryz.f229]
   repeat' (with_reducible first | intro _ | refine And.intro ?_ ?_)
   all_goals try omega
   ·have em : j2 e.aQ k vars = vars + 1 := if_pos ⟨by assumption, by omega⟩
    rw [em] at nx no
    all_goals try simp (disch := omega) only [IntWalk.i64_in]
    first | refine aE.mk ((hc e.aI[k] (List.getElem_mem hlt) (vars + 1) (by omega) (by omega)).sub (by repeat' (first | exact fH.nil | refine fH.cons ?_ ?_ | exact Sub.refl _ | (rw [aA.aN]; exact Sub.refl _) | exact Sub.fI rfl rfl rfl | exact Sub.ip (bY (by omega)) (by simp) | exact Sub.fI (bY (by omega)) rfl rfl | exact Sub.ip (by simp [*]) (by simp) | exact Sub.fI (by simp [*]) (by rfl) (by rfl)))) ?_ | refine aG.mk ((hc e.aI[k] (List.getElem_mem hlt) (vars + 1) (by omega) (by omega)).sub (by repeat' (first | exact fH.nil | refine fH.cons ?_ ?_ | exact Sub.refl _ | (rw [aA.aN]; exact Sub.refl _) | exact Sub.fI rfl rfl rfl | exact Sub.ip (bY (by omega)) (by simp) | exact Sub.fI (bY (by omega)) rfl rfl | exact Sub.ip (by simp [*]) (by simp) | exact Sub.fI (by simp [*]) (by rfl) (by rfl)))) ?_
    simp -dsimp -implicitDefEqProofs only [go_sem, ↓reduceIte, Tryz.f229]
    repeat' (with_reducible first | intro _ | refine And.intro ?_ ?_)
    ·exact no (by assumption)
    ·refine ⟨k + 1, ?_⟩
     repeat' (with_reducible refine And.intro ?_ ?_)
     all_goals try (rw [IntWalk.i64_in _ (by omega)]; first | rfl | omega)
     all_goals try omega
     all_goals try (repeat' (with_reducible first | exact aB.le_refl _ | refine (bF (by first | assumption | exact And.right (by assumption) | exact b9.2 (by assumption))).2 ?_))
     all_goals try (simp only [aA.aN, aC.aN]; done)
     exact nx (by assumption)
   all_goals
    have em : j2 e.aQ k vars = vars := if_neg (by omega)
    rw [em] at nx no
    first | refine aE.mk ((hc e.aI[k] (List.getElem_mem hlt) vars (by omega) (by omega)).sub (by repeat' (first | exact fH.nil | refine fH.cons ?_ ?_ | exact Sub.refl _ | (rw [aA.aN]; exact Sub.refl _) | exact Sub.fI rfl rfl rfl | exact Sub.ip (bY (by omega)) (by simp) | exact Sub.fI (bY (by omega)) rfl rfl | exact Sub.ip (by simp [*]) (by simp) | exact Sub.fI (by simp [*]) (by rfl) (by rfl)))) ?_ | refine aG.mk ((hc e.aI[k] (List.getElem_mem hlt) vars (by omega) (by omega)).sub (by repeat' (first | exact fH.nil | refine fH.cons ?_ ?_ | exact Sub.refl _ | (rw [aA.aN]; exact Sub.refl _) | exact Sub.fI rfl rfl rfl | exact Sub.ip (bY (by omega)) (by simp) | exact Sub.fI (bY (by omega)) rfl rfl | exact Sub.ip (by simp [*]) (by simp) | exact Sub.fI (by simp [*]) (by rfl) (by rfl)))) ?_
    simp -dsimp -implicitDefEqProofs only [go_sem, ↓reduceIte, Tryz.f229]
    repeat' (with_reducible first | intro _ | refine And.intro ?_ ?_)
    ·exact no (by assumption)
    ·refine ⟨k + 1, ?_⟩
     repeat' (with_reducible refine And.intro ?_ ?_)
     all_goals try (rw [IntWalk.i64_in _ (by omega)]; first | rfl | omega)
     all_goals try omega
     all_goals try (repeat' (with_reducible first | exact aB.le_refl _ | refine (bF (by first | assumption | exact And.right (by assumption) | exact b9.2 (by assumption))).2 ?_))
     all_goals try (simp only [aA.aN, aC.aN]; done)
     exact nx (by assumption)
  ·have hk' : k = e.aI.length := by omega
   subst hk'
   simp -dsimp -implicitDefEqProofs only [go_sem, ↓reduceIte, Tryz.f229, Nat.lt_irrefl]
   exact fun _ => (decide_eq_true (hok.2 ⟨hn, fun j hj => hp j hj hj⟩)).symm
theorem aHK (p : aC) (e : aA) (vars funcs : Int) (hv : 0 ≤ vars) (hv2 : vars + e.s ≤ 4294967296) (c7 : 0 ≤ funcs) (hf : funcs ≤ p.aJ.length) (hps : p.s ≤ 4294967296) :
  dV Tryz.prog 229 [.ip 1 [p.c] 0 0, .ip 5 [e.c] 0 0, I vars, I funcs] (.bool (decide (e.ok p funcs vars))) :=
 aHJ p e vars funcs hv hv2 c7 hf hps fun y hy vars hv hv2 => aHK p y vars funcs hv hv2 c7 hf hps
termination_by SizeOf.sizeOf e
decreasing_by exact aA.qB hy
end Go.Hl

/-
  Contracts of functions and laws of the layer over the walk.
-/
import Derived.Test.YtgkipnacdihfnaaGreatHlD
import Derived.Test.YtgkipnacdihfnaaGreatProg
import Derived.KernelRfl
namespace Go.Hl
open Go.Proofs
set_option linter.unusedVariables false
set_option linter.unusedSimpArgs false
@[go_sem] theorem ty2 : iW Tryz.prog 2 = some ⟨1, false, 8, [.int .i64 0], .int .i64⟩ := by kernel_rfl
@[go_sem] theorem ty3 : iW Tryz.prog 3 = some ⟨1, false, 8, [.int .i64 0], .int .i64⟩ := by kernel_rfl
@[go_sem] theorem ty4 : iW Tryz.prog 4 = some ⟨1, false, 1, [.bool false], .bool⟩ := by kernel_rfl
@[go_sem] theorem ty5 : iW Tryz.prog 5 = some ⟨1, false, 1, [.int .u8 0], .int .u8⟩ := by kernel_rfl
@[go_sem] theorem ty9 : iW Tryz.prog 9 = some ⟨1, false, 16, [.str []], .str⟩ := by kernel_rfl
@[go_sem] theorem bSD : iW Tryz.prog 22 = some ⟨1, false, 24, [.bH], .slice 5⟩ := by kernel_rfl
@[go_sem] theorem bSE : iW Tryz.prog 24 = some ⟨1, false, 24, [.bH], .slice 54⟩ := by kernel_rfl
@[go_sem] theorem bSF : iW Tryz.prog 26 = some ⟨1, true, 24, [.bH], .st [(0, 24, 1)]⟩ := by kernel_rfl
@[go_sem] theorem bSG : iW Tryz.prog 27 = some ⟨1, false, 24, [.bH], .slice 2⟩ := by kernel_rfl
@[go_sem] theorem bSH : iW Tryz.prog 28 = some ⟨1, false, 24, [.bH], .slice 27⟩ := by kernel_rfl
@[go_sem] theorem bSI : iW Tryz.prog 30 = some ⟨5, true, 88, [.bH, .int .i64 0, .int .i64 0, .bH, .bH], .st [(0, 26, 1), (1, 2, 1), (2, 2, 1), (3, 27, 1), (4, 28, 1)]⟩ := by kernel_rfl
@[go_sem] theorem bSJ : iW Tryz.prog 37 = some ⟨3, true, 40, [.int .i64 0, .int .i64 0, .bH], .st [(0, 2, 1), (1, 2, 1), (2, 27, 1)]⟩ := by kernel_rfl
@[go_sem] theorem bSK : iW Tryz.prog 46 = some ⟨1, false, 24, [.bH], .slice 84⟩ := by kernel_rfl
@[go_sem] theorem bSL : iW Tryz.prog 47 = some ⟨1, false, 24, [.bH], .slice 107⟩ := by kernel_rfl
@[go_sem] theorem bSM : iW Tryz.prog 49 = some ⟨4, true, 80, [.int .i64 0, .bH, .bH, .bH], .st [(0, 2, 1), (1, 46, 1), (2, 47, 1), (3, 27, 1)]⟩ := by kernel_rfl
@[go_sem] theorem bSN : iW Tryz.prog 52 = some ⟨1, false, 24, [.bH], .slice 99⟩ := by kernel_rfl
@[go_sem] theorem bSO : iW Tryz.prog 54 = some ⟨3, true, 48, [.str [], .int .i64 0, .bH], .st [(0, 9, 1), (1, 2, 1), (2, 52, 1)]⟩ := by kernel_rfl
@[go_sem] theorem bSP : iW Tryz.prog 58 = some ⟨1, false, 8, [.jV], .ptr 92⟩ := by kernel_rfl
@[go_sem] theorem bSQ : iW Tryz.prog 72 = some ⟨1, false, 24, [.bH], .slice 37⟩ := by kernel_rfl
@[go_sem] theorem bSR : iW Tryz.prog 81 = some ⟨8, true, 144, [.bH, .int .i64 0, .bH, .bH, .bH, .bH, .int .i64 0, .int .i64 0], .st [(0, 26, 1), (1, 49, 4), (5, 27, 1), (6, 2, 1), (7, 2, 1)]⟩ := by kernel_rfl
@[go_sem] theorem bSS : iW Tryz.prog 84 = some ⟨4, true, 32, [.int .i64 0, .int .i64 0, .int .i64 0, .int .i64 0], .st [(0, 2, 1), (1, 2, 1), (2, 2, 1), (3, 2, 1)]⟩ := by kernel_rfl
@[go_sem] theorem bST : iW Tryz.prog 90 = some ⟨1, false, 8, [.int .u64 0], .int .u64⟩ := by kernel_rfl
@[go_sem] theorem bSU : iW Tryz.prog 92 = some ⟨3, true, 40, [.bH, .int .i64 0, .int .u64 0], .st [(0, 22, 1), (1, 3, 1), (2, 90, 1)]⟩ := by kernel_rfl
@[go_sem] theorem bSV : iW Tryz.prog 95 = some ⟨1, false, 8, [.jV], .ptr 26⟩ := by kernel_rfl
@[go_sem] theorem bSW : iW Tryz.prog 97 = some ⟨4, true, 32, [.jV, .jV, .int .i64 0, .bool false], .st [(0, 58, 1), (1, 95, 1), (2, 2, 1), (3, 4, 1)]⟩ := by kernel_rfl
@[go_sem] theorem bSX : iW Tryz.prog 99 = some ⟨5, true, 56, [.int .i64 0, .int .i64 0, .int .i64 0, .int .i64 0, .bH], .st [(0, 2, 1), (1, 2, 1), (2, 2, 1), (3, 2, 1), (4, 52, 1)]⟩ := by kernel_rfl
@[go_sem] theorem bRG : iW Tryz.prog 107 = some ⟨2, true, 16, [.int .i64 0, .bool false], .st [(0, 2, 1), (1, 4, 1)]⟩ := by kernel_rfl
@[go_sem] theorem bRH : iW Tryz.prog 108 = some ⟨1, false, 24, [.bH], .slice 4⟩ := by kernel_rfl
@[go_sem] theorem bRI : iW Tryz.prog 130 = some ⟨1, false, 24, [.bH], .slice 9⟩ := by kernel_rfl
@[go_sem] theorem bRJ : iW Tryz.prog 142 = some ⟨4, true, 32, [.jV, .int .i64 0, .int .i64 0, .int .i64 0], .st [(0, 95, 1), (1, 3, 1), (2, 2, 1), (3, 2, 1)]⟩ := by kernel_rfl
@[go_sem] theorem bRK : iW Tryz.prog 147 = some ⟨6, true, 112, [.jV, .int .i64 0, .bH, .bH, .bH, .bH], .st [(0, 95, 1), (1, 49, 4), (5, 27, 1)]⟩ := by kernel_rfl
@[go_sem] theorem bRL : iW Tryz.prog 151 = some ⟨4, true, 48, [.bH, .int .i64 0, .int .i64 0, .int .i64 0], .st [(0, 26, 1), (1, 3, 1), (2, 2, 1), (3, 2, 1)]⟩ := by kernel_rfl
@[go_sem] theorem bRM : iW Tryz.prog 180 = some ⟨2, true, 32, [.bH, .int .i64 0], .st [(0, 26, 1), (1, 2, 1)]⟩ := by kernel_rfl
theorem mix : Tryz.prog.follows .mixedOrders = true := by kernel_rfl
open Go.Proofs
set_option linter.unusedVariables false
set_option linter.unusedSimpArgs false
abbrev I (n : Int) : aD := .int .i64 n
abbrev ints (l : List Int) : aD := .sl 1 (l.map fun n => [I n]) false
abbrev eZ {α : Type} (sz : Nat) (c : α → List aD) (l : List α) : aD := .sl sz (l.map c) false
def InI (n : Int) : Prop := -9223372036854775808 ≤ n ∧ n ≤ 9223372036854775807
def InB (n : Int) : Prop := 0 ≤ n ∧ n ≤ 255
def lft (left : Int) (n : Nat) : Int := if left - n < 0 then -1 else left - n
theorem aJF (left : Int) (n : Nat) : (lft left n = -1 ∧ left - n < 0) ∨ (lft left n = left - n ∧ 0 ≤ left - n) := by
 unfold lft; split
 ·exact .inl ⟨rfl, by assumption⟩
 ·exact .inr ⟨rfl, by omega⟩
theorem a1V {left : Int} {n : Nat} (h : left - n < 0) : lft left n = -1 := if_pos h
theorem lO {α : Type} (s : α → Nat) (l : List α) (k : Nat) (h : k < l.length) : ((l.take (k + 1)).map s).sum = ((l.take k).map s).sum + s l[k] := by
 rw [List.take_succ_eq_append_getElem h, List.map_append, List.sum_append]; simp only [List.map_cons, List.map_nil, List.sum_cons, List.sum_nil, Nat.add_zero]
theorem tY {α : Type} (s : α → Nat) : ∀ (l : List α) (k : Nat), ((l.take k).map s).sum ≤ (l.map s).sum
 | [], k => by simp
 |a :: l, 0 => by simp
 |a :: l, k + 1 => by have := tY s l k; simp only [List.take_succ_cons, List.map_cons, List.sum_cons]; omega
theorem aKY {α : Type} (s : α → Nat) {l : List α} {x : α} (h : x ∈ l) : s x ≤ (l.map s).sum := by
 induction l with
 |nil => simp at h
 |cons a l ih =>
  simp only [List.map_cons, List.sum_cons]
  rcases List.mem_cons.1 h with rfl | h
  ·omega
  ·have := ih h; omega
theorem aM (h : aB) (n m : Nat) (o : bP) : aR h n o m = if m = n then some o else h m := rfl
theorem lZ (l : List (List aD)) : eT (l.map (List.map .v)) = l := by
 induction l with
 |nil => rfl
 |cons e l ih =>
  have : aDF (e.map Cell.v) = e := by
   induction e with
   |nil => rfl
   |cons x e ih => simp only [List.map_cons, aDF, Cell.val, ih]
  simp only [eT, List.map_cons] at ih ⊢
  rw [ih, this]
theorem zL {h h' : aB} {n sz : Nat} (es : List (List aD)) (h0 : h n = none) (hl : (aR h n (.row sz (es.map (List.map .v)))).le h') (len : Nat) (e : len = es.length) : Shift (.os n sz 0 len) h' (.sl sz es false) h := by
 subst e
 refine (Shift.of (Sub.refl _) hl).trans ((Shift.fE (aG _ _ _) (by simp [fY])).trans ?_)
 have : aD.fE n (eT (es.map (List.map .v))) (.os n sz 0 es.length) = .sl sz es false := by simp [aD.fE, lZ]
 rw [this]
 exact cM ((aY h0).2 ((aY h0).2 (aB.le_refl h)))
theorem cZ {α β : Type} {f : α → β} {l : List α} {k : Nat} (h : k < l.length) : (l.map f)[k]? = some (f l[k]) := by
 rw [List.getElem?_map, List.getElem?_eq_getElem h]; rfl
theorem oZ {α : Type} {P : α → Prop} {l : List α} {k : Nat} (h : k < l.length) (hp : ∀ x ∈ l.take k, P x) (he : P l[k]) : ∀ x ∈ l.take (k + 1), P x := by
 rw [List.take_succ_eq_append_getElem h]
 intro x hx
 rcases List.mem_append.1 hx with hx | hx
 ·exact hp x hx
 ·rw [List.mem_singleton.1 hx]; exact he
def idxOf {α : Type} (p : α → Bool) (l : List α) : Int := match l.findIdx? p with | some i => i | none => -1
theorem qY {α : Type} {p : α → Bool} {l : List α} (h : ∀ x ∈ l, p x = false) : idxOf p l = -1 := by
 have : l.findIdx? p = none := List.findIdx?_eq_none_iff.2 h
 simp only [idxOf, this]
theorem qZ {α : Type} {p : α → Bool} {l : List α} {k : Nat} (hk : k < l.length) (h : ∀ x ∈ l.take k, p x = false) (he : p l[k] = true) : idxOf p l = k := by
 have : l.findIdx? p = some k := by
  rw [List.findIdx?_eq_some_iff_getElem]
  refine ⟨hk, he, fun j hj => ?_⟩
  have := h l[j] (List.mem_take_iff_getElem.2 ⟨j, by omega, rfl⟩)
  simp [this]
 simp only [idxOf, this]
theorem nT {α : Type} {p : α → Bool} {l : List α} : decide (0 ≤ idxOf p l) = l.any p := by
 unfold idxOf
 cases h : l.findIdx? p with
 |none =>
  have := List.findIdx?_eq_none_iff.1 h
  simp only
  rw [Bool.eq_false_iff.2 (show l.any p ≠ true from ?_)]
  ·simp
  ·intro hx
   obtain ⟨x, hx, hp⟩ := List.any_eq_true.1 hx
   rw [this x hx] at hp; cases hp
 |some i =>
  obtain ⟨hi, hp, _⟩ := List.findIdx?_eq_some_iff_getElem.1 h
  have : l.any p = true := List.any_eq_true.2 ⟨_, List.getElem_mem hi, hp⟩
  rw [this]; simp
def jA (n : Int) : Prop := 0 ≤ n ∧ n ≤ 1000002
instance (n : Int) : Decidable (jA n) := inferInstanceAs (Decidable (0 ≤ n ∧ n ≤ 1000002))
def eD (l : List Int) : Prop := ∀ x ∈ l, jA x
instance (l : List Int) : Decidable (eD l) := inferInstanceAs (Decidable (∀ x ∈ l, jA x))
theorem aKZ {α : Type} {P : α → Prop} [DecidablePred P] {l : List α} [Decidable (∀ x ∈ l, P x)] : (!l.any fun x => !decide (P x)) = decide (∀ x ∈ l, P x) := by
 rw [Bool.eq_iff_iff]
 simp [List.any_eq_false]
inductive aC where
 |mk (aP : Int) (bC : Int) (cR : Int) (cD : Int) (aN : (List aC))
def aC.aP : aC → Int
 | .mk aP bC cR cD aN => aP
def aC.bC : aC → Int
 | .mk aP bC cR cD aN => bC
def aC.cR : aC → Int
 | .mk aP bC cR cD aN => cR
def aC.cD : aC → Int
 | .mk aP bC cR cD aN => cD
def aC.aN : aC → (List aC)
 | .mk aP bC cR cD aN => aN
mutual
def aC.c : aC → List aD
 | .mk aP bC cR cD aN => [(.int .i64 aP), (.int .i64 bC), (.int .i64 cR), (.int .i64 cD), .sl 5 (aC.cL aN) false]
def aC.cL : List aC → List (List aD)
 | [] => []
 |x :: l => x.c :: aC.cL l
end
mutual
def aC.s : aC → Nat
 | .mk aP bC cR cD aN => (aN.length + aC.sL aN)
def aC.sL : List aC → Nat
 | [] => 0
 |x :: l => x.s + aC.sL l
end
theorem aC.aXC : ∀ l, aC.cL l = l.map aC.c
 | [] => rfl
 |x :: l => by simp only [aC.cL, List.map_cons, aC.aXC l]
theorem aC.aXD : ∀ l, aC.sL l = (l.map aC.s).sum
 | [] => rfl
 |x :: l => by simp only [aC.sL, List.map_cons, List.sum_cons, aC.aXD l]
theorem aC.aU (x : aC) : x.c = [(.int .i64 x.aP), (.int .i64 x.bC), (.int .i64 x.cR), (.int .i64 x.cD), (eZ 5 aC.c x.aN)] := by cases x; simp only [aC.c, aC.aXC, eZ]; rfl
theorem aC.tI (x : aC) : x.s = (qM aC.s x.aN) := by cases x; simp only [aC.s, aC.aXD, qM]; rfl
theorem aC.aDX {x y : aC} (h : y ∈ x.aN) : SizeOf.sizeOf y < SizeOf.sizeOf x := by
 cases x
 have := List.sizeOf_lt_of_mem h
 simp only [aC.aN] at this
 simp only [aC.mk.sizeOf_spec]; omega
@[simp] theorem aC.aJG (x : aC) : x.c.length = 5 := by rw [aC.aU]; rfl
inductive aC.wf : aC → Prop
 |mk (x : aC) (h0 : InI x.aP) (h1 : InI x.bC) (h2 : InI x.cR) (h3 : InI x.cD) (hk : ∀ y ∈ x.aN, y.wf) : x.wf
noncomputable instance : DecidableEq aC := fun a b => Classical.propDecidable (a = b)
structure aT where
 kE : (List UInt8)
 aW : Int
 aQ : (List aC)
def aT.c (x : aT) : List aD := [(.str x.kE), (.int .i64 x.aW), (eZ 5 aC.c x.aQ)]
def aT.s (x : aT) : Nat := x.kE.length + (qM aC.s x.aQ)
theorem aT.aU (x : aT) : x.c = [(.str x.kE), (.int .i64 x.aW), (eZ 5 aC.c x.aQ)] := rfl
theorem aT.tI (x : aT) : x.s = x.kE.length + (qM aC.s x.aQ) := rfl
@[simp] theorem aT.aJG (x : aT) : x.c.length = 3 := by rw [aT.aU]; rfl
def aT.wf (x : aT) : Prop := InI x.aW ∧ (∀ y ∈ x.aQ, y.wf)
noncomputable instance : DecidableEq aT := fun a b => Classical.propDecidable (a = b)
structure aE where
 aI : (List aT)
def aE.c (x : aE) : List aD := [(eZ 3 aT.c x.aI)]
def aE.s (x : aE) : Nat := (qM aT.s x.aI)
theorem aE.aU (x : aE) : x.c = [(eZ 3 aT.c x.aI)] := rfl
theorem aE.tI (x : aE) : x.s = (qM aT.s x.aI) := rfl
@[simp] theorem aE.aJG (x : aE) : x.c.length = 1 := by rw [aE.aU]; rfl
def aE.wf (x : aE) : Prop := (∀ y ∈ x.aI, y.wf)
noncomputable instance : DecidableEq aE := fun a b => Classical.propDecidable (a = b)
structure eI where
 aZ : aE
 cT : Int
 cE : Int
 iN : (List Int)
 cB : (List (List Int))
def eI.c (x : eI) : List aD := [(eZ 3 aT.c x.aZ.aI), (.int .i64 x.cT), (.int .i64 x.cE), (eZ 1 (fun n => [I n]) x.iN), (eZ 1 (fun x => [eZ 1 (fun n => [I n]) x]) x.cB)]
def eI.s (x : eI) : Nat := (aE.s x.aZ) + x.iN.length + (qM (fun x : List Int => x.length) x.cB)
theorem eI.aU (x : eI) : x.c = [(eZ 3 aT.c x.aZ.aI), (.int .i64 x.cT), (.int .i64 x.cE), (eZ 1 (fun n => [I n]) x.iN), (eZ 1 (fun x => [eZ 1 (fun n => [I n]) x]) x.cB)] := rfl
theorem eI.tI (x : eI) : x.s = (aE.s x.aZ) + x.iN.length + (qM (fun x : List Int => x.length) x.cB) := rfl
@[simp] theorem eI.aJG (x : eI) : x.c.length = 5 := by rw [eI.aU]; rfl
def eI.wf (x : eI) : Prop := x.aZ.wf ∧ InI x.cT ∧ InI x.cE ∧ (∀ y ∈ x.iN, InI y) ∧ (∀ y ∈ x.cB, (∀ y' ∈ y, InI y'))
noncomputable instance : DecidableEq eI := fun a b => Classical.propDecidable (a = b)
structure e8 where
 aS : Int
 kK : Int
 iO : (List Int)
def e8.c (x : e8) : List aD := [(.int .i64 x.aS), (.int .i64 x.kK), (eZ 1 (fun n => [I n]) x.iO)]
def e8.s (x : e8) : Nat := x.iO.length
theorem e8.aU (x : e8) : x.c = [(.int .i64 x.aS), (.int .i64 x.kK), (eZ 1 (fun n => [I n]) x.iO)] := rfl
theorem e8.tI (x : e8) : x.s = x.iO.length := rfl
@[simp] theorem e8.aJG (x : e8) : x.c.length = 3 := by rw [e8.aU]; rfl
def e8.wf (x : e8) : Prop := InI x.aS ∧ InI x.kK ∧ (∀ y ∈ x.iO, InI y)
noncomputable instance : DecidableEq e8 := fun a b => Classical.propDecidable (a = b)
open Go.Proofs
set_option linter.unusedVariables false
set_option linter.unusedSimpArgs false
open Go.Proofs
set_option linter.unusedVariables false
set_option linter.unusedSimpArgs false
open Go.Proofs
set_option linter.unusedVariables false
set_option linter.unusedSimpArgs false
set_option maxRecDepth 100000
open Go.Proofs
set_option linter.unusedVariables false
set_option linter.unusedSimpArgs false
@[go_sem] def a8R : List Nat := [0, 1, 2, 6]
@[go_sem] def bM5 : List Nat := []
@[go_sem] def bM6 : Marks := fun _ => ([], .nil, [])
theorem eJ (n a b : Int) : fL Tryz.prog 58 [I n, I a, I b] (.bool (decide (a ≤ n ∧ n ≤ b))) := by
 refine fT 15 a8R bM5 bM6 mix Tryz.func58 rfl (by kernel_rfl) (by simp) fun h => ?_
 simp -dsimp -implicitDefEqProofs only [go_sem, ↓reduceIte, Tryz.f58]
 repeat' (with_reducible first | intro _ | refine And.intro ?_ ?_)
 all_goals try (first | (simp [*]; done) | omega | grind)
@[go_sem] def a8S : List Nat := [0, 1, 2, 6]
@[go_sem] def bM7 : List Nat := []
@[go_sem] def bM8 : Marks := fun _ => ([], .nil, [])
theorem within (n a b : Int) : fL Tryz.prog 37 [I n, I a, I b] (.bool (decide (a ≤ n ∧ n ≤ b))) := by
 refine fT 15 a8S bM7 bM8 mix Tryz.func37 rfl (by kernel_rfl) (by simp) fun h => ?_
 simp -dsimp -implicitDefEqProofs only [go_sem, ↓reduceIte, Tryz.f37]
 repeat' (with_reducible first | intro _ | refine And.intro ?_ ?_)
 all_goals try (first | (simp [*]; done) | omega | grind)
@[go_sem] def a8T : List Nat := [0, 2]
@[go_sem] def bM9 : List Nat := []
@[go_sem] def bNA : Marks := fun _ => ([], .nil, [])
theorem pP (n : Int) : fL Tryz.prog 88 [I n] (.bool (decide (jA n))) := by
 refine fT 5 a8T bM9 bNA mix Tryz.func88 rfl (by kernel_rfl) (by simp) fun h => ?_
 simp -dsimp -implicitDefEqProofs only [go_sem, ↓reduceIte, Tryz.f88]
 first | refine aH.mk (eJ n 0 1000002) ?_ | refine aF.mk (eJ n 0 1000002) ?_ | refine aH.bS (eJ n 0 1000002) ?_ | refine aF.mk (bM.eQ (eJ n 0 1000002)) ?_
 simp -dsimp -implicitDefEqProofs only [go_sem, ↓reduceIte, Tryz.f88]
 all_goals rfl
@[go_sem] def a8U : List Nat := [0, 2]
@[go_sem] def bNB : List Nat := []
@[go_sem] def bNC : Marks := fun _ => ([], .nil, [])
theorem mK (n : Int) : fL Tryz.prog 54 [I n] (.bool (decide (jA n))) := by
 refine fT 5 a8U bNB bNC mix Tryz.func54 rfl (by kernel_rfl) (by simp) fun h => ?_
 simp -dsimp -implicitDefEqProofs only [go_sem, ↓reduceIte, Tryz.f54]
 first | refine aH.mk (within n 0 1000002) ?_ | refine aF.mk (within n 0 1000002) ?_ | refine aH.bS (within n 0 1000002) ?_ | refine aF.mk (bM.eQ (within n 0 1000002)) ?_
 simp -dsimp -implicitDefEqProofs only [go_sem, ↓reduceIte, Tryz.f54]
 all_goals rfl
@[go_sem] def aXE : List Nat := [0, 2, 3, 7, 15]
@[go_sem] def bFP : List Nat := []
@[go_sem] def bFQ : Marks := fun _ => ([], .nil, [])
theorem gH (l : List Int) : fL Tryz.prog 59 [eZ 1 (fun n => [I n]) l] (.bool (decide (eD l))) := by
 refine fT 16 aXE bFP bFQ mix Tryz.func59 rfl (by kernel_rfl) (by simp) fun h => ?_
 simp -dsimp -implicitDefEqProofs only [go_sem, ↓reduceIte, Tryz.f59]
 refine cS (keep := aXE) (ib := bFP) (mk := bFQ) mix (by kernel_rfl) (fun k : Nat => [(0, eZ 1 (fun n => [I n]) l), (3, I k)]) (fun _ => h) (fun k => k ≤ (l).length ∧ ∀ x ∈ (l).take k, jA x) (fun k => (l).length - k) 0 (by simp [cV, bZ, aB.le_refl]) ?_
 intro k ⟨hk, hp⟩
 rcases Nat.lt_or_ge k (l).length with hlt | hge
 ·have ea : (l)[k]? = some (l)[k] := List.getElem?_eq_getElem hlt
  simp -dsimp -implicitDefEqProofs only [go_sem, ↓reduceIte, Tryz.f59, ea]
  repeat' (with_reducible first | intro _ | refine And.intro ?_ ?_)
  all_goals try omega
  first | refine aH.mk (pP l[k]) ?_ | refine aF.mk (pP l[k]) ?_ | refine aH.bS (pP l[k]) ?_ | refine aF.mk (bM.eQ (pP l[k])) ?_
  simp -dsimp -implicitDefEqProofs only [go_sem, ↓reduceIte, Tryz.f59]
  repeat' (with_reducible first | intro _ | refine And.intro ?_ ?_)
  ·rename_i he
   exact (decide_eq_false fun e => he (e _ (List.getElem_mem hlt))).symm
  ·rename_i he
   refine ⟨k + 1, ?_⟩
   repeat' (with_reducible refine And.intro ?_ ?_)
   all_goals try (rw [IntWalk.i64_in _ (by omega)]; first | rfl | omega)
   all_goals try omega
   all_goals try (repeat' (with_reducible first | exact aB.le_refl _ | refine (aY (by first | assumption | exact And.right (by assumption) | exact cP.2 (by assumption))).2 ?_))
   exact oZ hlt hp he
 ·have hk' : k = (l).length := by omega
  subst hk'
  rw [List.take_length] at hp
  simp -dsimp -implicitDefEqProofs only [go_sem, ↓reduceIte, Tryz.f59, Nat.lt_irrefl]
  intro _
  exact (decide_eq_true hp).symm
@[go_sem] def aXF : List Nat := [0, 1, 4, 5, 7, 8, 9, 16]
@[go_sem] def bFR : List Nat := []
@[go_sem] def bFS : Marks := fun _ => ([], .nil, [])
theorem aOM (a : List Int) (p : Int → Bool) (g : FuncId) (cap : List aD) {h0 : aB} (hc : ∀ x ∈ a, bM Tryz.prog g ([(.int .i64 x)] ++ cap) (.bool (p x)) h0) : bM Tryz.prog 84 [(eZ 1 (fun n => [I n]) a), .fn (.func g) [] cap] (I (idxOf p a)) h0 := by
 refine aB0 19 aXF bFR bFS mix Tryz.func84 rfl (by kernel_rfl) (by simp) fun h hle => ?_
 simp -dsimp -implicitDefEqProofs only [go_sem, ↓reduceIte, Tryz.f84, Tryz.f84]
 intro _
 refine cS (keep := aXF) (ib := bFR) (mk := bFS) mix (by kernel_rfl) (fun k : Nat => [(0, (eZ 1 (fun n => [I n]) a)), (1, .fn (.func g) [] cap), (7, I a.length), (8, I k)]) (fun _ => h) (fun k => k ≤ a.length ∧ ∀ x ∈ a.take k, p x = false) (fun k => a.length - k) 0 (by simp [cV, bZ, aB.le_refl]) ?_
 intro k ⟨hk, hp⟩
 rcases Nat.lt_or_ge k a.length with hlt | hge
 ·have ea : a[k]? = some a[k] := List.getElem?_eq_getElem hlt
  simp -dsimp -implicitDefEqProofs only [go_sem, ↓reduceIte, Tryz.f84, Tryz.f84, ea]
  repeat' (with_reducible first | intro _ | refine And.intro ?_ ?_)
  all_goals try omega
  have hx := hc a[k] (List.getElem_mem hlt)
  refine aH.bS (hx.mono hle) ?_
  cases hpk : p a[k] with
  |true =>
   simp -dsimp -implicitDefEqProofs only [go_sem, ↓reduceIte, Tryz.f84, Tryz.f84]
   repeat' (with_reducible first | intro _ | refine And.intro ?_ ?_)
   all_goals first | exact (qZ hlt hp hpk).symm | rfl | (rw [qZ hlt hp hpk])
  |false =>
   simp -dsimp -implicitDefEqProofs only [go_sem, ↓reduceIte, Tryz.f84, Tryz.f84]
   refine ⟨k + 1, ?_⟩
   repeat' (with_reducible refine And.intro ?_ ?_)
   all_goals try (rw [IntWalk.i64_in _ (by omega)]; first | rfl | omega)
   all_goals try omega
   exact oZ (P := fun x => p x = false) hlt hp hpk
 ·have hk' : k = a.length := by omega
  subst hk'
  rw [List.take_length] at hp
  simp -dsimp -implicitDefEqProofs only [go_sem, ↓reduceIte, Tryz.f84, Tryz.f84, Nat.lt_irrefl]
  all_goals first | exact (qY hp).symm | rw [qY hp]
@[go_sem] def a8V : List Nat := [0, 1, 4]
@[go_sem] def bND : List Nat := []
@[go_sem] def bNE : Marks := fun _ => ([], .nil, [])
theorem rR (a : List Int) (p : Int → Bool) (g : FuncId) (cap : List aD) {h0 : aB} (hc : ∀ x ∈ a, bM Tryz.prog g ([(.int .i64 x)] ++ cap) (.bool (p x)) h0) : bM Tryz.prog 52 [(eZ 1 (fun n => [I n]) a), .fn (.func g) [] cap] (.bool (a.any p)) h0 := by
 refine aB0 9 a8V bND bNE mix Tryz.func52 rfl (by kernel_rfl) (by simp) fun h hle => ?_
 simp -dsimp -implicitDefEqProofs only [go_sem, ↓reduceIte, Tryz.f52, Tryz.f52]
 refine aH.bS ((aOM a p g cap hc).mono hle) ?_
 simp -dsimp -implicitDefEqProofs only [go_sem, ↓reduceIte, Tryz.f52, Tryz.f52]
 all_goals first | done | exact nT | rw [nT]
@[go_sem] def a8W : List Nat := [0, 2]
@[go_sem] def bNF : List Nat := []
@[go_sem] def bNG : Marks := fun _ => ([], .nil, [])
theorem tZ (n : Int) : fL Tryz.prog 53 [I n] (.bool (!decide (jA n))) := by
 refine fT 6 a8W bNF bNG mix Tryz.func53 rfl (by kernel_rfl) (by simp) fun h => ?_
 simp -dsimp -implicitDefEqProofs only [go_sem, ↓reduceIte, Tryz.f53]
 first | refine aH.mk (mK n) ?_ | refine aF.mk (mK n) ?_ | refine aH.bS (mK n) ?_ | refine aF.mk (bM.eQ (mK n)) ?_
 simp -dsimp -implicitDefEqProofs only [go_sem, ↓reduceIte, Tryz.f53]
@[go_sem] def a8X : List Nat := [0, 1, 4]
@[go_sem] def bNH : List Nat := []
@[go_sem] def bNI : Marks := fun _ => ([], .nil, [])
theorem kL (l : List Int) (c : Int) : fL Tryz.prog 26 [eZ 1 (fun n => [I n]) l, I c] (.bool (decide ((l.length : Int) = c ∧ eD l))) := by
 refine fT 14 a8X bNH bNI mix Tryz.func26 rfl (by kernel_rfl) (by simp) fun h => ?_
 simp -dsimp -implicitDefEqProofs only [go_sem, ↓reduceIte, Tryz.f26]
 repeat' (with_reducible first | intro _ | refine And.intro ?_ ?_)
 all_goals try (first | (simp [*]; done) | omega | grind)
 first | refine aH.mk (rR l (fun n => !decide (jA n)) 53 [] fun x _ => (tZ x).a1R) ?_ | refine aF.mk (rR l (fun n => !decide (jA n)) 53 [] fun x _ => (tZ x).a1R) ?_ | refine aH.bS (rR l (fun n => !decide (jA n)) 53 [] fun x _ => (tZ x).a1R) ?_ | refine aF.mk (bM.eQ (rR l (fun n => !decide (jA n)) 53 [] fun x _ => (tZ x).a1R)) ?_
 simp -dsimp -implicitDefEqProofs only [go_sem, ↓reduceIte, Tryz.f26]
 rename_i e
 rw [aKZ, decide_eq_decide]
 exact ⟨fun q => ⟨e, q⟩, fun q => q.2⟩
set_option maxRecDepth 100000
open Go.Proofs
set_option linter.unusedVariables false
set_option linter.unusedSimpArgs false
def Low (c : UInt8) : Prop := 97 ≤ c.toNat ∧ c.toNat ≤ 122
def Dig (c : UInt8) : Prop := 48 ≤ c.toNat ∧ c.toNat ≤ 57
instance (c : UInt8) : Decidable (Low c) := inferInstanceAs (Decidable (_ ∧ _))
instance (c : UInt8) : Decidable (Dig c) := inferInstanceAs (Decidable (_ ∧ _))
def aA0 (s : List UInt8) : Prop := 1 ≤ s.length ∧ s.length ≤ 12 ∧ (∀ c, s[0]? = some c → Low c) ∧ ∀ c ∈ s, Low c ∨ Dig c
noncomputable instance (s : List UInt8) : Decidable (aA0 s) := Classical.propDecidable _
theorem aJH {s : List UInt8} {k : Nat} {c : UInt8} (h : k < s.length) (ec : s[k] = c) (hp : ∀ x ∈ s.take k, Low x ∨ Dig x) (he : Low c ∨ Dig c) : ∀ x ∈ s.take (k + 1), Low x ∨ Dig x :=
 oZ (P := fun x => Low x ∨ Dig x) h hp (by rw [ec]; exact he)
theorem aON {s : List UInt8} {k : Nat} {c : UInt8} (h : k < s.length) (ec : s[k] = c) (he : ¬ (Low c ∨ Dig c)) : false = decide (aA0 s) :=
 (decide_eq_false fun e => he (ec ▸ e.2.2.2 _ (List.getElem_mem h))).symm
theorem aU8 {s : List UInt8} {k : Nat} {c : UInt8} (h : k < s.length) (h0 : (k : Int) = 0) (ec : s[k] = c) (he : ¬ Low c) : false = decide (aA0 s) :=
 (decide_eq_false fun e => he (e.2.2.1 c (by have : k = 0 := by omega
                                             subst this; rw [List.getElem?_eq_getElem h, ec]))).symm
@[go_sem] def aK0 : List Nat := [0, 2, 3, 17, 21, 45]
@[go_sem] def aXG : List Nat := []
@[go_sem] def aXH : Marks := fun _ => ([], .nil, [])
theorem w9 (s : List UInt8) : fL Tryz.prog 113 [.str s] (.bool (decide (aA0 s))) := by
 cases s with
 |nil =>
  refine fT 46 aK0 aXG aXH mix Tryz.func113 rfl (by kernel_rfl) (by simp) fun h => ?_
  simp -dsimp -implicitDefEqProofs only [go_sem, ↓reduceIte, Tryz.f113]
  first | refine aH.mk (eJ 0 1 12) ?_ | refine aF.mk (eJ 0 1 12) ?_ | refine aH.bS (eJ 0 1 12) ?_ | refine aF.mk (bM.eQ (eJ 0 1 12)) ?_
  simp -dsimp -implicitDefEqProofs only [go_sem, ↓reduceIte, Tryz.f113]
  repeat' (with_reducible first | intro _ | refine And.intro ?_ ?_)
  all_goals try (first | (simp [aA0, *]; done) | omega | (grind [aA0]) | (simp [aA0]; omega))
 |cons c t =>
  refine fT 46 aK0 aXG aXH mix Tryz.func113 rfl (by kernel_rfl) (by simp) fun h => ?_
  simp -dsimp -implicitDefEqProofs only [go_sem, ↓reduceIte, Tryz.f113, List.getElem?_cons_zero, Int.toNat_zero]
  intro _
  first | refine aH.mk (eJ (c :: t).length 1 12) ?_ | refine aF.mk (eJ (c :: t).length 1 12) ?_ | refine aH.bS (eJ (c :: t).length 1 12) ?_ | refine aF.mk (bM.eQ (eJ (c :: t).length 1 12)) ?_
  simp -dsimp -implicitDefEqProofs only [go_sem, ↓reduceIte, Tryz.f113, List.getElem?_cons_zero, Int.toNat_zero]
  repeat' (with_reducible first | intro _ | refine And.intro ?_ ?_)
  all_goals try (first | (simp [aA0, Low, Dig, *]; done) | omega | (grind [aA0, Low, Dig]) | (simp [aA0, Low, Dig]; omega))
  rename_i h0 h1 h2 h3
  generalize hs : c :: t = s at *
  refine cS (keep := aK0) (ib := aXG) (mk := aXH) mix (by kernel_rfl) (fun k : Nat => [(0, .str s), (3, I k)]) (fun _ => h) (fun k => k ≤ s.length ∧ ∀ x ∈ s.take k, Low x ∨ Dig x) (fun k => s.length - k) 0 (by simp [cV, bZ, aB.le_refl]) ?_
  intro k ⟨hk, hp⟩
  rcases Nat.lt_or_ge k s.length with hlt | hge
  ·generalize ec : s[k] = d
   have ea : s[k]? = some d := by rw [← ec]; exact List.getElem?_eq_getElem hlt
   simp -dsimp -implicitDefEqProofs only [go_sem, ↓reduceIte, Tryz.f113, ea, Int.toNat_natCast]
   repeat' (with_reducible first | intro _ | refine And.intro ?_ ?_)
   all_goals try omega
   all_goals try exact aON hlt ec (by simp only [Low, Dig]; omega)
   all_goals
    refine ⟨k + 1, ?_⟩
    repeat' (with_reducible refine And.intro ?_ ?_)
    all_goals try (rw [IntWalk.i64_in _ (by omega)]; first | rfl | omega)
    all_goals try omega
    all_goals try (repeat' (with_reducible first | exact aB.le_refl _ | refine (aY (by first | assumption | exact And.right (by assumption) | exact cP.2 (by assumption))).2 ?_))
    exact aJH hlt ec hp (by simp only [Low, Dig]; omega)
  ·have hk' : k = s.length := by omega
   subst hk'
   rw [List.take_length] at hp
   simp -dsimp -implicitDefEqProofs only [go_sem, ↓reduceIte, Tryz.f113, Nat.lt_irrefl]
   have : s.length = t.length + 1 := by rw [← hs]; rfl
   exact fun _ => (decide_eq_true ⟨by omega, by omega, fun x hx => by rw [← hs] at hx; simp at hx; subst hx; simp only [Low]; omega, hp⟩).symm
@[go_sem] def aXI : List Nat := [0, 2, 3, 5, 6, 7, 34]
@[go_sem] def bFT : List Nat := []
@[go_sem] def bFU : Marks := fun _ => ([], .nil, [])
theorem aK1 (s : List UInt8) : fL Tryz.prog 98 [.str s] (.bool (decide (aA0 s))) := by
 refine fT 44 aXI bFT bFU mix Tryz.func98 rfl (by kernel_rfl) (by simp) fun h => ?_
 simp -dsimp -implicitDefEqProofs only [go_sem, ↓reduceIte, Tryz.f98]
 repeat' (with_reducible first | intro _ | refine And.intro ?_ ?_)
 refine cS (keep := aXI) (ib := bFT) (mk := bFU) mix (by kernel_rfl) (fun k : Nat => [(0, .str s), (5, I s.length), (6, I k)]) (fun _ => h) (fun k => k ≤ s.length ∧ (∀ x ∈ s.take k, Low x ∨ Dig x) ∧ (0 < k → ∀ c, s[0]? = some c → Low c)) (fun k => s.length - k) 0 (by simp [cV, bZ, aB.le_refl]) ?_
 intro k ⟨hk, hp, hz⟩
 rcases Nat.lt_or_ge k s.length with hlt | hge
 ·generalize ec : s[k] = d
  have ea : s[k]? = some d := by rw [← ec]; exact List.getElem?_eq_getElem hlt
  have hz' : Low d ∨ ¬ ((k : Int) = 0) → ∀ c, s[0]? = some c → Low c := by
   intro q c hc
   by_cases h0 : k = 0
   ·subst h0
    rw [ea] at hc
    obtain rfl := Option.some.inj hc
    exact q.resolve_right (by simp)
   ·exact hz (by omega) c hc
  simp -dsimp -implicitDefEqProofs only [go_sem, ↓reduceIte, Tryz.f98, ea, Int.toNat_natCast]
  repeat' (with_reducible first | intro _ | refine And.intro ?_ ?_)
  all_goals try omega
  all_goals try exact aON hlt ec (by simp only [Low, Dig]; omega)
  all_goals try exact aU8 hlt (by omega) ec (by simp only [Low]; omega)
  all_goals
   refine ⟨k + 1, ?_⟩
   repeat' (with_reducible refine And.intro ?_ ?_)
   all_goals try (rw [IntWalk.i64_in _ (by omega)]; first | rfl | omega)
   all_goals try omega
   all_goals try (repeat' (with_reducible first | exact aB.le_refl _ | refine (aY (by first | assumption | exact And.right (by assumption) | exact cP.2 (by assumption))).2 ?_))
   all_goals first | exact aJH hlt ec hp (by simp only [Low, Dig]; omega) | exact fun _ => hz' (by simp only [Low]; omega)
 ·have hk' : k = s.length := by omega
  subst hk'
  rw [List.take_length] at hp
  simp -dsimp -implicitDefEqProofs only [go_sem, ↓reduceIte, Tryz.f98, Nat.lt_irrefl]
  repeat' (with_reducible first | intro _ | refine And.intro ?_ ?_)
  all_goals simp only [aA0, decide_eq_decide, eq_comm (a := false), decide_eq_false_iff_not]
  all_goals grind
set_option maxRecDepth 100000
open Go.Proofs
set_option linter.unusedVariables false
set_option linter.unusedSimpArgs false
mutual
def aC.d : aC → Nat
 | .mk _ _ _ _ kids => aC.dL kids + 1
def aC.dL : List aC → Nat
 | [] => 0
 |x :: l => max x.d (aC.dL l)
end
theorem aC.aXJ (x : aC) : x.d = aC.dL x.aN + 1 := by cases x; rfl
theorem aC.aK2 : ∀ {l : List aC} {k : Nat} (h : k < l.length), aC.dL (l.take (k + 1)) = max (aC.dL (l.take k)) l[k].d
 |x :: l, 0, _ => by simp [aC.dL]
 |x :: l, k + 1, h => by
  have := aC.aK2 (l := l) (k := k) (by simpa using h)
  simp only [List.take_succ_cons, aC.dL, this, List.getElem_cons_succ]
  omega
mutual
theorem aC.a8Y : ∀ x : aC, x.d ≤ x.s + 1
 | .mk _ _ _ _ kids => by
  have := aC.a54 kids
  simp only [aC.d, aC.s]; omega
theorem aC.a54 : ∀ l : List aC, aC.dL l ≤ l.length + aC.sL l
 | [] => by simp [aC.dL]
 |x :: l => by
  have h1 := aC.a8Y x
  have h2 := aC.a54 l
  simp only [aC.dL, aC.sL, List.length_cons]; omega
end
theorem aC.aB6 {x y : aC} (h : y ∈ x.aN) : y.s < x.s := by
 have h1 := aKY aC.s h
 have h2 := List.length_pos_of_mem h
 rw [x.tI, kT]; omega
theorem aC.aXK (x : aC) {k : Nat} (h : k < x.aN.length) : k + ((x.aN.take k).map aC.s).sum + x.aN[k].s + 1 ≤ x.s := by
 have h1 := lO aC.s x.aN k h
 have h2 := tY aC.s x.aN (k + 1)
 rw [x.tI, kT]; omega
theorem aC.a55 (x : aC) : x.aN.length + ((x.aN.take x.aN.length).map aC.s).sum = x.s := by
 rw [List.take_length, x.tI, kT]
@[go_sem] def aSO : List Nat := [0, 1, 2, 3, 5, 7, 8, 9, 10]
@[go_sem] def a56 : List Nat := [1]
@[go_sem] def a57 : Marks := fun _ => ([], .nil, [])
theorem aIW (x : aC) (hs : x.s ≤ 4294967296) (hc : ∀ y ∈ x.aN, fL Tryz.prog 102 [.agg y.c] (I ((y.s : Int) + 1))) : fL Tryz.prog 102 [.agg x.c] (I ((x.s : Int) + 1)) := by
 have hx := x.a55
 rw [aC.aU x]
 refine fT 19 aSO a56 a57 mix Tryz.func102 rfl (by kernel_rfl) (by simp) fun h => ?_
 simp -dsimp -implicitDefEqProofs only [go_sem, ↓reduceIte, Tryz.f102]
 repeat' (with_reducible first | intro _ | refine And.intro ?_ ?_)
 refine cS (keep := aSO) (ib := a56) (mk := a57) mix (by kernel_rfl) (fun k : Nat => [(1, .ip 5 [x.c] 0 0), (3, I (1 + k + (((x.aN.take k).map aC.s).sum : Int))), (7, eZ 5 aC.c x.aN), (8, I x.aN.length), (9, I k)]) (fun _ => h) (fun k => k ≤ x.aN.length) (fun k => x.aN.length - k) 0 (by simp [cV, bZ, aB.le_refl, aC.aU]) ?_
 intro k hk
 rcases Nat.lt_or_ge k x.aN.length with hlt | hge
 ·have ea : x.aN[k]? = some x.aN[k] := List.getElem?_eq_getElem hlt
  have hp := x.aXK hlt
  have h1 := lO aC.s x.aN k hlt
  have hcy := hc x.aN[k] (List.getElem_mem hlt)
  simp only [aC.aU] at hcy
  simp -dsimp -implicitDefEqProofs only [go_sem, ↓reduceIte, Tryz.f102, ea, aC.aU, aK]
  repeat' (with_reducible first | intro _ | refine And.intro ?_ ?_)
  all_goals try omega
  first | refine aH.mk (hcy) ?_ | refine aF.mk (hcy) ?_ | refine aH.bS (hcy) ?_ | refine aF.mk (bM.eQ (hcy)) ?_
  simp -dsimp -implicitDefEqProofs only [go_sem, ↓reduceIte, Tryz.f102]
  rename_i n hn
  refine ⟨k + 1, ?_⟩
  repeat' (with_reducible refine And.intro ?_ ?_)
  all_goals try (rw [IntWalk.i64_in _ (by omega)]; first | rfl | omega)
  all_goals try omega
  all_goals try (repeat' (with_reducible first | exact aB.le_refl _ | refine (aY (by first | assumption | exact And.right (by assumption) | exact cP.2 (by assumption))).2 ?_))
  all_goals try (simp only [aC.aU]; done)
 ·have hk' : k = x.aN.length := by omega
  subst hk'
  simp -dsimp -implicitDefEqProofs only [go_sem, ↓reduceIte, Tryz.f102, Nat.lt_irrefl]
  omega
theorem aHD (x : aC) (hs : x.s ≤ 4294967296) : fL Tryz.prog 102 [.agg x.c] (I ((x.s : Int) + 1)) :=
 aIW x hs fun y hy => aHD y (by have := aC.aB6 hy; omega)
termination_by SizeOf.sizeOf x
decreasing_by exact aC.aDX hy
@[go_sem] def aSP : List Nat := [0, 1, 2, 3, 5, 7, 8, 9, 10]
@[go_sem] def a58 : List Nat := [1]
@[go_sem] def a59 : Marks := fun _ => ([], .nil, [])
theorem aHE (x : aC) (hs : x.s ≤ 4294967296) (hc : ∀ y ∈ x.aN, fL Tryz.prog 125 [.agg y.c] (I (y.d : Int))) : fL Tryz.prog 125 [.agg x.c] (I (x.d : Int)) := by
 have hd := x.a8Y
 rw [aC.aXJ] at hd ⊢
 rw [aC.aU x]
 refine fT 20 aSP a58 a59 mix Tryz.func125 rfl (by kernel_rfl) (by simp) fun h => ?_
 simp -dsimp -implicitDefEqProofs only [go_sem, ↓reduceIte, Tryz.f125]
 repeat' (with_reducible first | intro _ | refine And.intro ?_ ?_)
 refine cS (keep := aSP) (ib := a58) (mk := a59) mix (by kernel_rfl) (fun k : Nat => [(1, .ip 5 [x.c] 0 0), (3, I (aC.dL (x.aN.take k) : Int)), (7, eZ 5 aC.c x.aN), (8, I x.aN.length), (9, I k)]) (fun _ => h) (fun k => k ≤ x.aN.length) (fun k => x.aN.length - k) 0 (by simp [cV, bZ, aB.le_refl, aC.aU, aC.dL]) ?_
 intro k hk
 rcases Nat.lt_or_ge k x.aN.length with hlt | hge
 ·have ea : x.aN[k]? = some x.aN[k] := List.getElem?_eq_getElem hlt
  have h1 := aC.aK2 hlt
  have hcy := hc x.aN[k] (List.getElem_mem hlt)
  simp only [aC.aU] at hcy
  simp -dsimp -implicitDefEqProofs only [go_sem, ↓reduceIte, Tryz.f125, ea, aC.aU, aK]
  repeat' (with_reducible first | intro _ | refine And.intro ?_ ?_)
  all_goals try omega
  first | refine aH.mk (hcy) ?_ | refine aF.mk (hcy) ?_ | refine aH.bS (hcy) ?_ | refine aF.mk (bM.eQ (hcy)) ?_
  simp -dsimp -implicitDefEqProofs only [go_sem, ↓reduceIte, Tryz.f125]
  repeat' (with_reducible first | intro _ | refine And.intro ?_ ?_)
  all_goals try rfl
  rename_i n hn
  refine ⟨k + 1, ?_⟩
  repeat' (with_reducible refine And.intro ?_ ?_)
  all_goals try (rw [IntWalk.i64_in _ (by omega)]; first | rfl | omega)
  all_goals try omega
  all_goals try (repeat' (with_reducible first | exact aB.le_refl _ | refine (aY (by first | assumption | exact And.right (by assumption) | exact cP.2 (by assumption))).2 ?_))
  all_goals try (simp only [aC.aU]; done)
 ·have hk' : k = x.aN.length := by omega
  subst hk'
  simp -dsimp -implicitDefEqProofs only [go_sem, ↓reduceIte, Tryz.f125, Nat.lt_irrefl]
  rw [List.take_length, IntWalk.i64_in _ (by omega)]; omega
theorem aJI (x : aC) (hs : x.s ≤ 4294967296) : fL Tryz.prog 125 [.agg x.c] (I (x.d : Int)) :=
 aHE x hs fun y hy => aJI y (by have := aC.aB6 hy; omega)
termination_by SizeOf.sizeOf x
decreasing_by exact aC.aDX hy
@[go_sem] def aSQ : List Nat := [0, 1, 4, 5, 18]
@[go_sem] def a6A : List Nat := []
@[go_sem] def a6B : Marks := fun _ => ([], .nil, [])
theorem aK3 (x : aC) (left : Int) (h0 : 0 ≤ left) (h9 : left ≤ 4294967296) (hs : x.s ≤ 4294967296) (hc : ∀ y ∈ x.aN, ∀ left : Int, 0 ≤ left → left ≤ 4294967296 → fL Tryz.prog 114 [.ip 5 [y.c] 0 0, I left] (I (lft left (y.s + 1)))) : fL Tryz.prog 114 [.ip 5 [x.c] 0 0, I left] (I (lft left (x.s + 1))) := by
 have hx := x.a55
 rw [aC.aU x]
 refine fT 30 aSQ a6A a6B mix Tryz.func114 rfl (by kernel_rfl) (by simp) fun h => ?_
 simp -dsimp -implicitDefEqProofs only [go_sem, ↓reduceIte, Tryz.f114]
 repeat' (with_reducible first | intro _ | refine And.intro ?_ ?_)
 refine cS (keep := aSQ) (ib := a6A) (mk := a6B) mix (by kernel_rfl) (fun k : Nat => [(0, .ip 5 [x.c] 0 0), (1, I (lft left (1 + k + ((x.aN.take k).map aC.s).sum))), (5, I k)]) (fun _ => h) (fun k => k ≤ x.aN.length) (fun k => x.aN.length - k) 0 (by simp [cV, bZ, aB.le_refl, aC.aU]; rw [IntWalk.i64_in _ (by omega)]; unfold lft; split <;> omega) ?_
 intro k hk
 rcases Nat.lt_or_ge k x.aN.length with hlt | hge
 ·have hp := x.aXK hlt
  have h1 := lO aC.s x.aN k hlt
  rcases aJF left (1 + k + ((x.aN.take k).map aC.s).sum) with ⟨e, hl⟩ | ⟨e, hl⟩
  ·rw [e, aC.aU x]
   simp -dsimp -implicitDefEqProofs only [go_sem, ↓reduceIte, Tryz.f114]
   repeat' (with_reducible first | intro _ | refine And.intro ?_ ?_)
   all_goals try omega
   exact (a1V (by omega)).symm
  ·rw [e, aC.aU x]
   simp -dsimp -implicitDefEqProofs only [go_sem, ↓reduceIte, Tryz.f114]
   repeat' (with_reducible first | intro _ | refine And.intro ?_ ?_)
   all_goals try omega
   first | refine aF.mk ((hc x.aN[k] (List.getElem_mem hlt) _ hl (by omega)).sub (by repeat' (first | exact gE.nil | refine gE.cons ?_ ?_ | exact Sub.refl _ | (rw [aC.aU]; exact Sub.refl _) | exact Sub.fO rfl rfl rfl | exact Sub.ip (cZ (by omega)) (by simp) | exact Sub.fO (cZ (by omega)) rfl rfl | exact Sub.ip (by simp [*]) (by simp) | exact Sub.fO (by simp [*]) (by rfl) (by rfl)))) ?_ | refine aH.mk ((hc x.aN[k] (List.getElem_mem hlt) _ hl (by omega)).sub (by repeat' (first | exact gE.nil | refine gE.cons ?_ ?_ | exact Sub.refl _ | (rw [aC.aU]; exact Sub.refl _) | exact Sub.fO rfl rfl rfl | exact Sub.ip (cZ (by omega)) (by simp) | exact Sub.fO (cZ (by omega)) rfl rfl | exact Sub.ip (by simp [*]) (by simp) | exact Sub.fO (by simp [*]) (by rfl) (by rfl)))) ?_
   simp -dsimp -implicitDefEqProofs only [go_sem, ↓reduceIte, Tryz.f114]
   refine ⟨k + 1, ?_⟩
   repeat' (with_reducible refine And.intro ?_ ?_)
   all_goals try (rw [IntWalk.i64_in _ (by omega)]; first | rfl | omega)
   all_goals try omega
   all_goals try (repeat' (with_reducible first | exact aB.le_refl _ | refine (aY (by first | assumption | exact And.right (by assumption) | exact cP.2 (by assumption))).2 ?_))
   all_goals try (simp only [aC.aU]; done)
   all_goals (rw [h1]; unfold lft; split <;> split <;> omega)
 ·have hk' : k = x.aN.length := by omega
  subst hk'
  rw [aC.aU x]
  simp -dsimp -implicitDefEqProofs only [go_sem, ↓reduceIte, Tryz.f114, Nat.lt_irrefl]
  rw [show 1 + x.aN.length + ((x.aN.take x.aN.length).map aC.s).sum = x.s + 1 by omega]
  exact fun _ => rfl
theorem aB7 (x : aC) (left : Int) (h0 : 0 ≤ left) (h9 : left ≤ 4294967296) (hs : x.s ≤ 4294967296) : fL Tryz.prog 114 [.ip 5 [x.c] 0 0, I left] (I (lft left (x.s + 1))) :=
 aK3 x left h0 h9 hs fun y hy left h0 h9 => aB7 y left h0 h9 (by have := aC.aB6 hy; omega)
termination_by SizeOf.sizeOf x
decreasing_by exact aC.aDX hy
@[go_sem] def a1W : List Nat := [0, 1, 4, 7]
@[go_sem] def bFV : List Nat := []
@[go_sem] def bFW : Marks := fun _ => ([], .nil, [])
theorem aK4 (a b : Int) : fL Tryz.prog 156 [I a, I b] (I (max a b)) := by
 refine fT 10 a1W bFV bFW mix Tryz.func156 rfl (by kernel_rfl) (by simp) fun h => ?_
 simp -dsimp -implicitDefEqProofs only [go_sem, ↓reduceIte, Tryz.f156]
 repeat' (with_reducible first | intro _ | refine And.intro ?_ ?_)
 all_goals omega
@[go_sem] def aSR : List Nat := [0, 2, 3, 4, 11]
@[go_sem] def a6C : List Nat := []
@[go_sem] def a6D : Marks := fun _ => ([], .nil, [])
theorem aIX (x : aC) (hs : x.s ≤ 4294967296) (hc : ∀ y ∈ x.aN, fL Tryz.prog 132 [.ip 5 [y.c] 0 0] (I (y.d : Int))) : fL Tryz.prog 132 [.ip 5 [x.c] 0 0] (I (x.d : Int)) := by
 have hd := x.a8Y
 rw [aC.aXJ] at hd ⊢
 rw [aC.aU x]
 refine fT 25 aSR a6C a6D mix Tryz.func132 rfl (by kernel_rfl) (by simp) fun h => ?_
 simp -dsimp -implicitDefEqProofs only [go_sem, ↓reduceIte, Tryz.f132]
 repeat' (with_reducible first | intro _ | refine And.intro ?_ ?_)
 refine cS (keep := aSR) (ib := a6C) (mk := a6D) mix (by kernel_rfl) (fun k : Nat => [(0, .ip 5 [x.c] 0 0), (3, I (aC.dL (x.aN.take k) : Int)), (4, I k)]) (fun _ => h) (fun k => k ≤ x.aN.length) (fun k => x.aN.length - k) 0 (by simp [cV, bZ, aB.le_refl, aC.aU, aC.dL]) ?_
 intro k hk
 rw [aC.aU x]
 rcases Nat.lt_or_ge k x.aN.length with hlt | hge
 ·have h1 := aC.aK2 hlt
  simp -dsimp -implicitDefEqProofs only [go_sem, ↓reduceIte, Tryz.f132]
  repeat' (with_reducible first | intro _ | refine And.intro ?_ ?_)
  all_goals try omega
  first | refine aF.mk ((hc x.aN[k] (List.getElem_mem hlt)).sub (by repeat' (first | exact gE.nil | refine gE.cons ?_ ?_ | exact Sub.refl _ | (rw [aC.aU]; exact Sub.refl _) | exact Sub.fO rfl rfl rfl | exact Sub.ip (cZ (by omega)) (by simp) | exact Sub.fO (cZ (by omega)) rfl rfl | exact Sub.ip (by simp [*]) (by simp) | exact Sub.fO (by simp [*]) (by rfl) (by rfl)))) ?_ | refine aH.mk ((hc x.aN[k] (List.getElem_mem hlt)).sub (by repeat' (first | exact gE.nil | refine gE.cons ?_ ?_ | exact Sub.refl _ | (rw [aC.aU]; exact Sub.refl _) | exact Sub.fO rfl rfl rfl | exact Sub.ip (cZ (by omega)) (by simp) | exact Sub.fO (cZ (by omega)) rfl rfl | exact Sub.ip (by simp [*]) (by simp) | exact Sub.fO (by simp [*]) (by rfl) (by rfl)))) ?_
  simp -dsimp -implicitDefEqProofs only [go_sem, ↓reduceIte, Tryz.f132]
  first | refine aH.mk (aK4 _ _) ?_ | refine aF.mk (aK4 _ _) ?_ | refine aH.bS (aK4 _ _) ?_ | refine aF.mk (bM.eQ (aK4 _ _)) ?_
  simp -dsimp -implicitDefEqProofs only [go_sem, ↓reduceIte, Tryz.f132]
  refine ⟨k + 1, ?_⟩
  repeat' (with_reducible refine And.intro ?_ ?_)
  all_goals try (rw [IntWalk.i64_in _ (by omega)]; first | rfl | omega)
  all_goals try omega
  all_goals try (repeat' (with_reducible first | exact aB.le_refl _ | refine (aY (by first | assumption | exact And.right (by assumption) | exact cP.2 (by assumption))).2 ?_))
  all_goals try (simp only [aC.aU]; done)
 ·have hk' : k = x.aN.length := by omega
  subst hk'
  simp -dsimp -implicitDefEqProofs only [go_sem, ↓reduceIte, Tryz.f132, Nat.lt_irrefl]
  intro _
  rw [List.take_length, IntWalk.i64_in _ (by omega)]; omega
theorem aHF (x : aC) (hs : x.s ≤ 4294967296) : fL Tryz.prog 132 [.ip 5 [x.c] 0 0] (I (x.d : Int)) :=
 aIX x hs fun y hy => aHF y (by have := aC.aB6 hy; omega)
termination_by SizeOf.sizeOf x
decreasing_by exact aC.aDX hy
set_option maxRecDepth 100000
open Go.Proofs
set_option linter.unusedVariables false
set_option linter.unusedSimpArgs false
def dR (k : Int) : Int := if k = 1 ∨ k = 2 then 0 else if k = 3 ∨ k = 4 ∨ k = 5 ∨ k = 6 ∨ k = 9 then 2 else if k = 7 then 1 else if k = 8 then 3 else -1
def l6 (p : aE) (e : aC) (vars funcs : Int) : Prop :=
 if e.aP = 10 ∨ e.aP = 11 then
  0 ≤ e.bC ∧ e.bC ≤ funcs - 1 ∧ ∀ f, p.aI[e.bC.toNat]? = some f →
   0 ≤ e.cR ∧ e.cR ≤ (f.aQ.length : Int) - 1 ∧ (e.aN.length : Int) = f.aW ∧ (e.aP = 10 → e.cD = 0) ∧ (e.aP = 11 → 0 ≤ e.cD ∧ e.cD ≤ 8 ∧ (f.aQ.length : Int) = f.aW)
 else dR e.aP = e.aN.length ∧ e.cR = 0 ∧ e.cD = 0 ∧ (e.aP = 1 → jA e.bC) ∧ (e.aP = 2 → 0 ≤ e.bC ∧ e.bC ≤ vars - 1) ∧ (e.aP ≠ 1 → e.aP ≠ 2 → e.bC = 0)
noncomputable instance (p : aE) (e : aC) (vars funcs : Int) : Decidable (l6 p e vars funcs) := Classical.propDecidable _
def iX (kind : Int) (i : Nat) (vars : Int) : Int := if kind = 9 ∧ i = 1 then vars + 1 else vars
mutual
def aC.ok (p : aE) (funcs : Int) : aC → Int → Prop
 | .mk a b c d kids, vars => l6 p (.mk a b c d kids) vars funcs ∧ aC.okL p funcs a kids 0 vars
def aC.okL (p : aE) (funcs : Int) (kind : Int) : List aC → Nat → Int → Prop
 | [], _, _ => True
 |x :: l, i, vars => x.ok p funcs (iX kind i vars) ∧ aC.okL p funcs kind l (i + 1) vars
end
noncomputable instance (p : aE) (funcs : Int) (e : aC) (vars : Int) : Decidable (e.ok p funcs vars) := Classical.propDecidable _
theorem aC.aSS (p : aE) (funcs kind : Int) : ∀ (l : List aC) (i : Nat) (vars : Int), aC.okL p funcs kind l i vars ↔ ∀ (k : Nat) (h : k < l.length), l[k].ok p funcs (iX kind (i + k) vars)
 | [], i, vars => by simp [aC.okL]
 |x :: l, i, vars => by
  rw [aC.okL, aC.aSS p funcs kind l (i + 1) vars]
  constructor
  ·rintro ⟨h1, h2⟩ k hk
   cases k with
   |zero => exact h1
   |succ k => have := h2 k (by simpa using hk); rw [show i + 1 + k = i + (k + 1) by omega] at this; exact this
  ·intro h
   refine ⟨h 0 (by simp), fun k hk => ?_⟩
   have := h (k + 1) (by simpa using hk)
   rw [show i + 1 + k = i + (k + 1) by omega]; exact this
theorem aC.dB (p : aE) (funcs : Int) (x : aC) (vars : Int) : x.ok p funcs vars ↔ l6 p x vars funcs ∧ ∀ (k : Nat) (h : k < x.aN.length), x.aN[k].ok p funcs (iX x.aP k vars) := by
 cases x with
 |mk a b c d kids =>
  rw [aC.ok, aC.aSS]
  simp only [Nat.zero_add, aC.aN, aC.aP]
theorem aE.aEV (p : aE) : p.aI.length ≤ p.s := by rw [p.tI, kT]; omega
theorem aE.aHG {p : aE} {f : aT} (h : f ∈ p.aI) : f.s + p.aI.length ≤ p.s := by
 have := aKY aT.s h
 rw [p.tI, kT]; omega
theorem aT.aHH (f : aT) : f.aQ.length ≤ f.s := by rw [f.tI, kT]; omega
theorem aT.a6E {f : aT} {e : aC} (h : e ∈ f.aQ) : e.s < f.s := by
 have := aKY aC.s h
 have := List.length_pos_of_mem h
 rw [f.tI, kT]; omega
@[go_sem] def a8Z : List Nat := [0, 2, 3, 4, 7, 13, 15]
@[go_sem] def bNJ : List Nat := []
@[go_sem] def bNK : Marks := fun _ => ([], .nil, [])
theorem uA (k : Int) : fL Tryz.prog 82 [I k] (I (dR k)) := by
 refine fT 17 a8Z bNJ bNK mix Tryz.func82 rfl (by kernel_rfl) (by simp) fun h => ?_
 simp -dsimp -implicitDefEqProofs only [go_sem, ↓reduceIte, Tryz.f82]
 repeat' (with_reducible first | intro _ | refine And.intro ?_ ?_)
 all_goals try (first | (simp [dR, *]; done) | omega | (grind [dR]) | (simp [dR]; omega))
theorem rS {p : aE} {e : aC} {vars funcs : Int} (hk : e.aP = 10 ∨ e.aP = 11) {f : aT} (ef : p.aI[e.bC.toNat]? = some f) : l6 p e vars funcs ↔
  0 ≤ e.bC ∧ e.bC ≤ funcs - 1 ∧ 0 ≤ e.cR ∧ e.cR ≤ (f.aQ.length : Int) - 1 ∧ (e.aN.length : Int) = f.aW ∧ (e.aP = 10 → e.cD = 0) ∧ (e.aP = 11 → 0 ≤ e.cD ∧ e.cD ≤ 8 ∧ (f.aQ.length : Int) = f.aW) := by
 unfold l6
 rw [if_pos hk]
 simp [ef]
theorem aB8 {p : aE} {e : aC} {vars funcs : Int} (hk : e.aP = 10 ∨ e.aP = 11) (hr : ¬ (0 ≤ e.bC ∧ e.bC ≤ funcs - 1)) : ¬ l6 p e vars funcs := by
 unfold l6
 rw [if_pos hk]
 intro h
 exact hr ⟨h.1, h.2.1⟩
theorem dO {p : aE} {e : aC} {vars funcs : Int} (hk : ¬ (e.aP = 10 ∨ e.aP = 11)) : l6 p e vars funcs ↔
  dR e.aP = e.aN.length ∧ e.cR = 0 ∧ e.cD = 0 ∧ (e.aP = 1 → jA e.bC) ∧ (e.aP = 2 → 0 ≤ e.bC ∧ e.bC ≤ vars - 1) ∧ (e.aP ≠ 1 → e.aP ≠ 2 → e.bC = 0) := by
 unfold l6
 rw [if_neg hk]
@[go_sem] def aK5 : List Nat := [0, 1, 2, 3, 8, 9, 21, 29, 62, 67, 114, 118, 119, 126]
@[go_sem] def aXL : List Nat := []
@[go_sem] def aXM : Marks := fun id => match id with | 4 => ([], (.op 0 (.op 1 (.op 2 (.op 3 (.op 4 (.op 5 (.op 6 (.op 7 (.op 8 (.op 9 .nil)))))))))), []) | 5 => ([], (.op 0 (.op 1 (.op 2 (.op 3 (.op 4 (.op 5 (.op 6 (.op 7 (.op 8 (.op 9 (.op 10 (.op 11 (.op 12 (.op 13 (.op 14 (.op 15 (.op 16 (.op 17 (.op 18 (.op 19 (.op 20 (.op 21 (.op 22 (.op 23 .nil)))))))))))))))))))))))), []) | 9 => ([], (.op 0 (.op 1 (.op 2 (.op 3 (.op 4 (.op 5 (.op 6 (.op 7 (.op 8 (.op 9 (.op 10 (.op 11 (.op 12 (.op 13 (.op 14 (.op 15 (.op 16 (.op 17 .nil)))))))))))))))))), []) | 10 => ([], (.op 0 (.op 1 (.op 2 (.op 3 (.op 4 (.op 5 (.op 6 (.op 7 (.op 8 (.op 9 (.op 10 (.op 11 (.op 12 (.op 13 (.op 14 (.op 15 (.op 16 (.op 17 (.op 18 (.op 19 (.op 20 (.op 21 (.op 22 (.op 23 (.op 24 .nil))))))))))))))))))))))))), []) | _ => ([], .nil, [])
theorem aST (p : aE) (e : aC) (vars funcs : Int) (hv : 0 ≤ vars) (hv2 : vars ≤ 4294967296) (fN : 0 ≤ funcs) (hf : funcs ≤ p.aI.length) (hps : p.s ≤ 4294967296) : fL Tryz.prog 157 [.ip 1 [p.c] 0 0, .ip 5 [e.c] 0 0, I vars, I funcs] (.bool (decide (l6 p e vars funcs))) := by
 have hl := p.aEV
 have e1 : IntKind.i64.wrap (funcs - 1) = funcs - 1 := IntWalk.i64_in _ (by omega)
 have e2 : IntKind.i64.wrap (vars - 1) = vars - 1 := IntWalk.i64_in _ (by omega)
 rw [aC.aU]
 simp only [aE.aU]
 by_cases hk : e.aP = 10 ∨ e.aP = 11
 ·by_cases hr : 0 ≤ e.bC ∧ e.bC ≤ funcs - 1
  ·obtain ⟨f, ef⟩ : ∃ f, p.aI[e.bC.toNat]? = some f := ⟨_, List.getElem?_eq_getElem (by omega)⟩
   have hn := rS (vars := vars) (funcs := funcs) hk ef
   have hfs := aE.aHG (List.mem_of_getElem? ef)
   have hos := f.aHH
   refine fT 140 aK5 aXL aXM mix Tryz.func157 rfl (by kernel_rfl) (by simp) fun h => ?_
   simp -dsimp -implicitDefEqProofs only [go_sem, ↓reduceIte, Tryz.f157, e1, e2]
   repeat' (with_reducible first | intro _ | refine And.intro ?_ ?_)
   all_goals try omega
   all_goals (first | refine aH.mk (eJ e.bC 0 (funcs - 1)) ?_ | refine aF.mk (eJ e.bC 0 (funcs - 1)) ?_)
   all_goals simp -dsimp -implicitDefEqProofs only [go_sem, ↓reduceIte, Tryz.f157, ef, aT.aU]
   all_goals repeat' (with_reducible first | intro _ | refine And.intro ?_ ?_)
   all_goals try omega
   all_goals try simp (disch := omega) only [IntWalk.i64_in]
   all_goals (first | refine aH.mk (eJ e.cR 0 (f.aQ.length - 1)) ?_ | refine aF.mk (eJ e.cR 0 (f.aQ.length - 1)) ?_)
   all_goals simp -dsimp -implicitDefEqProofs only [go_sem, ↓reduceIte, Tryz.f157, ef, aT.aU]
   all_goals repeat' (with_reducible first | intro _ | refine And.intro ?_ ?_)
   all_goals try omega
   all_goals try (first | (simp [*]; done) | omega | grind)
   first | refine aH.mk (eJ e.cD 0 8) ?_ | refine aF.mk (eJ e.cD 0 8) ?_ | refine aH.bS (eJ e.cD 0 8) ?_ | refine aF.mk (bM.eQ (eJ e.cD 0 8)) ?_
   simp -dsimp -implicitDefEqProofs only [go_sem, ↓reduceIte, Tryz.f157, ef, aT.aU]
   repeat' (with_reducible first | intro _ | refine And.intro ?_ ?_)
   all_goals try (first | (simp [*]; done) | omega | grind)
  ·have hn := aB8 (p := p) (vars := vars) hk hr
   refine fT 140 aK5 aXL aXM mix Tryz.func157 rfl (by kernel_rfl) (by simp) fun h => ?_
   simp -dsimp -implicitDefEqProofs only [go_sem, ↓reduceIte, Tryz.f157, e1, e2]
   repeat' (with_reducible first | intro _ | refine And.intro ?_ ?_)
   all_goals try omega
   all_goals (first | refine aH.mk (eJ e.bC 0 (funcs - 1)) ?_ | refine aF.mk (eJ e.bC 0 (funcs - 1)) ?_)
   all_goals simp -dsimp -implicitDefEqProofs only [go_sem, ↓reduceIte, Tryz.f157]
   all_goals repeat' (with_reducible first | intro _ | refine And.intro ?_ ?_)
   all_goals try (first | (simp [*]; done) | omega | grind)
 ·have hn := dO (p := p) (vars := vars) (funcs := funcs) hk
  refine fT 140 aK5 aXL aXM mix Tryz.func157 rfl (by kernel_rfl) (by simp) fun h => ?_
  simp -dsimp -implicitDefEqProofs only [go_sem, ↓reduceIte, Tryz.f157, e1, e2]
  repeat' (with_reducible first | intro _ | refine And.intro ?_ ?_)
  all_goals try omega
  first | refine aH.mk (uA e.aP) ?_ | refine aF.mk (uA e.aP) ?_ | refine aH.bS (uA e.aP) ?_ | refine aF.mk (bM.eQ (uA e.aP)) ?_
  simp -dsimp -implicitDefEqProofs only [go_sem, ↓reduceIte, Tryz.f157]
  repeat' (with_reducible first | intro _ | refine And.intro ?_ ?_)
  all_goals try (first | (simp [*]; done) | omega | grind)
  ·first | refine aH.mk (pP e.bC) ?_ | refine aF.mk (pP e.bC) ?_ | refine aH.bS (pP e.bC) ?_ | refine aF.mk (bM.eQ (pP e.bC)) ?_
   simp -dsimp -implicitDefEqProofs only [go_sem, ↓reduceIte, Tryz.f157]
   all_goals try (first | (simp [*]; done) | omega | grind)
  ·all_goals try simp (disch := omega) only [IntWalk.i64_in]
   first | refine aH.mk (eJ e.bC 0 (vars - 1)) ?_ | refine aF.mk (eJ e.bC 0 (vars - 1)) ?_ | refine aH.bS (eJ e.bC 0 (vars - 1)) ?_ | refine aF.mk (bM.eQ (eJ e.bC 0 (vars - 1))) ?_
   simp -dsimp -implicitDefEqProofs only [go_sem, ↓reduceIte, Tryz.f157]
   all_goals try (first | (simp [*]; done) | omega | grind)
@[go_sem] def uB : List Nat := [0, 1, 2, 3, 4, 6, 7, 8, 9, 10, 11, 12, 25, 26, 38, 52, 68, 69, 81, 82, 94, 95, 104, 125, 152, 154, 155, 156, 157, 168, 175]
@[go_sem] def aEW : List Nat := [3, 4]
@[go_sem] def aEX : Marks := fun _ => ([], .nil, [])
set_option maxRecDepth 100000
open Go.Proofs
set_option linter.unusedVariables false
set_option linter.unusedSimpArgs false
@[go_sem] def aSU : List Nat := [0, 1, 2, 3, 8, 9, 10, 16, 23, 35, 48]
@[go_sem] def a6F : List Nat := []
@[go_sem] def a6G : Marks := fun _ => ([], .nil, [])
theorem aK6 (p : aE) (e : aC) (vars funcs : Int) (hv : 0 ≤ vars) (hv2 : vars + e.s ≤ 4294967296) (fN : 0 ≤ funcs) (hf : funcs ≤ p.aI.length) (hps : p.s ≤ 4294967296)
  (hc : ∀ y ∈ e.aN, ∀ vars : Int, 0 ≤ vars → vars + y.s ≤ 4294967296 → fL Tryz.prog 133 [.ip 1 [p.c] 0 0, .ip 5 [y.c] 0 0, I vars, I funcs] (.bool (decide (y.ok p funcs vars)))) :
  fL Tryz.prog 133 [.ip 1 [p.c] 0 0, .ip 5 [e.c] 0 0, I vars, I funcs] (.bool (decide (e.ok p funcs vars))) := by
 have hok := aC.dB p funcs e vars
 simp only [aC.aU, aE.aU]
 refine fT 49 aSU a6F a6G mix Tryz.func133 rfl (by kernel_rfl) (by simp) fun h => ?_
 simp -dsimp -implicitDefEqProofs only [go_sem, ↓reduceIte, Tryz.f133]
 first | refine aF.mk ((aST p e vars funcs hv (by omega) fN hf hps).sub (by repeat' (first | exact gE.nil | refine gE.cons ?_ ?_ | exact Sub.refl _ | (rw [aC.aU]; exact Sub.refl _) | exact Sub.fO rfl rfl rfl | exact Sub.ip (cZ (by omega)) (by simp) | exact Sub.fO (cZ (by omega)) rfl rfl | exact Sub.ip (by simp [*]) (by simp) | exact Sub.fO (by simp [*]) (by rfl) (by rfl)))) ?_ | refine aH.mk ((aST p e vars funcs hv (by omega) fN hf hps).sub (by repeat' (first | exact gE.nil | refine gE.cons ?_ ?_ | exact Sub.refl _ | (rw [aC.aU]; exact Sub.refl _) | exact Sub.fO rfl rfl rfl | exact Sub.ip (cZ (by omega)) (by simp) | exact Sub.fO (cZ (by omega)) rfl rfl | exact Sub.ip (by simp [*]) (by simp) | exact Sub.fO (by simp [*]) (by rfl) (by rfl)))) ?_
 simp -dsimp -implicitDefEqProofs only [go_sem, ↓reduceIte, Tryz.f133]
 repeat' (with_reducible first | intro _ | refine And.intro ?_ ?_)
 ·rename_i hn
  exact (decide_eq_false fun q => hn (hok.1 q).1).symm
 ·rename_i hn
  refine cS (keep := aSU) (ib := a6F) (mk := a6G) mix (by kernel_rfl) (fun k : Nat => [(0, .ip 1 [p.c] 0 0), (1, .ip 5 [e.c] 0 0), (2, I vars), (3, I funcs), (9, I k)]) (fun _ => h) (fun k => k ≤ e.aN.length ∧ ∀ (j : Nat) (hj : j < e.aN.length), j < k → e.aN[j].ok p funcs (iX e.aP j vars)) (fun k => e.aN.length - k) 0 (by simp [cV, bZ, aB.le_refl, aC.aU, aE.aU]) ?_
  intro k ⟨hk, hp⟩
  simp only [aC.aU, aE.aU]
  rcases Nat.lt_or_ge k e.aN.length with hlt | hge
  ·have mY := aC.aB6 (List.getElem_mem hlt)
   have nx (q : e.aN[k].ok p funcs (iX e.aP k vars)) : ∀ (j : Nat) (hj : j < e.aN.length), j < k + 1 → e.aN[j].ok p funcs (iX e.aP j vars) := by
    intro j hj hjk
    rcases Nat.lt_succ_iff_lt_or_eq.1 hjk with h1 | rfl
    ·exact hp j hj h1
    ·exact q
   have no (q : ¬ e.aN[k].ok p funcs (iX e.aP k vars)) : false = decide (e.ok p funcs vars) := (decide_eq_false fun z => q ((hok.1 z).2 k hlt)).symm
   simp -dsimp -implicitDefEqProofs only [go_sem, ↓reduceIte, Tryz.f133]
   repeat' (with_reducible first | intro _ | refine And.intro ?_ ?_)
   all_goals try omega
   ·have em : iX e.aP k vars = vars + 1 := if_pos ⟨by assumption, by omega⟩
    rw [em] at nx no
    all_goals try simp (disch := omega) only [IntWalk.i64_in]
    first | refine aF.mk ((hc e.aN[k] (List.getElem_mem hlt) (vars + 1) (by omega) (by omega)).sub (by repeat' (first | exact gE.nil | refine gE.cons ?_ ?_ | exact Sub.refl _ | (rw [aC.aU]; exact Sub.refl _) | exact Sub.fO rfl rfl rfl | exact Sub.ip (cZ (by omega)) (by simp) | exact Sub.fO (cZ (by omega)) rfl rfl | exact Sub.ip (by simp [*]) (by simp) | exact Sub.fO (by simp [*]) (by rfl) (by rfl)))) ?_ | refine aH.mk ((hc e.aN[k] (List.getElem_mem hlt) (vars + 1) (by omega) (by omega)).sub (by repeat' (first | exact gE.nil | refine gE.cons ?_ ?_ | exact Sub.refl _ | (rw [aC.aU]; exact Sub.refl _) | exact Sub.fO rfl rfl rfl | exact Sub.ip (cZ (by omega)) (by simp) | exact Sub.fO (cZ (by omega)) rfl rfl | exact Sub.ip (by simp [*]) (by simp) | exact Sub.fO (by simp [*]) (by rfl) (by rfl)))) ?_
    simp -dsimp -implicitDefEqProofs only [go_sem, ↓reduceIte, Tryz.f133]
    repeat' (with_reducible first | intro _ | refine And.intro ?_ ?_)
    ·exact no (by assumption)
    ·refine ⟨k + 1, ?_⟩
     repeat' (with_reducible refine And.intro ?_ ?_)
     all_goals try (rw [IntWalk.i64_in _ (by omega)]; first | rfl | omega)
     all_goals try omega
     all_goals try (repeat' (with_reducible first | exact aB.le_refl _ | refine (aY (by first | assumption | exact And.right (by assumption) | exact cP.2 (by assumption))).2 ?_))
     all_goals try (simp only [aC.aU, aE.aU]; done)
     exact nx (by assumption)
   all_goals
    have em : iX e.aP k vars = vars := if_neg (by omega)
    rw [em] at nx no
    first | refine aF.mk ((hc e.aN[k] (List.getElem_mem hlt) vars (by omega) (by omega)).sub (by repeat' (first | exact gE.nil | refine gE.cons ?_ ?_ | exact Sub.refl _ | (rw [aC.aU]; exact Sub.refl _) | exact Sub.fO rfl rfl rfl | exact Sub.ip (cZ (by omega)) (by simp) | exact Sub.fO (cZ (by omega)) rfl rfl | exact Sub.ip (by simp [*]) (by simp) | exact Sub.fO (by simp [*]) (by rfl) (by rfl)))) ?_ | refine aH.mk ((hc e.aN[k] (List.getElem_mem hlt) vars (by omega) (by omega)).sub (by repeat' (first | exact gE.nil | refine gE.cons ?_ ?_ | exact Sub.refl _ | (rw [aC.aU]; exact Sub.refl _) | exact Sub.fO rfl rfl rfl | exact Sub.ip (cZ (by omega)) (by simp) | exact Sub.fO (cZ (by omega)) rfl rfl | exact Sub.ip (by simp [*]) (by simp) | exact Sub.fO (by simp [*]) (by rfl) (by rfl)))) ?_
    simp -dsimp -implicitDefEqProofs only [go_sem, ↓reduceIte, Tryz.f133]
    repeat' (with_reducible first | intro _ | refine And.intro ?_ ?_)
    ·exact no (by assumption)
    ·refine ⟨k + 1, ?_⟩
     repeat' (with_reducible refine And.intro ?_ ?_)
     all_goals try (rw [IntWalk.i64_in _ (by omega)]; first | rfl | omega)
     all_goals try omega
     all_goals try (repeat' (with_reducible first | exact aB.le_refl _ | refine (aY (by first | assumption | exact And.right (by assumption) | exact cP.2 (by assumption))).2 ?_))
     all_goals try (simp only [aC.aU, aE.aU]; done)
     exact nx (by assumption)
  ·have hk' : k = e.aN.length := by omega
   subst hk'
   simp -dsimp -implicitDefEqProofs only [go_sem, ↓reduceIte, Tryz.f133, Nat.lt_irrefl]
   exact fun _ => (decide_eq_true (hok.2 ⟨hn, fun j hj => hp j hj hj⟩)).symm
theorem aK7 (p : aE) (e : aC) (vars funcs : Int) (hv : 0 ≤ vars) (hv2 : vars + e.s ≤ 4294967296) (fN : 0 ≤ funcs) (hf : funcs ≤ p.aI.length) (hps : p.s ≤ 4294967296) :
  fL Tryz.prog 133 [.ip 1 [p.c] 0 0, .ip 5 [e.c] 0 0, I vars, I funcs] (.bool (decide (e.ok p funcs vars))) :=
 aK6 p e vars funcs hv hv2 fN hf hps fun y hy vars hv hv2 => aK7 p y vars funcs hv hv2 fN hf hps
termination_by SizeOf.sizeOf e
decreasing_by exact aC.aDX hy
set_option maxRecDepth 100000
open Go.Proofs
set_option linter.unusedVariables false
set_option linter.unusedSimpArgs false
set_option maxHeartbeats 8000000 in
theorem aHI (p : aE) (e : aC) (vars funcs : Int) (hv : 0 ≤ vars) (hv2 : vars + e.s ≤ 4294967296) (fN : 0 ≤ funcs) (hf : funcs ≤ p.aI.length) (hps : p.s ≤ 4294967296)
  (hc : ∀ y ∈ e.aN, ∀ vars : Int, 0 ≤ vars → vars + y.s ≤ 4294967296 → fL Tryz.prog 126 [.agg [eZ 3 aT.c p.aI, I funcs], .agg y.c, I vars] (.bool (decide (y.ok p funcs vars)))) (hk : ¬ (e.aP = 10 ∨ e.aP = 11)) :
  fL Tryz.prog 126 [.agg [eZ 3 aT.c p.aI, I funcs], .agg e.c, I vars] (.bool (decide (e.ok p funcs vars))) := by
 have hok := aC.dB p funcs e vars
 have hl := p.aEV
 have e1 : IntKind.i64.wrap (funcs - 1) = funcs - 1 := IntWalk.i64_in _ (by omega)
 have e2 : IntKind.i64.wrap (vars - 1) = vars - 1 := IntWalk.i64_in _ (by omega)
 simp only [aC.aU]
 have no1 (hk : ¬ (e.aP = 10 ∨ e.aP = 11)) (q : ¬ (dR e.aP = e.aN.length ∧ e.cR = 0 ∧ e.cD = 0 ∧ (e.aP = 1 → jA e.bC) ∧ (e.aP = 2 → 0 ≤ e.bC ∧ e.bC ≤ vars - 1) ∧ (e.aP ≠ 1 → e.aP ≠ 2 → e.bC = 0))) : false = decide (e.ok p funcs vars) :=
  (decide_eq_false fun z => q ((dO hk).1 (hok.1 z).1)).symm
 have bFY (hk : ¬ (e.aP = 10 ∨ e.aP = 11)) (q : dR e.aP = e.aN.length ∧ e.cR = 0 ∧ e.cD = 0 ∧ (e.aP = 1 → jA e.bC) ∧ (e.aP = 2 → 0 ≤ e.bC ∧ e.bC ≤ vars - 1) ∧ (e.aP ≠ 1 → e.aP ≠ 2 → e.bC = 0)) : l6 p e vars funcs := (dO hk).2 q
 refine fT 177 uB aEW aEX mix Tryz.func126 rfl (by kernel_rfl) (by simp) fun h => ?_
 simp (maxSteps := 1000000) -dsimp -implicitDefEqProofs only [go_sem, ↓reduceIte, Tryz.f126, e1, e2]
 repeat' (with_reducible first | intro _ | refine And.intro ?_ ?_)
 all_goals try omega
 all_goals try (refine no1 (by omega) ?_; simp only [dR]; grind)
 ·first | refine aH.mk (mK e.bC) ?_ | refine aF.mk (mK e.bC) ?_ | refine aH.bS (mK e.bC) ?_ | refine aF.mk (bM.eQ (mK e.bC)) ?_
  simp (maxSteps := 1000000) -dsimp -implicitDefEqProofs only [go_sem, ↓reduceIte, Tryz.f126]
  rw [decide_eq_decide, hok, dO hk]
  have : e.aN.length = 0 := by omega
  constructor
  ·intro q
   exact ⟨by simp only [dR]; grind, fun k hk => by omega⟩
  ·intro q
   grind
 ·first | refine aH.mk (within e.bC 0 (vars - 1)) ?_ | refine aF.mk (within e.bC 0 (vars - 1)) ?_ | refine aH.bS (within e.bC 0 (vars - 1)) ?_ | refine aF.mk (bM.eQ (within e.bC 0 (vars - 1))) ?_
  simp (maxSteps := 1000000) -dsimp -implicitDefEqProofs only [go_sem, ↓reduceIte, Tryz.f126]
  rw [decide_eq_decide, hok, dO hk]
  have : e.aN.length = 0 := by omega
  constructor
  ·intro q
   exact ⟨by simp only [dR]; grind, fun k hk => by omega⟩
  ·intro q
   grind
 all_goals
  have hn := bFY hk (by simp only [dR]; grind)
  clear no1 bFY
  refine cS (keep := uB) (ib := aEW) (mk := aEX) mix (by kernel_rfl) (fun k : Nat => [(2, I vars), (3, .ip 2 [[eZ 3 aT.c p.aI, I funcs]] 0 0), (4, .ip 5 [e.c] 0 0), (154, eZ 5 aC.c e.aN), (155, I e.aN.length), (156, I k)]) (fun _ => h) (fun k => k ≤ e.aN.length ∧ ∀ (j : Nat) (hj : j < e.aN.length), j < k → e.aN[j].ok p funcs (iX e.aP j vars)) (fun k => e.aN.length - k) 0 (by refine ⟨by simp [cV, bZ, aC.aU], by repeat' (with_reducible first | exact aB.le_refl _ | refine (aY (by first | assumption | exact And.right (by assumption) | exact cP.2 (by assumption))).2 ?_), by simp⟩) ?_
  intro k ⟨hk, hp⟩
  simp only [aC.aU]
  rcases Nat.lt_or_ge k e.aN.length with hlt | hge
  ·have mY := aC.aB6 (List.getElem_mem hlt)
   have nx (q : e.aN[k].ok p funcs (iX e.aP k vars)) : ∀ (j : Nat) (hj : j < e.aN.length), j < k + 1 → e.aN[j].ok p funcs (iX e.aP j vars) := by
    intro j hj hjk
    rcases Nat.lt_succ_iff_lt_or_eq.1 hjk with h1 | rfl
    ·exact hp j hj h1
    ·exact q
   have no (q : ¬ e.aN[k].ok p funcs (iX e.aP k vars)) : false = decide (e.ok p funcs vars) := (decide_eq_false fun z => q ((hok.1 z).2 k hlt)).symm
   have ea : e.aN[k]? = some e.aN[k] := List.getElem?_eq_getElem hlt
   rcases Decidable.em (e.aP = 9 ∧ k = 1) with e9 | e9
   ·have em : iX e.aP k vars = vars + 1 := if_pos e9
    rw [em] at nx no
    have hcy := hc e.aN[k] (List.getElem_mem hlt) (vars + 1) (by omega) (by omega)
    simp only [aC.aU] at hcy
    simp (maxSteps := 1000000) -dsimp -implicitDefEqProofs only [go_sem, ↓reduceIte, Tryz.f126, ea, aC.aU, aK]
    repeat' (with_reducible first | intro _ | refine And.intro ?_ ?_)
    all_goals try omega
    all_goals try simp (disch := omega) only [IntWalk.i64_in]
    all_goals (first | refine aH.mk (hcy) ?_ | refine aF.mk (hcy) ?_)
    all_goals simp (maxSteps := 1000000) -dsimp -implicitDefEqProofs only [go_sem, ↓reduceIte, Tryz.f126]
    all_goals repeat' (with_reducible first | intro _ | refine And.intro ?_ ?_)
    all_goals first | exact no (by assumption) | exact aB.le_refl _ | skip
    all_goals try (exact (aY (by assumption)).2 (aB.le_refl _))
    all_goals
     refine ⟨k + 1, ?_⟩
     repeat' (with_reducible refine And.intro ?_ ?_)
     all_goals try (rw [IntWalk.i64_in _ (by omega)]; first | rfl | omega)
     all_goals try omega
     all_goals try (repeat' (with_reducible first | exact aB.le_refl _ | refine (aY (by first | assumption | exact And.right (by assumption) | exact cP.2 (by assumption))).2 ?_))
     all_goals try (simp only [aC.aU]; done)
     exact nx (by assumption)
   ·have em : iX e.aP k vars = vars := if_neg e9
    rw [em] at nx no
    have hcy := hc e.aN[k] (List.getElem_mem hlt) vars (by omega) (by omega)
    simp only [aC.aU] at hcy
    simp (maxSteps := 1000000) -dsimp -implicitDefEqProofs only [go_sem, ↓reduceIte, Tryz.f126, ea, aC.aU, aK]
    repeat' (with_reducible first | intro _ | refine And.intro ?_ ?_)
    all_goals try omega
    all_goals (first | refine aH.mk (hcy) ?_ | refine aF.mk (hcy) ?_)
    all_goals simp (maxSteps := 1000000) -dsimp -implicitDefEqProofs only [go_sem, ↓reduceIte, Tryz.f126]
    all_goals repeat' (with_reducible first | intro _ | refine And.intro ?_ ?_)
    all_goals first | exact no (by assumption) | exact aB.le_refl _ | skip
    all_goals try (exact (aY (by assumption)).2 (aB.le_refl _))
    all_goals
     refine ⟨k + 1, ?_⟩
     repeat' (with_reducible refine And.intro ?_ ?_)
     all_goals try (rw [IntWalk.i64_in _ (by omega)]; first | rfl | omega)
     all_goals try omega
     all_goals try (repeat' (with_reducible first | exact aB.le_refl _ | refine (aY (by first | assumption | exact And.right (by assumption) | exact cP.2 (by assumption))).2 ?_))
     all_goals try (simp only [aC.aU]; done)
     exact nx (by assumption)
  ·have hk' : k = e.aN.length := by omega
   subst hk'
   simp (maxSteps := 1000000) -dsimp -implicitDefEqProofs only [go_sem, ↓reduceIte, Tryz.f126, Nat.lt_irrefl]
   exact (decide_eq_true (hok.2 ⟨hn, fun j hj => hp j hj hj⟩)).symm
set_option maxRecDepth 100000
open Go.Proofs
set_option linter.unusedVariables false
set_option linter.unusedSimpArgs false
theorem aB9 {p : aE} {e : aC} {vars funcs : Int} {f : aT} (hk : e.aP = 10 ∨ e.aP = 11) (ef : p.aI[e.bC.toNat]? = some f)
  (q : ¬ (0 ≤ e.cR ∧ e.cR ≤ (f.aQ.length : Int) - 1 ∧ (e.aN.length : Int) = f.aW ∧ (e.aP = 10 → e.cD = 0) ∧ (e.aP = 11 → 0 ≤ e.cD ∧ e.cD ≤ 8 ∧ (f.aQ.length : Int) = f.aW))) : false = decide (e.ok p funcs vars) :=
 (decide_eq_false fun z => q ((rS hk ef).1 ((aC.dB _ _ _ _).1 z).1).2.2).symm
theorem aOO {p : aE} {e : aC} {vars funcs : Int} (hk : e.aP = 10 ∨ e.aP = 11) (q : ¬ (0 ≤ e.bC ∧ e.bC ≤ funcs - 1)) : false = decide (e.ok p funcs vars) :=
 (decide_eq_false fun z => aB8 hk q ((aC.dB _ _ _ _).1 z).1).symm
set_option maxHeartbeats 8000000 in
theorem aOP (p : aE) (e : aC) (vars funcs : Int) (hv : 0 ≤ vars) (hv2 : vars + e.s ≤ 4294967296) (fN : 0 ≤ funcs) (hf : funcs ≤ p.aI.length) (hps : p.s ≤ 4294967296)
  (hc : ∀ y ∈ e.aN, ∀ vars : Int, 0 ≤ vars → vars + y.s ≤ 4294967296 → fL Tryz.prog 126 [.agg [eZ 3 aT.c p.aI, I funcs], .agg y.c, I vars] (.bool (decide (y.ok p funcs vars)))) (hk : e.aP = 10) :
  fL Tryz.prog 126 [.agg [eZ 3 aT.c p.aI, I funcs], .agg e.c, I vars] (.bool (decide (e.ok p funcs vars))) := by
 have hl := p.aEV
 have e1 : IntKind.i64.wrap (funcs - 1) = funcs - 1 := IntWalk.i64_in _ (by omega)
 simp only [aC.aU]
 by_cases hr : 0 ≤ e.bC ∧ e.bC ≤ funcs - 1
 ·obtain ⟨f, ef⟩ : ∃ f, p.aI[e.bC.toNat]? = some f := ⟨_, List.getElem?_eq_getElem (by omega)⟩
  have hfs := aE.aHG (List.mem_of_getElem? ef)
  have hos := f.aHH
  have e3 : IntKind.i64.wrap ((f.aQ.length : Int) - 1) = f.aQ.length - 1 := IntWalk.i64_in _ (by omega)
  refine fT 177 uB aEW aEX mix Tryz.func126 rfl (by kernel_rfl) (by simp) fun h => ?_
  simp -dsimp -implicitDefEqProofs only [go_sem, ↓reduceIte, Tryz.f126, e1, e3, hk]
  repeat' (with_reducible first | intro _ | refine And.intro ?_ ?_)
  all_goals try omega
  all_goals (first | refine aH.mk (within e.bC 0 (funcs - 1)) ?_ | refine aF.mk (within e.bC 0 (funcs - 1)) ?_)
  all_goals simp -dsimp -implicitDefEqProofs only [go_sem, ↓reduceIte, Tryz.f126, ef, aT.aU, aK, hk, e3]
  all_goals repeat' (with_reducible first | intro _ | refine And.intro ?_ ?_)
  all_goals try omega
  all_goals try (refine aB9 (by omega) ef ?_; omega)
  all_goals try (repeat' (with_reducible first | exact aB.le_refl _ | refine (aY (by first | assumption | exact And.right (by assumption) | exact cP.2 (by assumption))).2 ?_))
  all_goals (first | refine aH.mk (within e.cR 0 (f.aQ.length - 1)) ?_ | refine aF.mk (within e.cR 0 (f.aQ.length - 1)) ?_)
  all_goals simp -dsimp -implicitDefEqProofs only [go_sem, ↓reduceIte, Tryz.f126, ef, aT.aU, aK, hk]
  all_goals repeat' (with_reducible first | intro _ | refine And.intro ?_ ?_)
  all_goals try omega
  all_goals try (refine aB9 (by omega) ef ?_; omega)
  all_goals try (repeat' (with_reducible first | exact aB.le_refl _ | refine (aY (by first | assumption | exact And.right (by assumption) | exact cP.2 (by assumption))).2 ?_))
  all_goals
   have hn : l6 p e vars funcs := (rS (by omega) ef).2 (by omega)
   have hok := aC.dB p funcs e vars
   clear hr hfs hos ef
   refine cS (keep := uB) (ib := aEW) (mk := aEX) mix (by kernel_rfl) (fun k : Nat => [(2, I vars), (3, .ip 2 [[eZ 3 aT.c p.aI, I funcs]] 0 0), (4, .ip 5 [e.c] 0 0), (154, eZ 5 aC.c e.aN), (155, I e.aN.length), (156, I k)]) (fun _ => h) (fun k => k ≤ e.aN.length ∧ ∀ (j : Nat) (hj : j < e.aN.length), j < k → e.aN[j].ok p funcs vars) (fun k => e.aN.length - k) 0 (by refine ⟨by simp [cV, bZ, aC.aU, hk], by repeat' (with_reducible first | exact aB.le_refl _ | refine (aY (by first | assumption | exact And.right (by assumption) | exact cP.2 (by assumption))).2 ?_), by simp⟩) ?_
   intro k ⟨hk', hp⟩
   simp only [aC.aU]
   rcases Nat.lt_or_ge k e.aN.length with hlt | hge
   ·have mY := aC.aB6 (List.getElem_mem hlt)
    have nx (q : e.aN[k].ok p funcs vars) : ∀ (j : Nat) (hj : j < e.aN.length), j < k + 1 → e.aN[j].ok p funcs vars := by
     intro j hj hjk
     rcases Nat.lt_succ_iff_lt_or_eq.1 hjk with h1 | rfl
     ·exact hp j hj h1
     ·exact q
    have no (q : ¬ e.aN[k].ok p funcs vars) : false = decide (e.ok p funcs vars) := (decide_eq_false fun z => q (by have := (hok.1 z).2 k hlt; rwa [show iX e.aP k vars = vars from if_neg (by omega)] at this)).symm
    have ea : e.aN[k]? = some e.aN[k] := List.getElem?_eq_getElem hlt
    have hcy := hc e.aN[k] (List.getElem_mem hlt) vars (by omega) (by omega)
    simp only [aC.aU] at hcy
    simp -dsimp -implicitDefEqProofs only [go_sem, ↓reduceIte, Tryz.f126, ea, aC.aU, aK, hk]
    repeat' (with_reducible first | intro _ | refine And.intro ?_ ?_)
    all_goals try omega
    first | refine aH.mk (hcy) ?_ | refine aF.mk (hcy) ?_ | refine aH.bS (hcy) ?_ | refine aF.mk (bM.eQ (hcy)) ?_
    simp -dsimp -implicitDefEqProofs only [go_sem, ↓reduceIte, Tryz.f126]
    repeat' (with_reducible first | intro _ | refine And.intro ?_ ?_)
    all_goals first | exact no (by assumption) | skip
    all_goals try (repeat' (with_reducible first | exact aB.le_refl _ | refine (aY (by first | assumption | exact And.right (by assumption) | exact cP.2 (by assumption))).2 ?_))
    refine ⟨k + 1, ?_⟩
    repeat' (with_reducible refine And.intro ?_ ?_)
    all_goals try (rw [IntWalk.i64_in _ (by omega)]; first | rfl | omega)
    all_goals try omega
    all_goals try (repeat' (with_reducible first | exact aB.le_refl _ | refine (aY (by first | assumption | exact And.right (by assumption) | exact cP.2 (by assumption))).2 ?_))
    all_goals try (simp only [aC.aU, hk]; done)
    exact nx (by assumption)
   ·have hk'' : k = e.aN.length := by omega
    subst hk''
    simp -dsimp -implicitDefEqProofs only [go_sem, ↓reduceIte, Tryz.f126, Nat.lt_irrefl]
    exact (decide_eq_true (hok.2 ⟨hn, fun j hj => by rw [show iX e.aP j vars = vars from if_neg (by omega)]; exact hp j hj hj⟩)).symm
 ·refine fT 177 uB aEW aEX mix Tryz.func126 rfl (by kernel_rfl) (by simp) fun h => ?_
  simp -dsimp -implicitDefEqProofs only [go_sem, ↓reduceIte, Tryz.f126, e1, hk]
  repeat' (with_reducible first | intro _ | refine And.intro ?_ ?_)
  all_goals try omega
  all_goals (first | refine aH.mk (within e.bC 0 (funcs - 1)) ?_ | refine aF.mk (within e.bC 0 (funcs - 1)) ?_)
  all_goals simp -dsimp -implicitDefEqProofs only [go_sem, ↓reduceIte, Tryz.f126]
  all_goals repeat' (with_reducible first | intro _ | refine And.intro ?_ ?_)
  all_goals try omega
  all_goals exact aOO (by omega) hr
set_option maxHeartbeats 8000000 in
theorem aOQ (p : aE) (e : aC) (vars funcs : Int) (hv : 0 ≤ vars) (hv2 : vars + e.s ≤ 4294967296) (fN : 0 ≤ funcs) (hf : funcs ≤ p.aI.length) (hps : p.s ≤ 4294967296)
  (hc : ∀ y ∈ e.aN, ∀ vars : Int, 0 ≤ vars → vars + y.s ≤ 4294967296 → fL Tryz.prog 126 [.agg [eZ 3 aT.c p.aI, I funcs], .agg y.c, I vars] (.bool (decide (y.ok p funcs vars)))) (hk : e.aP = 11) :
  fL Tryz.prog 126 [.agg [eZ 3 aT.c p.aI, I funcs], .agg e.c, I vars] (.bool (decide (e.ok p funcs vars))) := by
 have hl := p.aEV
 have e1 : IntKind.i64.wrap (funcs - 1) = funcs - 1 := IntWalk.i64_in _ (by omega)
 simp only [aC.aU]
 by_cases hr : 0 ≤ e.bC ∧ e.bC ≤ funcs - 1
 ·obtain ⟨f, ef⟩ : ∃ f, p.aI[e.bC.toNat]? = some f := ⟨_, List.getElem?_eq_getElem (by omega)⟩
  have hfs := aE.aHG (List.mem_of_getElem? ef)
  have hos := f.aHH
  have e3 : IntKind.i64.wrap ((f.aQ.length : Int) - 1) = f.aQ.length - 1 := IntWalk.i64_in _ (by omega)
  refine fT 177 uB aEW aEX mix Tryz.func126 rfl (by kernel_rfl) (by simp) fun h => ?_
  simp -dsimp -implicitDefEqProofs only [go_sem, ↓reduceIte, Tryz.f126, e1, e3, hk]
  repeat' (with_reducible first | intro _ | refine And.intro ?_ ?_)
  all_goals try omega
  all_goals (first | refine aH.mk (within e.bC 0 (funcs - 1)) ?_ | refine aF.mk (within e.bC 0 (funcs - 1)) ?_)
  all_goals simp -dsimp -implicitDefEqProofs only [go_sem, ↓reduceIte, Tryz.f126, ef, aT.aU, aK, hk, e3]
  all_goals repeat' (with_reducible first | intro _ | refine And.intro ?_ ?_)
  all_goals try omega
  all_goals try (refine aB9 (by omega) ef ?_; omega)
  all_goals try (repeat' (with_reducible first | exact aB.le_refl _ | refine (aY (by first | assumption | exact And.right (by assumption) | exact cP.2 (by assumption))).2 ?_))
  all_goals (first | refine aH.mk (within e.cR 0 (f.aQ.length - 1)) ?_ | refine aF.mk (within e.cR 0 (f.aQ.length - 1)) ?_)
  all_goals simp -dsimp -implicitDefEqProofs only [go_sem, ↓reduceIte, Tryz.f126, ef, aT.aU, aK, hk]
  all_goals repeat' (with_reducible first | intro _ | refine And.intro ?_ ?_)
  all_goals try omega
  all_goals try (refine aB9 (by omega) ef ?_; omega)
  all_goals try (repeat' (with_reducible first | exact aB.le_refl _ | refine (aY (by first | assumption | exact And.right (by assumption) | exact cP.2 (by assumption))).2 ?_))
  all_goals (first | refine aH.mk (within e.cD 0 8) ?_ | refine aF.mk (within e.cD 0 8) ?_)
  all_goals simp -dsimp -implicitDefEqProofs only [go_sem, ↓reduceIte, Tryz.f126, aK, hk]
  all_goals repeat' (with_reducible first | intro _ | refine And.intro ?_ ?_)
  all_goals try (refine aB9 (by omega) ef ?_; omega)
  all_goals try (repeat' (with_reducible first | exact aB.le_refl _ | refine (aY (by first | assumption | exact And.right (by assumption) | exact cP.2 (by assumption))).2 ?_))
  all_goals
   have hn : l6 p e vars funcs := (rS (by omega) ef).2 (by omega)
   have hok := aC.dB p funcs e vars
   clear hr hfs hos ef
   refine cS (keep := uB) (ib := aEW) (mk := aEX) mix (by kernel_rfl) (fun k : Nat => [(2, I vars), (3, .ip 2 [[eZ 3 aT.c p.aI, I funcs]] 0 0), (4, .ip 5 [e.c] 0 0), (154, eZ 5 aC.c e.aN), (155, I e.aN.length), (156, I k)]) (fun _ => h) (fun k => k ≤ e.aN.length ∧ ∀ (j : Nat) (hj : j < e.aN.length), j < k → e.aN[j].ok p funcs vars) (fun k => e.aN.length - k) 0 (by refine ⟨by simp [cV, bZ, aC.aU, hk], by repeat' (with_reducible first | exact aB.le_refl _ | refine (aY (by first | assumption | exact And.right (by assumption) | exact cP.2 (by assumption))).2 ?_), by simp⟩) ?_
   intro k ⟨hk', hp⟩
   simp only [aC.aU]
   rcases Nat.lt_or_ge k e.aN.length with hlt | hge
   ·have mY := aC.aB6 (List.getElem_mem hlt)
    have nx (q : e.aN[k].ok p funcs vars) : ∀ (j : Nat) (hj : j < e.aN.length), j < k + 1 → e.aN[j].ok p funcs vars := by
     intro j hj hjk
     rcases Nat.lt_succ_iff_lt_or_eq.1 hjk with h1 | rfl
     ·exact hp j hj h1
     ·exact q
    have no (q : ¬ e.aN[k].ok p funcs vars) : false = decide (e.ok p funcs vars) := (decide_eq_false fun z => q (by have := (hok.1 z).2 k hlt; rwa [show iX e.aP k vars = vars from if_neg (by omega)] at this)).symm
    have ea : e.aN[k]? = some e.aN[k] := List.getElem?_eq_getElem hlt
    have hcy := hc e.aN[k] (List.getElem_mem hlt) vars (by omega) (by omega)
    simp only [aC.aU] at hcy
    simp -dsimp -implicitDefEqProofs only [go_sem, ↓reduceIte, Tryz.f126, ea, aC.aU, aK, hk]
    repeat' (with_reducible first | intro _ | refine And.intro ?_ ?_)
    all_goals try omega
    first | refine aH.mk (hcy) ?_ | refine aF.mk (hcy) ?_ | refine aH.bS (hcy) ?_ | refine aF.mk (bM.eQ (hcy)) ?_
    simp -dsimp -implicitDefEqProofs only [go_sem, ↓reduceIte, Tryz.f126]
    repeat' (with_reducible first | intro _ | refine And.intro ?_ ?_)
    all_goals first | exact no (by assumption) | skip
    all_goals try (repeat' (with_reducible first | exact aB.le_refl _ | refine (aY (by first | assumption | exact And.right (by assumption) | exact cP.2 (by assumption))).2 ?_))
    refine ⟨k + 1, ?_⟩
    repeat' (with_reducible refine And.intro ?_ ?_)
    all_goals try (rw [IntWalk.i64_in _ (by omega)]; first | rfl | omega)
    all_goals try omega
    all_goals try (repeat' (with_reducible first | exact aB.le_refl _ | refine (aY (by first | assumption | exact And.right (by assumption) | exact cP.2 (by assumption))).2 ?_))
    all_goals try (simp only [aC.aU, hk]; done)
    exact nx (by assumption)
   ·have hk'' : k = e.aN.length := by omega
    subst hk''
    simp -dsimp -implicitDefEqProofs only [go_sem, ↓reduceIte, Tryz.f126, Nat.lt_irrefl]
    exact (decide_eq_true (hok.2 ⟨hn, fun j hj => by rw [show iX e.aP j vars = vars from if_neg (by omega)]; exact hp j hj hj⟩)).symm
 ·refine fT 177 uB aEW aEX mix Tryz.func126 rfl (by kernel_rfl) (by simp) fun h => ?_
  simp -dsimp -implicitDefEqProofs only [go_sem, ↓reduceIte, Tryz.f126, e1, hk]
  repeat' (with_reducible first | intro _ | refine And.intro ?_ ?_)
  all_goals try omega
  all_goals (first | refine aH.mk (within e.bC 0 (funcs - 1)) ?_ | refine aF.mk (within e.bC 0 (funcs - 1)) ?_)
  all_goals simp -dsimp -implicitDefEqProofs only [go_sem, ↓reduceIte, Tryz.f126]
  all_goals repeat' (with_reducible first | intro _ | refine And.intro ?_ ?_)
  all_goals try omega
  all_goals exact aOO (by omega) hr
open Go.Proofs
set_option linter.unusedVariables false
set_option linter.unusedSimpArgs false
theorem aCA (p : aE) (e : aC) (vars funcs : Int) (hv : 0 ≤ vars) (hv2 : vars + e.s ≤ 4294967296) (fN : 0 ≤ funcs) (hf : funcs ≤ p.aI.length) (hps : p.s ≤ 4294967296) :
  fL Tryz.prog 126 [.agg [eZ 3 aT.c p.aI, I funcs], .agg e.c, I vars] (.bool (decide (e.ok p funcs vars))) := by
 by_cases h1 : e.aP = 10
 ·exact aOP p e vars funcs hv hv2 fN hf hps (fun y hy vars hv hv2 => aCA p y vars funcs hv hv2 fN hf hps) h1
 ·by_cases h2 : e.aP = 11
  ·exact aOQ p e vars funcs hv hv2 fN hf hps (fun y hy vars hv hv2 => aCA p y vars funcs hv hv2 fN hf hps) h2
  ·exact aHI p e vars funcs hv hv2 fN hf hps (fun y hy vars hv hv2 => aCA p y vars funcs hv hv2 fN hf hps) (fun q => q.elim h1 h2)
termination_by SizeOf.sizeOf e
decreasing_by all_goals exact aC.aDX hy
set_option maxRecDepth 100000
open Go.Proofs
set_option linter.unusedVariables false
set_option linter.unusedSimpArgs false
def lW (p : aE) (e : aC) (vars funcs : Int) : Prop := (0 ≤ vars ∧ vars ≤ 412) ∧ (0 ≤ funcs ∧ funcs ≤ p.aI.length) ∧ (e.s : Int) + 1 ≤ 400 ∧ (e.d : Int) ≤ 60 ∧ e.ok p funcs vars
noncomputable instance (p : aE) (e : aC) (vars funcs : Int) : Decidable (lW p e vars funcs) := Classical.propDecidable _
def y5 (p : aE) (k : Nat) (f : aT) : Prop := aA0 f.kE ∧ (0 ≤ f.aW ∧ f.aW ≤ 12) ∧ (1 ≤ (f.aQ.length : Int) ∧ (f.aQ.length : Int) ≤ 12) ∧ (∀ g ∈ p.aI.take k, g.kE ≠ f.kE) ∧ (qM aC.s f.aQ : Int) ≤ 400 ∧ ∀ e ∈ f.aQ, lW p e f.aW k
noncomputable instance (p : aE) (k : Nat) (f : aT) : Decidable (y5 p k f) := Classical.propDecidable _
def aE.ok (p : aE) : Prop := (p.aI.length : Int) ≤ 16 ∧ ∀ (k : Nat) (f : aT), p.aI[k]? = some f → y5 p k f
noncomputable instance (p : aE) : Decidable p.ok := Classical.propDecidable _
@[go_sem] def a1X : List Nat := [0, 2]
@[go_sem] def bFZ : List Nat := []
@[go_sem] def bF0 : Marks := fun _ => ([], .nil, [])
theorem aFM (n : Int) : fL Tryz.prog 131 [I n] (.bool (decide (0 ≤ n ∧ n ≤ 412))) := by
 refine fT 5 a1X bFZ bF0 mix Tryz.func131 rfl (by kernel_rfl) (by simp) fun h => ?_
 simp -dsimp -implicitDefEqProofs only [go_sem, ↓reduceIte, Tryz.f131]
 first | refine aH.mk (eJ n 0 412) ?_ | refine aF.mk (eJ n 0 412) ?_ | refine aH.bS (eJ n 0 412) ?_ | refine aF.mk (bM.eQ (eJ n 0 412)) ?_
 simp -dsimp -implicitDefEqProofs only [go_sem, ↓reduceIte, Tryz.f131]
@[go_sem] def a1Y : List Nat := [0, 2]
@[go_sem] def bF1 : List Nat := []
@[go_sem] def bF2 : Marks := fun _ => ([], .nil, [])
theorem aFN (n : Int) : fL Tryz.prog 124 [I n] (.bool (decide (0 ≤ n ∧ n ≤ 412))) := by
 refine fT 5 a1Y bF1 bF2 mix Tryz.func124 rfl (by kernel_rfl) (by simp) fun h => ?_
 simp -dsimp -implicitDefEqProofs only [go_sem, ↓reduceIte, Tryz.f124]
 first | refine aH.mk (within n 0 412) ?_ | refine aF.mk (within n 0 412) ?_ | refine aH.bS (within n 0 412) ?_ | refine aF.mk (bM.eQ (within n 0 412)) ?_
 simp -dsimp -implicitDefEqProofs only [go_sem, ↓reduceIte, Tryz.f124]
theorem aHJ {left : Int} {n : Nat} : 0 ≤ lft left n ↔ (n : Int) ≤ left := by
 unfold lft; split <;> omega
@[go_sem] def a1Z : List Nat := [0, 1, 2, 3, 8]
@[go_sem] def bF3 : List Nat := []
@[go_sem] def bF4 : Marks := fun _ => ([], .nil, [])
theorem aSV (p : aE) (e : aC) (vars funcs : Int) (hs : e.s ≤ 4294966296) (hps : p.s ≤ 4294967296) : fL Tryz.prog 115 [.ip 1 [p.c] 0 0, .ip 5 [e.c] 0 0, I vars, I funcs] (.bool (decide (lW p e vars funcs))) := by
 simp only [aE.aU]
 refine fT 37 a1Z bF3 bF4 mix Tryz.func115 rfl (by kernel_rfl) (by simp) fun h => ?_
 simp -dsimp -implicitDefEqProofs only [go_sem, ↓reduceIte, Tryz.f115]
 first | refine aH.mk (aFM vars) ?_ | refine aF.mk (aFM vars) ?_ | refine aH.bS (aFM vars) ?_ | refine aF.mk (bM.eQ (aFM vars)) ?_
 simp -dsimp -implicitDefEqProofs only [go_sem, ↓reduceIte, Tryz.f115]
 repeat' (with_reducible first | intro _ | refine And.intro ?_ ?_)
 all_goals try (first | (simp [lW, *]; done) | omega | (grind [lW]) | (simp [lW]; omega))
 first | refine aH.mk (eJ funcs 0 p.aI.length) ?_ | refine aF.mk (eJ funcs 0 p.aI.length) ?_ | refine aH.bS (eJ funcs 0 p.aI.length) ?_ | refine aF.mk (bM.eQ (eJ funcs 0 p.aI.length)) ?_
 simp -dsimp -implicitDefEqProofs only [go_sem, ↓reduceIte, Tryz.f115]
 repeat' (with_reducible first | intro _ | refine And.intro ?_ ?_)
 all_goals try (first | (simp [lW, *]; done) | omega | (grind [lW]) | (simp [lW]; omega))
 first | refine aF.mk ((aB7 e 400 (by omega) (by omega) (by omega)).sub (by repeat' (first | exact gE.nil | refine gE.cons ?_ ?_ | exact Sub.refl _ | (rw [aC.aU]; exact Sub.refl _) | exact Sub.fO rfl rfl rfl | exact Sub.ip (cZ (by omega)) (by simp) | exact Sub.fO (cZ (by omega)) rfl rfl | exact Sub.ip (by simp [*]) (by simp) | exact Sub.fO (by simp [*]) (by rfl) (by rfl)))) ?_ | refine aH.mk ((aB7 e 400 (by omega) (by omega) (by omega)).sub (by repeat' (first | exact gE.nil | refine gE.cons ?_ ?_ | exact Sub.refl _ | (rw [aC.aU]; exact Sub.refl _) | exact Sub.fO rfl rfl rfl | exact Sub.ip (cZ (by omega)) (by simp) | exact Sub.fO (cZ (by omega)) rfl rfl | exact Sub.ip (by simp [*]) (by simp) | exact Sub.fO (by simp [*]) (by rfl) (by rfl)))) ?_
 simp -dsimp -implicitDefEqProofs only [go_sem, ↓reduceIte, Tryz.f115]
 repeat' (with_reducible first | intro _ | refine And.intro ?_ ?_)
 ·have hle : ((e.s + 1 : Nat) : Int) ≤ 400 := aHJ.1 (by assumption)
  first | refine aF.mk ((aHF e (by omega)).sub (by repeat' (first | exact gE.nil | refine gE.cons ?_ ?_ | exact Sub.refl _ | (rw [aC.aU]; exact Sub.refl _) | exact Sub.fO rfl rfl rfl | exact Sub.ip (cZ (by omega)) (by simp) | exact Sub.fO (cZ (by omega)) rfl rfl | exact Sub.ip (by simp [*]) (by simp) | exact Sub.fO (by simp [*]) (by rfl) (by rfl)))) ?_ | refine aH.mk ((aHF e (by omega)).sub (by repeat' (first | exact gE.nil | refine gE.cons ?_ ?_ | exact Sub.refl _ | (rw [aC.aU]; exact Sub.refl _) | exact Sub.fO rfl rfl rfl | exact Sub.ip (cZ (by omega)) (by simp) | exact Sub.fO (cZ (by omega)) rfl rfl | exact Sub.ip (by simp [*]) (by simp) | exact Sub.fO (by simp [*]) (by rfl) (by rfl)))) ?_
  simp -dsimp -implicitDefEqProofs only [go_sem, ↓reduceIte, Tryz.f115]
  repeat' (with_reducible first | intro _ | refine And.intro ?_ ?_)
  ·first | refine aF.mk ((aK7 p e vars funcs (by omega) (by omega) (by omega) (by omega) hps).sub (by repeat' (first | exact gE.nil | refine gE.cons ?_ ?_ | exact Sub.refl _ | (rw [aC.aU]; exact Sub.refl _) | exact Sub.fO rfl rfl rfl | exact Sub.ip (cZ (by omega)) (by simp) | exact Sub.fO (cZ (by omega)) rfl rfl | exact Sub.ip (by simp [*]) (by simp) | exact Sub.fO (by simp [*]) (by rfl) (by rfl)))) ?_ | refine aH.mk ((aK7 p e vars funcs (by omega) (by omega) (by omega) (by omega) hps).sub (by repeat' (first | exact gE.nil | refine gE.cons ?_ ?_ | exact Sub.refl _ | (rw [aC.aU]; exact Sub.refl _) | exact Sub.fO rfl rfl rfl | exact Sub.ip (cZ (by omega)) (by simp) | exact Sub.fO (cZ (by omega)) rfl rfl | exact Sub.ip (by simp [*]) (by simp) | exact Sub.fO (by simp [*]) (by rfl) (by rfl)))) ?_
   simp -dsimp -implicitDefEqProofs only [go_sem, ↓reduceIte, Tryz.f115]
   rw [decide_eq_decide]
   exact ⟨fun q => ⟨by omega, by omega, by omega, by omega, q⟩, fun q => q.2.2.2.2⟩
  ·exact (decide_eq_false fun q => by have := q.2.2.2.1; omega).symm
 ·rename_i hn
  exact (decide_eq_false fun q => hn (aHJ.2 (by have := q.2.2.1; omega))).symm
@[go_sem] def a16 : List Nat := [0, 1, 2, 3, 4, 5, 8]
@[go_sem] def bF5 : List Nat := [4, 5]
@[go_sem] def bF6 : Marks := fun _ => ([], .nil, [])
theorem aU9 (p : aE) (e : aC) (vars funcs : Int) (hs : e.s ≤ 4294966296) (hps : p.s ≤ 4294967296) : fL Tryz.prog 101 [.agg p.c, .agg e.c, I vars, I funcs] (.bool (decide (lW p e vars funcs))) := by
 have h1 := aHD e (by omega)
 have h2 := aJI e (by omega)
 simp only [aC.aU] at h1 h2
 simp only [aE.aU, aC.aU]
 refine fT 36 a16 bF5 bF6 mix Tryz.func101 rfl (by kernel_rfl) (by simp) fun h => ?_
 simp -dsimp -implicitDefEqProofs only [go_sem, ↓reduceIte, Tryz.f101]
 first | refine aH.mk (aFN vars) ?_ | refine aF.mk (aFN vars) ?_ | refine aH.bS (aFN vars) ?_ | refine aF.mk (bM.eQ (aFN vars)) ?_
 simp -dsimp -implicitDefEqProofs only [go_sem, ↓reduceIte, Tryz.f101]
 repeat' (with_reducible first | intro _ | refine And.intro ?_ ?_)
 all_goals try (first | (simp [lW, *]; done) | omega | (grind [lW]) | (simp [lW]; omega))
 first | refine aH.mk (within funcs 0 p.aI.length) ?_ | refine aF.mk (within funcs 0 p.aI.length) ?_ | refine aH.bS (within funcs 0 p.aI.length) ?_ | refine aF.mk (bM.eQ (within funcs 0 p.aI.length)) ?_
 simp -dsimp -implicitDefEqProofs only [go_sem, ↓reduceIte, Tryz.f101]
 repeat' (with_reducible first | intro _ | refine And.intro ?_ ?_)
 all_goals try (first | (simp [lW, *]; done) | omega | (grind [lW]) | (simp [lW]; omega))
 first | refine aH.mk (h1) ?_ | refine aF.mk (h1) ?_ | refine aH.bS (h1) ?_ | refine aF.mk (bM.eQ (h1)) ?_
 simp -dsimp -implicitDefEqProofs only [go_sem, ↓reduceIte, Tryz.f101]
 repeat' (with_reducible first | intro _ | refine And.intro ?_ ?_)
 ·first | refine aH.mk (h2) ?_ | refine aF.mk (h2) ?_ | refine aH.bS (h2) ?_ | refine aF.mk (bM.eQ (h2)) ?_
  simp -dsimp -implicitDefEqProofs only [go_sem, ↓reduceIte, Tryz.f101]
  repeat' (with_reducible first | intro _ | refine And.intro ?_ ?_)
  ·have h3 := aCA p e vars funcs (by omega) (by omega) (by omega) (by omega) hps
   simp only [aC.aU] at h3
   first | refine aH.mk (h3) ?_ | refine aF.mk (h3) ?_ | refine aH.bS (h3) ?_ | refine aF.mk (bM.eQ (h3)) ?_
   simp -dsimp -implicitDefEqProofs only [go_sem, ↓reduceIte, Tryz.f101]
   rw [decide_eq_decide]
   exact ⟨fun q => ⟨by omega, by omega, by omega, by omega, q⟩, fun q => q.2.2.2.2⟩
  ·exact (decide_eq_false fun q => by have := q.2.2.2.1; omega).symm
 ·exact (decide_eq_false fun q => by have := q.2.2.1; omega).symm
@[go_sem] def aQW : List Nat := [0, 1, 4, 5, 6, 7, 8, 37, 40, 55, 62, 90]
@[go_sem] def a80 : List Nat := []
@[go_sem] def a81 : Marks := fun id => match id with | 7 => ([], (.op 0 (.op 1 (.op 2 (.op 3 (.op 4 (.op 5 (.op 6 (.op 7 (.op 8 (.op 9 (.op 10 (.op 11 (.op 12 .nil))))))))))))), []) | 14 => ([], (.op 0 (.op 1 (.op 2 (.op 3 (.op 4 (.op 5 (.op 6 (.op 7 (.op 8 (.op 9 (.op 10 (.op 11 (.op 12 (.op 13 (.op 14 (.op 15 (.op 16 (.op 17 .nil)))))))))))))))))), []) | _ => ([], .nil, [])
theorem aSW (p : aE) (k : Nat) (f : aT) (ef : p.aI[k]? = some f) (hps : p.s ≤ 4194304) : fL Tryz.prog 87 [.ip 1 [p.c] 0 0, I k] (.bool (decide (y5 p k f))) := by
 have hk : k < p.aI.length := (List.getElem?_eq_some_iff.1 ef).1
 have hfs := aE.aHG (List.mem_of_getElem? ef)
 have hl := p.aEV
 have hos := f.aHH
 simp only [aE.aU]
 have no (q : ¬ (aA0 f.kE ∧ (0 ≤ f.aW ∧ f.aW ≤ 12) ∧ (1 ≤ (f.aQ.length : Int) ∧ (f.aQ.length : Int) ≤ 12))) : false = decide (y5 p k f) := (decide_eq_false fun z => q ⟨z.1, z.2.1, z.2.2.1⟩).symm
 refine fT 91 aQW a80 a81 mix Tryz.func87 rfl (by kernel_rfl) (by simp) fun h => ?_
 simp -dsimp -implicitDefEqProofs only [go_sem, ↓reduceIte, Tryz.f87, ef, aT.aU, Int.toNat_natCast]
 repeat' (with_reducible first | intro _ | refine And.intro ?_ ?_)
 all_goals try omega
 first | refine aH.mk (w9 f.kE) ?_ | refine aF.mk (w9 f.kE) ?_ | refine aH.bS (w9 f.kE) ?_ | refine aF.mk (bM.eQ (w9 f.kE)) ?_
 simp -dsimp -implicitDefEqProofs only [go_sem, ↓reduceIte, Tryz.f87, ef, aT.aU]
 repeat' (with_reducible first | intro _ | refine And.intro ?_ ?_)
 ·first | refine aH.mk (eJ f.aW 0 12) ?_ | refine aF.mk (eJ f.aW 0 12) ?_ | refine aH.bS (eJ f.aW 0 12) ?_ | refine aF.mk (bM.eQ (eJ f.aW 0 12)) ?_
  simp -dsimp -implicitDefEqProofs only [go_sem, ↓reduceIte, Tryz.f87, ef, aT.aU]
  repeat' (with_reducible first | intro _ | refine And.intro ?_ ?_)
  ·first | refine aH.mk (eJ f.aQ.length 1 12) ?_ | refine aF.mk (eJ f.aQ.length 1 12) ?_ | refine aH.bS (eJ f.aQ.length 1 12) ?_ | refine aF.mk (bM.eQ (eJ f.aQ.length 1 12)) ?_
   simp -dsimp -implicitDefEqProofs only [go_sem, ↓reduceIte, Tryz.f87, ef, aT.aU]
   repeat' (with_reducible first | intro _ | refine And.intro ?_ ?_)
   ·exact no fun z => by simp_all
   ·rename_i q1 q2 q3
    refine cS (keep := aQW) (ib := a80) (mk := a81) mix (by kernel_rfl) (fun j : Nat => [(0, .ip 1 [p.c] 0 0), (1, I k), (5, .ip 3 (p.aI.map aT.c) k 0), (6, I j)]) (fun _ => h) (fun j => j ≤ k ∧ ∀ g ∈ p.aI.take j, g.kE ≠ f.kE) (fun j => k - j) 0 (by refine ⟨by simp [cV, bZ, aE.aU], by repeat' (with_reducible first | exact aB.le_refl _ | refine (aY (by first | assumption | exact And.right (by assumption) | exact cP.2 (by assumption))).2 ?_), by simp⟩) ?_
    intro j ⟨hj, hp⟩
    simp only [aE.aU]
    rcases Nat.lt_or_ge j k with hlt | hge
    ·have eg : p.aI[j]? = some p.aI[j] := List.getElem?_eq_getElem (by omega)
     simp -dsimp -implicitDefEqProofs only [go_sem, ↓reduceIte, Tryz.f87, ef, eg, aT.aU, Int.toNat_natCast]
     repeat' (with_reducible first | intro _ | refine And.intro ?_ ?_)
     all_goals try omega
     ·rename_i he
      refine (decide_eq_false fun z => z.2.2.2.1 p.aI[j] ?_ he).symm
      exact List.mem_take_iff_getElem.2 ⟨j, by omega, rfl⟩
     ·rename_i he
      refine ⟨j + 1, ?_⟩
      repeat' (with_reducible refine And.intro ?_ ?_)
      all_goals try (rw [IntWalk.i64_in _ (by omega)]; first | rfl | omega)
      all_goals try omega
      all_goals try (repeat' (with_reducible first | exact aB.le_refl _ | refine (aY (by first | assumption | exact And.right (by assumption) | exact cP.2 (by assumption))).2 ?_))
      all_goals try (simp only [aE.aU]; done)
      exact oZ (P := fun g : aT => g.kE ≠ f.kE) (by omega) hp he
    ·have hj' : j = k := by omega
     rw [hj'] at hp
     simp -dsimp -implicitDefEqProofs only [go_sem, ↓reduceIte, Tryz.f87, hj', Int.lt_irrefl]
     have part (i : Nat) (hi : i < f.aQ.length) : i + ((f.aQ.take i).map aC.s).sum + f.aQ[i].s + 1 ≤ qM aC.s f.aQ := by
      have h1 := lO aC.s f.aQ i hi
      have h2 := tY aC.s f.aQ (i + 1)
      rw [kT]; omega
     have hszs : qM aC.s f.aQ ≤ f.s := by rw [f.tI]; omega
     refine cS (keep := aQW) (ib := a80) (mk := a81) mix (by kernel_rfl) (fun i : Nat => [(0, .ip 1 [p.c] 0 0), (1, I k), (5, .ip 3 (p.aI.map aT.c) k 0), (7, I (400 - (i + ((f.aQ.take i).map aC.s).sum : Nat))), (8, I i)]) (fun _ => h) (fun i => i ≤ f.aQ.length ∧ i + ((f.aQ.take i).map aC.s).sum ≤ 400 ∧ ∀ e ∈ f.aQ.take i, lW p e f.aW k) (fun i => f.aQ.length - i) 0 (by refine ⟨by simp [cV, bZ, aE.aU], by repeat' (with_reducible first | exact aB.le_refl _ | refine (aY (by first | assumption | exact And.right (by assumption) | exact cP.2 (by assumption))).2 ?_), by simp⟩) ?_
     intro i ⟨hi, hsum, hall⟩
     simp only [aE.aU]
     rcases Nat.lt_or_ge i f.aQ.length with hlt | hge
     ·have h1 := lO aC.s f.aQ i hlt
      have hpt := part i hlt
      have hout := aT.a6E (List.getElem_mem hlt)
      simp -dsimp -implicitDefEqProofs only [go_sem, ↓reduceIte, Tryz.f87, ef, aT.aU, Int.toNat_natCast]
      repeat' (with_reducible first | intro _ | refine And.intro ?_ ?_)
      all_goals try omega
      first | refine aF.mk ((aB7 f.aQ[i] (400 - (i + ((f.aQ.take i).map aC.s).sum : Nat)) (by omega) (by omega) (by omega)).sub (by repeat' (first | exact gE.nil | refine gE.cons ?_ ?_ | exact Sub.refl _ | (rw [aC.aU]; exact Sub.refl _) | exact Sub.fO rfl rfl rfl | exact Sub.ip (cZ (by omega)) (by simp) | exact Sub.fO (cZ (by omega)) rfl rfl | exact Sub.ip (by simp [*]) (by simp) | exact Sub.fO (by simp [*]) (by rfl) (by rfl)))) ?_ | refine aH.mk ((aB7 f.aQ[i] (400 - (i + ((f.aQ.take i).map aC.s).sum : Nat)) (by omega) (by omega) (by omega)).sub (by repeat' (first | exact gE.nil | refine gE.cons ?_ ?_ | exact Sub.refl _ | (rw [aC.aU]; exact Sub.refl _) | exact Sub.fO rfl rfl rfl | exact Sub.ip (cZ (by omega)) (by simp) | exact Sub.fO (cZ (by omega)) rfl rfl | exact Sub.ip (by simp [*]) (by simp) | exact Sub.fO (by simp [*]) (by rfl) (by rfl)))) ?_
      simp -dsimp -implicitDefEqProofs only [go_sem, ↓reduceIte, Tryz.f87, ef, aT.aU]
      rcases aJF (400 - (i + ((f.aQ.take i).map aC.s).sum : Nat)) (f.aQ[i].s + 1) with ⟨e, hl1⟩ | ⟨e, hl1⟩
      ·simp -dsimp -implicitDefEqProofs only [go_sem, ↓reduceIte, Tryz.f87, e]
       repeat' (with_reducible first | intro _ | refine And.intro ?_ ?_)
       all_goals try omega
       all_goals exact (decide_eq_false fun z => by have := z.2.2.2.2.1; omega).symm
      ·simp -dsimp -implicitDefEqProofs only [go_sem, ↓reduceIte, Tryz.f87, e]
       repeat' (with_reducible first | intro _ | refine And.intro ?_ ?_)
       all_goals try omega
       first | refine aF.mk ((aSV p f.aQ[i] f.aW k (by omega) (by omega)).sub (by repeat' (first | exact gE.nil | refine gE.cons ?_ ?_ | exact Sub.refl _ | (rw [aC.aU]; exact Sub.refl _) | exact Sub.fO rfl rfl rfl | exact Sub.ip (cZ (by omega)) (by simp) | exact Sub.fO (cZ (by omega)) rfl rfl | exact Sub.ip (by simp [*]) (by simp) | exact Sub.fO (by simp [*]) (by rfl) (by rfl)))) ?_ | refine aH.mk ((aSV p f.aQ[i] f.aW k (by omega) (by omega)).sub (by repeat' (first | exact gE.nil | refine gE.cons ?_ ?_ | exact Sub.refl _ | (rw [aC.aU]; exact Sub.refl _) | exact Sub.fO rfl rfl rfl | exact Sub.ip (cZ (by omega)) (by simp) | exact Sub.fO (cZ (by omega)) rfl rfl | exact Sub.ip (by simp [*]) (by simp) | exact Sub.fO (by simp [*]) (by rfl) (by rfl)))) ?_
       simp -dsimp -implicitDefEqProofs only [go_sem, ↓reduceIte, Tryz.f87, ef, aT.aU]
       repeat' (with_reducible first | intro _ | refine And.intro ?_ ?_)
       ·rename_i hn
        exact (decide_eq_false fun z => hn (z.2.2.2.2.2 _ (List.getElem_mem hlt))).symm
       ·rename_i hn
        refine ⟨i + 1, ?_⟩
        repeat' (with_reducible refine And.intro ?_ ?_)
        all_goals try (rw [IntWalk.i64_in _ (by omega)]; first | rfl | omega)
        all_goals try omega
        all_goals try (repeat' (with_reducible first | exact aB.le_refl _ | refine (aY (by first | assumption | exact And.right (by assumption) | exact cP.2 (by assumption))).2 ?_))
        all_goals try (simp only [aE.aU]; done)
        exact oZ (P := fun e => lW p e f.aW k) hlt hall hn
     ·have hi' : i = f.aQ.length := by omega
      subst hi'
      rw [List.take_length] at hsum hall
      simp -dsimp -implicitDefEqProofs only [go_sem, ↓reduceIte, Tryz.f87, ef, aT.aU, Nat.lt_irrefl]
      exact fun _ => (decide_eq_true ⟨by assumption, q1, q3, hp, by rw [kT]; omega, hall⟩).symm
  ·exact no fun z => by simp_all
 ·exact no fun z => by simp_all
@[go_sem] def aXN : List Nat := [0, 2, 3, 9, 16, 22]
@[go_sem] def bF7 : List Nat := []
@[go_sem] def bF8 : Marks := fun _ => ([], .nil, [])
theorem aXO (p : aE) (hps : p.s ≤ 4194304) : fL Tryz.prog 57 [.ip 1 [p.c] 0 0] (.bool (decide p.ok)) := by
 simp only [aE.aU]
 refine fT 23 aXN bF7 bF8 mix Tryz.func57 rfl (by kernel_rfl) (by simp) fun h => ?_
 simp -dsimp -implicitDefEqProofs only [go_sem, ↓reduceIte, Tryz.f57]
 repeat' (with_reducible first | intro _ | refine And.intro ?_ ?_)
 ·exact (decide_eq_false fun z => by have := z.1; omega).symm
 refine cS (keep := aXN) (ib := bF7) (mk := bF8) mix (by kernel_rfl) (fun k : Nat => [(0, .ip 1 [p.c] 0 0), (3, I k)]) (fun _ => h) (fun k => k ≤ p.aI.length ∧ ∀ (j : Nat) (f : aT), j < k → p.aI[j]? = some f → y5 p j f) (fun k => p.aI.length - k) 0 (by refine ⟨by simp [cV, bZ, aE.aU], by repeat' (with_reducible first | exact aB.le_refl _ | refine (aY (by first | assumption | exact And.right (by assumption) | exact cP.2 (by assumption))).2 ?_), by simp⟩) ?_
 intro k ⟨hk, hp⟩
 simp only [aE.aU]
 rcases Nat.lt_or_ge k p.aI.length with hlt | hge
 ·have eg : p.aI[k]? = some p.aI[k] := List.getElem?_eq_getElem (by omega)
  simp -dsimp -implicitDefEqProofs only [go_sem, ↓reduceIte, Tryz.f57]
  repeat' (with_reducible first | intro _ | refine And.intro ?_ ?_)
  all_goals try omega
  first | refine aF.mk ((aSW p k p.aI[k] eg hps).sub (by repeat' (first | exact gE.nil | refine gE.cons ?_ ?_ | exact Sub.refl _ | (rw [aC.aU]; exact Sub.refl _) | exact Sub.fO rfl rfl rfl | exact Sub.ip (cZ (by omega)) (by simp) | exact Sub.fO (cZ (by omega)) rfl rfl | exact Sub.ip (by simp [*]) (by simp) | exact Sub.fO (by simp [*]) (by rfl) (by rfl)))) ?_ | refine aH.mk ((aSW p k p.aI[k] eg hps).sub (by repeat' (first | exact gE.nil | refine gE.cons ?_ ?_ | exact Sub.refl _ | (rw [aC.aU]; exact Sub.refl _) | exact Sub.fO rfl rfl rfl | exact Sub.ip (cZ (by omega)) (by simp) | exact Sub.fO (cZ (by omega)) rfl rfl | exact Sub.ip (by simp [*]) (by simp) | exact Sub.fO (by simp [*]) (by rfl) (by rfl)))) ?_
  simp -dsimp -implicitDefEqProofs only [go_sem, ↓reduceIte, Tryz.f57]
  repeat' (with_reducible first | intro _ | refine And.intro ?_ ?_)
  ·rename_i hn
   exact (decide_eq_false fun z => hn (z.2 k _ eg)).symm
  ·rename_i hn
   refine ⟨k + 1, ?_⟩
   repeat' (with_reducible refine And.intro ?_ ?_)
   all_goals try (rw [IntWalk.i64_in _ (by omega)]; first | rfl | omega)
   all_goals try omega
   all_goals try (repeat' (with_reducible first | exact aB.le_refl _ | refine (aY (by first | assumption | exact And.right (by assumption) | exact cP.2 (by assumption))).2 ?_))
   all_goals try (simp only [aE.aU]; done)
   intro j f hj ej
   rcases Nat.lt_succ_iff_lt_or_eq.1 hj with h1 | rfl
   ·exact hp j f h1 ej
   ·rw [eg] at ej; obtain rfl := Option.some.inj ej; exact hn
 ·have hk' : k = p.aI.length := by omega
  subst hk'
  simp -dsimp -implicitDefEqProofs only [go_sem, ↓reduceIte, Tryz.f57, Nat.lt_irrefl]
  exact fun _ => (decide_eq_true ⟨by omega, fun j f ej => hp j f (List.getElem?_eq_some_iff.1 ej).1 ej⟩).symm
set_option maxRecDepth 100000
open Go.Proofs
set_option linter.unusedVariables false
set_option linter.unusedSimpArgs false
@[go_sem] def aSX : List Nat := [0, 1, 4, 5, 7, 8, 9, 16]
@[go_sem] def a6H : List Nat := []
@[go_sem] def a6I : Marks := fun _ => ([], .nil, [])
theorem aQX (a : List aT) (p : aT → Bool) (g : FuncId) (cap : List aD) {h0 : aB} (hc : ∀ x ∈ a, bM Tryz.prog g ([(.agg (aT.c x))] ++ cap) (.bool (p x)) h0) : bM Tryz.prog 123 [(eZ 3 aT.c a), .fn (.func g) [] cap] (I (idxOf p a)) h0 := by
 refine aB0 19 aSX a6H a6I mix Tryz.func123 rfl (by kernel_rfl) (by simp) fun h hle => ?_
 simp -dsimp -implicitDefEqProofs only [go_sem, ↓reduceIte, Tryz.f123, Tryz.f123]
 intro _
 refine cS (keep := aSX) (ib := a6H) (mk := a6I) mix (by kernel_rfl) (fun k : Nat => [(0, (eZ 3 aT.c a)), (1, .fn (.func g) [] cap), (7, I a.length), (8, I k)]) (fun _ => h) (fun k => k ≤ a.length ∧ ∀ x ∈ a.take k, p x = false) (fun k => a.length - k) 0 (by simp [cV, bZ, aB.le_refl]) ?_
 intro k ⟨hk, hp⟩
 rcases Nat.lt_or_ge k a.length with hlt | hge
 ·have ea : a[k]? = some a[k] := List.getElem?_eq_getElem hlt
  simp -dsimp -implicitDefEqProofs only [go_sem, ↓reduceIte, Tryz.f123, Tryz.f123, ea, aT.aU]
  repeat' (with_reducible first | intro _ | refine And.intro ?_ ?_)
  all_goals try omega
  have hx := hc a[k] (List.getElem_mem hlt)
  simp only [aT.aU] at hx
  refine aH.bS (hx.mono hle) ?_
  cases hpk : p a[k] with
  |true =>
   simp -dsimp -implicitDefEqProofs only [go_sem, ↓reduceIte, Tryz.f123, Tryz.f123]
   repeat' (with_reducible first | intro _ | refine And.intro ?_ ?_)
   all_goals first | exact (qZ hlt hp hpk).symm | rfl | (rw [qZ hlt hp hpk])
  |false =>
   simp -dsimp -implicitDefEqProofs only [go_sem, ↓reduceIte, Tryz.f123, Tryz.f123]
   refine ⟨k + 1, ?_⟩
   repeat' (with_reducible refine And.intro ?_ ?_)
   all_goals try (rw [IntWalk.i64_in _ (by omega)]; first | rfl | omega)
   all_goals try omega
   exact oZ (P := fun x => p x = false) hlt hp hpk
 ·have hk' : k = a.length := by omega
  subst hk'
  rw [List.take_length] at hp
  simp -dsimp -implicitDefEqProofs only [go_sem, ↓reduceIte, Tryz.f123, Tryz.f123, Nat.lt_irrefl]
  all_goals first | exact (qY hp).symm | rw [qY hp]
@[go_sem] def a82 : List Nat := [0, 1, 4]
@[go_sem] def bNL : List Nat := []
@[go_sem] def bNM : Marks := fun _ => ([], .nil, [])
theorem aQY (a : List aT) (p : aT → Bool) (g : FuncId) (cap : List aD) {h0 : aB} (hc : ∀ x ∈ a, bM Tryz.prog g ([(.agg (aT.c x))] ++ cap) (.bool (p x)) h0) : bM Tryz.prog 99 [(eZ 3 aT.c a), .fn (.func g) [] cap] (.bool (a.any p)) h0 := by
 refine aB0 9 a82 bNL bNM mix Tryz.func99 rfl (by kernel_rfl) (by simp) fun h hle => ?_
 simp -dsimp -implicitDefEqProofs only [go_sem, ↓reduceIte, Tryz.f99, Tryz.f99]
 refine aH.bS ((aQX a p g cap hc).mono hle) ?_
 simp -dsimp -implicitDefEqProofs only [go_sem, ↓reduceIte, Tryz.f99, Tryz.f99]
 all_goals first | done | exact nT | rw [nT]
@[go_sem] def a17 : List Nat := [0, 1, 2, 3]
@[go_sem] def bF9 : List Nat := [2]
@[go_sem] def bGA : Marks := fun _ => ([], .nil, [])
theorem aIY (g f : aT) (n : Nat) {h0 : aB} (hn : h0 n = some (.row 3 [f.c.map .v])) : bM Tryz.prog 100 [.agg g.c, .op n 3 0 0] (.bool (decide (g.kE = f.kE))) h0 := by
 simp only [aT.aU]
 have hg (h : aB) (hle : h0.le h) := aB.aG4 hle hn
 refine aB0 9 a17 bF9 bGA mix Tryz.func100 rfl (by kernel_rfl) (by simp) fun h hle => ?_
 simp -dsimp -implicitDefEqProofs only [go_sem, ↓reduceIte, Tryz.f100]
 have hn' := hg h hle
 simp only [aT.aU] at hn'
 simp -dsimp -implicitDefEqProofs only [go_sem, ↓reduceIte, Tryz.f100, hn']
@[go_sem] def aQZ : List Nat := [0, 1, 2, 3, 4, 5, 7, 11, 13, 14, 15, 16, 31, 42, 44, 45, 46, 47, 56, 63]
@[go_sem] def a83 : List Nat := [1]
@[go_sem] def a84 : Marks := fun _ => ([], .nil, [])
theorem aK8 (p : aE) (hps : p.s ≤ 4194304) : fL Tryz.prog 71 [.agg p.c] (.bool (decide p.ok)) := by
 simp only [aE.aU]
 refine fT 65 aQZ a83 a84 mix Tryz.func71 rfl (by kernel_rfl) (by simp) fun h => ?_
 simp -dsimp -implicitDefEqProofs only [go_sem, ↓reduceIte, Tryz.f71]
 repeat' (with_reducible first | intro _ | refine And.intro ?_ ?_)
 ·exact (decide_eq_false fun z => by have := z.1; omega).symm
 refine cS (keep := aQZ) (ib := a83) (mk := a84) mix (by kernel_rfl) (fun k : Nat => [(1, .ip 1 [p.c] 0 0), (13, eZ 3 aT.c p.aI), (14, I p.aI.length), (15, I k)]) (fun _ => h) (fun k => k ≤ p.aI.length ∧ ∀ (j : Nat) (f : aT), j < k → p.aI[j]? = some f → y5 p j f) (fun k => p.aI.length - k) 0 (by refine ⟨by simp [cV, bZ, aE.aU], by repeat' (with_reducible first | exact aB.le_refl _ | refine (aY (by first | assumption | exact And.right (by assumption) | exact cP.2 (by assumption))).2 ?_), by simp⟩) ?_
 intro k ⟨hk, hp⟩
 simp only [aE.aU]
 rcases Nat.lt_or_ge k p.aI.length with hlt | hge
 ·obtain ⟨f, eg⟩ : ∃ f, p.aI[k]? = some f := ⟨_, List.getElem?_eq_getElem hlt⟩
  have hfs := aE.aHG (List.mem_of_getElem? eg)
  have hos := f.aHH
  have no (q : ¬ y5 p k f) : false = decide p.ok := (decide_eq_false fun z => q (z.2 k f eg)).symm
  simp -dsimp -implicitDefEqProofs only [go_sem, ↓reduceIte, Tryz.f71, eg, aT.aU, aK]
  repeat' (with_reducible first | intro _ | refine And.intro ?_ ?_)
  all_goals try omega
  rename_i n hn
  first | refine aH.mk (aK1 f.kE) ?_ | refine aF.mk (aK1 f.kE) ?_ | refine aH.bS (aK1 f.kE) ?_ | refine aF.mk (bM.eQ (aK1 f.kE)) ?_
  simp -dsimp -implicitDefEqProofs only [go_sem, ↓reduceIte, Tryz.f71, aM, aK]
  repeat' (with_reducible first | intro _ | refine And.intro ?_ ?_)
  all_goals try (repeat' (with_reducible first | exact aB.le_refl _ | refine (aY (by first | assumption | exact And.right (by assumption) | exact cP.2 (by assumption))).2 ?_))
  all_goals try omega
  all_goals try (rename_i hnm; exact no fun z => hnm z.1)
  rename_i hnm
  rw [← List.map_take]
  refine aH.bS (aQY (p.aI.take k) (fun g => decide (g.kE = f.kE)) 100 [.op n 3 0 0] fun g _ => aIY g f n (by simp [aM, aT.aU])) ?_
  simp -dsimp -implicitDefEqProofs only [go_sem, ↓reduceIte, Tryz.f71, aM, aK]
  repeat' (with_reducible first | intro _ | refine And.intro ?_ ?_)
  all_goals try (repeat' (with_reducible first | exact aB.le_refl _ | refine (aY (by first | assumption | exact And.right (by assumption) | exact cP.2 (by assumption))).2 ?_))
  ·rename_i q
   refine no fun z => ?_
   obtain ⟨g, o9, hg2⟩ := List.any_eq_true.1 q
   exact z.2.2.2.1 g o9 (by simpa using hg2)
  rename_i hnd
  have hnd' : ∀ g ∈ p.aI.take k, g.kE ≠ f.kE := fun g hg => by
   have := List.any_eq_false.1 hnd g hg
   simpa using this
  first | refine aH.mk (within f.aW 0 12) ?_ | refine aF.mk (within f.aW 0 12) ?_ | refine aH.bS (within f.aW 0 12) ?_ | refine aF.mk (bM.eQ (within f.aW 0 12)) ?_
  simp -dsimp -implicitDefEqProofs only [go_sem, ↓reduceIte, Tryz.f71, aM, aK]
  repeat' (with_reducible first | intro _ | refine And.intro ?_ ?_)
  all_goals try (repeat' (with_reducible first | exact aB.le_refl _ | refine (aY (by first | assumption | exact And.right (by assumption) | exact cP.2 (by assumption))).2 ?_))
  ·first | refine aH.mk (within f.aQ.length 1 12) ?_ | refine aF.mk (within f.aQ.length 1 12) ?_ | refine aH.bS (within f.aQ.length 1 12) ?_ | refine aF.mk (bM.eQ (within f.aQ.length 1 12)) ?_
   simp -dsimp -implicitDefEqProofs only [go_sem, ↓reduceIte, Tryz.f71, aM, aK]
   repeat' (with_reducible first | intro _ | refine And.intro ?_ ?_)
   all_goals try (repeat' (with_reducible first | exact aB.le_refl _ | refine (aY (by first | assumption | exact And.right (by assumption) | exact cP.2 (by assumption))).2 ?_))
   ·rename_i q
    exact no fun z => q z.2.2.1
   ·rename_i q1 q2 q3 q4
    have part (i : Nat) (hi : i < f.aQ.length) : i + ((f.aQ.take i).map aC.s).sum + f.aQ[i].s + 1 ≤ qM aC.s f.aQ := by
     have h1 := lO aC.s f.aQ i hi
     have h2 := tY aC.s f.aQ (i + 1)
     rw [kT]; omega
    have hszs : qM aC.s f.aQ ≤ f.s := by rw [f.tI]; omega
    refine cS (keep := aQZ) (ib := a83) (mk := a84) mix (by kernel_rfl) (fun i : Nat => [(1, .ip 1 [p.c] 0 0), (3, I k), (4, .op n 3 0 0), (5, I ((i + ((f.aQ.take i).map aC.s).sum : Nat) : Int)), (13, eZ 3 aT.c p.aI), (14, I p.aI.length), (15, I k), (44, eZ 5 aC.c f.aQ), (45, I f.aQ.length), (46, I i)]) (fun _ => aR h n (.row 3 [f.c.map .v])) (fun i => i ≤ f.aQ.length ∧ ∀ e ∈ f.aQ.take i, lW p e f.aW k) (fun i => f.aQ.length - i) 0 (by refine ⟨by simp [cV, bZ, aE.aU], by simp [aT.aU, aB.le_refl], by simp⟩) ?_
    intro i ⟨hi, hall⟩
    simp only [aE.aU, aT.aU, List.map_cons, List.map_nil]
    rcases Nat.lt_or_ge i f.aQ.length with kJ | aE6
    ·have h1 := lO aC.s f.aQ i kJ
     have hpt := part i kJ
     have hout := aT.a6E (List.getElem_mem kJ)
     have ee : f.aQ[i]? = some f.aQ[i] := List.getElem?_eq_getElem kJ
     have hv := aU9 p f.aQ[i] f.aW k (by omega) (by omega)
     have hz := aHD f.aQ[i] (by omega)
     simp only [aC.aU, aE.aU] at hv hz
     simp -dsimp -implicitDefEqProofs only [go_sem, ↓reduceIte, Tryz.f71, ee, aC.aU, aK]
     repeat' (with_reducible first | intro _ | refine And.intro ?_ ?_)
     all_goals try omega
     rename_i m hm
     have hmn : (n = m) = False := eq_false fun e => hm.1 e.symm
     have a86 : (m = n) = False := eq_false hm.1
     simp -dsimp -implicitDefEqProofs only [go_sem, ↓reduceIte, Tryz.f71, aM, hmn, a86]
     first | refine aH.mk (hv) ?_ | refine aF.mk (hv) ?_ | refine aH.bS (hv) ?_ | refine aF.mk (bM.eQ (hv)) ?_
     simp -dsimp -implicitDefEqProofs only [go_sem, ↓reduceIte, Tryz.f71, aM, hmn, a86]
     repeat' (with_reducible first | intro _ | refine And.intro ?_ ?_)
     ·rename_i hne
      exact no fun z => hne (z.2.2.2.2.2 _ (List.getElem_mem kJ))
     ·all_goals try (repeat' (with_reducible first | exact aB.le_refl _ | refine (aY (by first | assumption | exact And.right (by assumption) | exact cP.2 (by assumption))).2 ?_))
     ·rename_i hne
      first | refine aH.mk (hz) ?_ | refine aF.mk (hz) ?_ | refine aH.bS (hz) ?_ | refine aF.mk (bM.eQ (hz)) ?_
      simp -dsimp -implicitDefEqProofs only [go_sem, ↓reduceIte, Tryz.f71, aM, hmn, a86]
      refine ⟨i + 1, ?_⟩
      repeat' (with_reducible refine And.intro ?_ ?_)
      all_goals try (rw [IntWalk.i64_in _ (by omega)]; first | rfl | omega)
      all_goals try omega
      all_goals try (repeat' (with_reducible first | exact aB.le_refl _ | refine (aY (by first | assumption | exact And.right (by assumption) | exact cP.2 (by assumption))).2 ?_))
      all_goals try (simp only [aE.aU]; done)
      exact oZ (P := fun e => lW p e f.aW k) kJ hall hne
    ·have hi' : i = f.aQ.length := by omega
     subst hi'
     rw [List.take_length] at hall ⊢
     simp -dsimp -implicitDefEqProofs only [go_sem, ↓reduceIte, Tryz.f71, Nat.lt_irrefl]
     have hss : qM aC.s f.aQ = f.aQ.length + (f.aQ.map aC.s).sum := kT _ _
     repeat' (with_reducible first | intro _ | refine And.intro ?_ ?_)
     all_goals try (repeat' (with_reducible first | exact aB.le_refl _ | refine (aY (by first | assumption | exact And.right (by assumption) | exact cP.2 (by assumption))).2 ?_))
     ·rename_i q
      exact no fun z => by have := z.2.2.2.2.1; omega
     ·rename_i q
      have hfk : y5 p k f := ⟨hnm, q1, q3, hnd', by omega, hall⟩
      refine ⟨k + 1, ?_⟩
      repeat' (with_reducible refine And.intro ?_ ?_)
      all_goals try (rw [IntWalk.i64_in _ (by omega)]; first | rfl | omega)
      all_goals try omega
      all_goals try (repeat' (with_reducible first | exact aB.le_refl _ | refine (aY (by first | assumption | exact And.right (by assumption) | exact cP.2 (by assumption))).2 ?_))
      intro j f' hj ej
      rcases Nat.lt_succ_iff_lt_or_eq.1 hj with h1 | rfl
      ·exact hp j f' h1 ej
      ·rw [eg] at ej; obtain rfl := Option.some.inj ej; exact hfk
  ·rename_i q
   exact no fun z => q z.2.1
 ·have hk' : k = p.aI.length := by omega
  subst hk'
  simp -dsimp -implicitDefEqProofs only [go_sem, ↓reduceIte, Tryz.f71, Nat.lt_irrefl]
  exact (decide_eq_true ⟨by omega, fun j f ej => hp j f (List.getElem?_eq_some_iff.1 ej).1 ej⟩).symm
end Go.Hl

/-
  Contracts of functions and laws of the layer over the walk.
-/
import Derived.Test.YtgkipnacdihfnaaGreatHlD
import Derived.Test.YtgkipnacdihfnaaGreatProg
import Derived.KernelRfl
namespace Go.Hl
open Go.Proofs
set_option linter.unusedVariables false
set_option linter.unusedSimpArgs false
@[go_sem] theorem ty2 : iT Tryz.prog 2 = some ⟨1, false, 8, [.int .i64 0], .int .i64⟩ := by kernel_rfl
@[go_sem] theorem ty3 : iT Tryz.prog 3 = some ⟨1, false, 8, [.int .i64 0], .int .i64⟩ := by kernel_rfl
@[go_sem] theorem ty4 : iT Tryz.prog 4 = some ⟨1, false, 1, [.bool false], .bool⟩ := by kernel_rfl
@[go_sem] theorem ty5 : iT Tryz.prog 5 = some ⟨1, false, 1, [.int .u8 0], .int .u8⟩ := by kernel_rfl
@[go_sem] theorem ty9 : iT Tryz.prog 9 = some ⟨1, false, 16, [.str []], .str⟩ := by kernel_rfl
@[go_sem] theorem bPB : iT Tryz.prog 22 = some ⟨1, false, 24, [.bI], .slice 5⟩ := by kernel_rfl
@[go_sem] theorem bPC : iT Tryz.prog 24 = some ⟨1, false, 24, [.bI], .slice 54⟩ := by kernel_rfl
@[go_sem] theorem bPD : iT Tryz.prog 26 = some ⟨1, true, 24, [.bI], .st [(0, 24, 1)]⟩ := by kernel_rfl
@[go_sem] theorem bPE : iT Tryz.prog 27 = some ⟨1, false, 24, [.bI], .slice 2⟩ := by kernel_rfl
@[go_sem] theorem bPF : iT Tryz.prog 28 = some ⟨1, false, 24, [.bI], .slice 27⟩ := by kernel_rfl
@[go_sem] theorem bPG : iT Tryz.prog 30 = some ⟨5, true, 88, [.bI, .int .i64 0, .int .i64 0, .bI, .bI], .st [(0, 26, 1), (1, 2, 1), (2, 2, 1), (3, 27, 1), (4, 28, 1)]⟩ := by kernel_rfl
@[go_sem] theorem bPH : iT Tryz.prog 37 = some ⟨3, true, 40, [.int .i64 0, .int .i64 0, .bI], .st [(0, 2, 1), (1, 2, 1), (2, 27, 1)]⟩ := by kernel_rfl
@[go_sem] theorem bPI : iT Tryz.prog 46 = some ⟨1, false, 24, [.bI], .slice 84⟩ := by kernel_rfl
@[go_sem] theorem bPJ : iT Tryz.prog 47 = some ⟨1, false, 24, [.bI], .slice 107⟩ := by kernel_rfl
@[go_sem] theorem bPK : iT Tryz.prog 49 = some ⟨4, true, 80, [.int .i64 0, .bI, .bI, .bI], .st [(0, 2, 1), (1, 46, 1), (2, 47, 1), (3, 27, 1)]⟩ := by kernel_rfl
@[go_sem] theorem bPL : iT Tryz.prog 52 = some ⟨1, false, 24, [.bI], .slice 99⟩ := by kernel_rfl
@[go_sem] theorem bPM : iT Tryz.prog 54 = some ⟨3, true, 48, [.str [], .int .i64 0, .bI], .st [(0, 9, 1), (1, 2, 1), (2, 52, 1)]⟩ := by kernel_rfl
@[go_sem] theorem bPN : iT Tryz.prog 58 = some ⟨1, false, 8, [.kH], .ptr 92⟩ := by kernel_rfl
@[go_sem] theorem bPO : iT Tryz.prog 72 = some ⟨1, false, 24, [.bI], .slice 37⟩ := by kernel_rfl
@[go_sem] theorem bPP : iT Tryz.prog 81 = some ⟨8, true, 144, [.bI, .int .i64 0, .bI, .bI, .bI, .bI, .int .i64 0, .int .i64 0], .st [(0, 26, 1), (1, 49, 4), (5, 27, 1), (6, 2, 1), (7, 2, 1)]⟩ := by kernel_rfl
@[go_sem] theorem bPQ : iT Tryz.prog 84 = some ⟨4, true, 32, [.int .i64 0, .int .i64 0, .int .i64 0, .int .i64 0], .st [(0, 2, 1), (1, 2, 1), (2, 2, 1), (3, 2, 1)]⟩ := by kernel_rfl
@[go_sem] theorem bPR : iT Tryz.prog 90 = some ⟨1, false, 8, [.int .u64 0], .int .u64⟩ := by kernel_rfl
@[go_sem] theorem bPS : iT Tryz.prog 92 = some ⟨3, true, 40, [.bI, .int .i64 0, .int .u64 0], .st [(0, 22, 1), (1, 3, 1), (2, 90, 1)]⟩ := by kernel_rfl
@[go_sem] theorem bPT : iT Tryz.prog 95 = some ⟨1, false, 8, [.kH], .ptr 26⟩ := by kernel_rfl
@[go_sem] theorem bPU : iT Tryz.prog 97 = some ⟨4, true, 32, [.kH, .kH, .int .i64 0, .bool false], .st [(0, 58, 1), (1, 95, 1), (2, 2, 1), (3, 4, 1)]⟩ := by kernel_rfl
@[go_sem] theorem bPV : iT Tryz.prog 99 = some ⟨5, true, 56, [.int .i64 0, .int .i64 0, .int .i64 0, .int .i64 0, .bI], .st [(0, 2, 1), (1, 2, 1), (2, 2, 1), (3, 2, 1), (4, 52, 1)]⟩ := by kernel_rfl
@[go_sem] theorem bOF : iT Tryz.prog 107 = some ⟨2, true, 16, [.int .i64 0, .bool false], .st [(0, 2, 1), (1, 4, 1)]⟩ := by kernel_rfl
@[go_sem] theorem bOG : iT Tryz.prog 108 = some ⟨1, false, 24, [.bI], .slice 4⟩ := by kernel_rfl
@[go_sem] theorem bOH : iT Tryz.prog 130 = some ⟨1, false, 24, [.bI], .slice 9⟩ := by kernel_rfl
@[go_sem] theorem bOI : iT Tryz.prog 142 = some ⟨4, true, 32, [.kH, .int .i64 0, .int .i64 0, .int .i64 0], .st [(0, 95, 1), (1, 3, 1), (2, 2, 1), (3, 2, 1)]⟩ := by kernel_rfl
@[go_sem] theorem bOJ : iT Tryz.prog 147 = some ⟨6, true, 112, [.kH, .int .i64 0, .bI, .bI, .bI, .bI], .st [(0, 95, 1), (1, 49, 4), (5, 27, 1)]⟩ := by kernel_rfl
@[go_sem] theorem bOK : iT Tryz.prog 151 = some ⟨4, true, 48, [.bI, .int .i64 0, .int .i64 0, .int .i64 0], .st [(0, 26, 1), (1, 3, 1), (2, 2, 1), (3, 2, 1)]⟩ := by kernel_rfl
@[go_sem] theorem bOL : iT Tryz.prog 180 = some ⟨2, true, 32, [.bI, .int .i64 0], .st [(0, 26, 1), (1, 2, 1)]⟩ := by kernel_rfl
theorem mix : Tryz.prog.follows .mixedOrders = true := by kernel_rfl
open Go.Proofs
set_option linter.unusedVariables false
set_option linter.unusedSimpArgs false
abbrev I (n : Int) : aD := .int .i64 n
abbrev ints (l : List Int) : aD := .sl 1 (l.map fun n => [I n]) false
abbrev eI {α : Type} (sz : Nat) (c : α → List aD) (l : List α) : aD := .sl sz (l.map c) false
def InI (n : Int) : Prop := -9223372036854775808 ≤ n ∧ n ≤ 9223372036854775807
def InB (n : Int) : Prop := 0 ≤ n ∧ n ≤ 255
def lft (left : Int) (n : Nat) : Int := if left - n < 0 then -1 else left - n
theorem aI9 (left : Int) (n : Nat) : (lft left n = -1 ∧ left - n < 0) ∨ (lft left n = left - n ∧ 0 ≤ left - n) := by
 unfold lft; split
 ·exact .inl ⟨rfl, by assumption⟩
 ·exact .inr ⟨rfl, by omega⟩
theorem a0W {left : Int} {n : Nat} (h : left - n < 0) : lft left n = -1 := if_pos h
theorem lD {α : Type} (s : α → Nat) (l : List α) (k : Nat) (h : k < l.length) : ((l.take (k + 1)).map s).sum = ((l.take k).map s).sum + s l[k] := by
 rw [List.take_succ_eq_append_getElem h, List.map_append, List.sum_append]; simp only [List.map_cons, List.map_nil, List.sum_cons, List.sum_nil, Nat.add_zero]
theorem tW {α : Type} (s : α → Nat) : ∀ (l : List α) (k : Nat), ((l.take k).map s).sum ≤ (l.map s).sum
 | [], k => by simp
 |a :: l, 0 => by simp
 |a :: l, k + 1 => by have := tW s l k; simp only [List.take_succ_cons, List.map_cons, List.sum_cons]; omega
theorem aKP {α : Type} (s : α → Nat) {l : List α} {x : α} (h : x ∈ l) : s x ≤ (l.map s).sum := by
 induction l with
 |nil => simp at h
 |cons a l ih =>
  simp only [List.map_cons, List.sum_cons]
  rcases List.mem_cons.1 h with rfl | h
  ·omega
  ·have := ih h; omega
theorem aL (h : aA) (n m : Nat) (o : cB) : aT h n o m = if m = n then some o else h m := rfl
theorem nH (l : List (List aD)) : e8 (l.map (List.map .v)) = l := by
 induction l with
 |nil => rfl
 |cons e l ih =>
  have : aC0 (e.map Cell.v) = e := by
   induction e with
   |nil => rfl
   |cons x e ih => simp only [List.map_cons, aC0, Cell.val, ih]
  simp only [e8, List.map_cons] at ih ⊢
  rw [ih, this]
theorem sK {h h' : aA} {n sz : Nat} (es : List (List aD)) (h0 : h n = none) (hl : (aT h n (.row sz (es.map (List.map .v)))).le h') (len : Nat) (e : len = es.length) : Shift (.os n sz 0 len) h' (.sl sz es false) h := by
 subst e
 refine (Shift.of (Sub.refl _) hl).trans ((Shift.fK (aG _ _ _) (by simp [gA])).trans ?_)
 have : aD.fK n (e8 (es.map (List.map .v))) (.os n sz 0 es.length) = .sl sz es false := by simp [aD.fK, nH]
 rw [this]
 exact cI ((aP h0).2 ((aP h0).2 (aA.le_refl h)))
theorem cH {α β : Type} {f : α → β} {l : List α} {k : Nat} (h : k < l.length) : (l.map f)[k]? = some (f l[k]) := by
 rw [List.getElem?_map, List.getElem?_eq_getElem h]; rfl
theorem j8 {α : Type} {P : α → Prop} {l : List α} {k : Nat} (h : k < l.length) (hp : ∀ x ∈ l.take k, P x) (he : P l[k]) : ∀ x ∈ l.take (k + 1), P x := by
 rw [List.take_succ_eq_append_getElem h]
 intro x hx
 rcases List.mem_append.1 hx with hx | hx
 ·exact hp x hx
 ·rw [List.mem_singleton.1 hx]; exact he
def idxOf {α : Type} (p : α → Bool) (l : List α) : Int := match l.findIdx? p with | some i => i | none => -1
theorem qJ {α : Type} {p : α → Bool} {l : List α} (h : ∀ x ∈ l, p x = false) : idxOf p l = -1 := by
 have : l.findIdx? p = none := List.findIdx?_eq_none_iff.2 h
 simp only [idxOf, this]
theorem qK {α : Type} {p : α → Bool} {l : List α} {k : Nat} (hk : k < l.length) (h : ∀ x ∈ l.take k, p x = false) (he : p l[k] = true) : idxOf p l = k := by
 have : l.findIdx? p = some k := by
  rw [List.findIdx?_eq_some_iff_getElem]
  refine ⟨hk, he, fun j hj => ?_⟩
  have := h l[j] (List.mem_take_iff_getElem.2 ⟨j, by omega, rfl⟩)
  simp [this]
 simp only [idxOf, this]
theorem nM {α : Type} {p : α → Bool} {l : List α} : decide (0 ≤ idxOf p l) = l.any p := by
 unfold idxOf
 cases h : l.findIdx? p with
 |none =>
  have := List.findIdx?_eq_none_iff.1 h
  simp only
  rw [Bool.eq_false_iff.2 (show l.any p ≠ true from ?_)]
  ·simp
  ·intro hx
   obtain ⟨x, hx, hp⟩ := List.any_eq_true.1 hx
   rw [this x hx] at hp; cases hp
 |some i =>
  obtain ⟨hi, hp, _⟩ := List.findIdx?_eq_some_iff_getElem.1 h
  have : l.any p = true := List.any_eq_true.2 ⟨_, List.getElem_mem hi, hp⟩
  rw [this]; simp
def kI (n : Int) : Prop := 0 ≤ n ∧ n ≤ 1000002
instance (n : Int) : Decidable (kI n) := inferInstanceAs (Decidable (0 ≤ n ∧ n ≤ 1000002))
def fG (l : List Int) : Prop := ∀ x ∈ l, kI x
instance (l : List Int) : Decidable (fG l) := inferInstanceAs (Decidable (∀ x ∈ l, kI x))
theorem aR3 {α : Type} {P : α → Prop} [DecidablePred P] {l : List α} [Decidable (∀ x ∈ l, P x)] : (!l.any fun x => !decide (P x)) = decide (∀ x ∈ l, P x) := by
 rw [Bool.eq_iff_iff]
 simp [List.any_eq_false]
inductive aB where
 |mk (aO : Int) (aX : Int) (cN : Int) (cA : Int) (aK : (List aB))
def aB.aO : aB → Int
 | .mk aO aX cN cA aK => aO
def aB.aX : aB → Int
 | .mk aO aX cN cA aK => aX
def aB.cN : aB → Int
 | .mk aO aX cN cA aK => cN
def aB.cA : aB → Int
 | .mk aO aX cN cA aK => cA
def aB.aK : aB → (List aB)
 | .mk aO aX cN cA aK => aK
mutual
def aB.c : aB → List aD
 | .mk aO aX cN cA aK => [(.int .i64 aO), (.int .i64 aX), (.int .i64 cN), (.int .i64 cA), .sl 5 (aB.cL aK) false]
def aB.cL : List aB → List (List aD)
 | [] => []
 |x :: l => x.c :: aB.cL l
end
mutual
def aB.s : aB → Nat
 | .mk aO aX cN cA aK => (aK.length + aB.sL aK)
def aB.sL : List aB → Nat
 | [] => 0
 |x :: l => x.s + aB.sL l
end
theorem aB.aWO : ∀ l, aB.cL l = l.map aB.c
 | [] => rfl
 |x :: l => by simp only [aB.cL, List.map_cons, aB.aWO l]
theorem aB.aWP : ∀ l, aB.sL l = (l.map aB.s).sum
 | [] => rfl
 |x :: l => by simp only [aB.sL, List.map_cons, List.sum_cons, aB.aWP l]
theorem aB.aR (x : aB) : x.c = [(.int .i64 x.aO), (.int .i64 x.aX), (.int .i64 x.cN), (.int .i64 x.cA), (eI 5 aB.c x.aK)] := by cases x; simp only [aB.c, aB.aWO, eI]; rfl
theorem aB.tA (x : aB) : x.s = (p7 aB.s x.aK) := by cases x; simp only [aB.s, aB.aWP, p7]; rfl
theorem aB.aDF {x y : aB} (h : y ∈ x.aK) : SizeOf.sizeOf y < SizeOf.sizeOf x := by
 cases x
 have := List.sizeOf_lt_of_mem h
 simp only [aB.aK] at this
 simp only [aB.mk.sizeOf_spec]; omega
@[simp] theorem aB.aJA (x : aB) : x.c.length = 5 := by rw [aB.aR]; rfl
inductive aB.wf : aB → Prop
 |mk (x : aB) (h0 : InI x.aO) (h1 : InI x.aX) (h2 : InI x.cN) (h3 : InI x.cA) (hk : ∀ y ∈ x.aK, y.wf) : x.wf
noncomputable instance : DecidableEq aB := fun a b => Classical.propDecidable (a = b)
structure aS where
 j5 : (List UInt8)
 aZ : Int
 aW : (List aB)
def aS.c (x : aS) : List aD := [(.str x.j5), (.int .i64 x.aZ), (eI 5 aB.c x.aW)]
def aS.s (x : aS) : Nat := x.j5.length + (p7 aB.s x.aW)
theorem aS.aR (x : aS) : x.c = [(.str x.j5), (.int .i64 x.aZ), (eI 5 aB.c x.aW)] := rfl
theorem aS.tA (x : aS) : x.s = x.j5.length + (p7 aB.s x.aW) := rfl
@[simp] theorem aS.aJA (x : aS) : x.c.length = 3 := by rw [aS.aR]; rfl
def aS.wf (x : aS) : Prop := InI x.aZ ∧ (∀ y ∈ x.aW, y.wf)
noncomputable instance : DecidableEq aS := fun a b => Classical.propDecidable (a = b)
structure aE where
 aI : (List aS)
def aE.c (x : aE) : List aD := [(eI 3 aS.c x.aI)]
def aE.s (x : aE) : Nat := (p7 aS.s x.aI)
theorem aE.aR (x : aE) : x.c = [(eI 3 aS.c x.aI)] := rfl
theorem aE.tA (x : aE) : x.s = (p7 aS.s x.aI) := rfl
@[simp] theorem aE.aJA (x : aE) : x.c.length = 1 := by rw [aE.aR]; rfl
def aE.wf (x : aE) : Prop := (∀ y ∈ x.aI, y.wf)
noncomputable instance : DecidableEq aE := fun a b => Classical.propDecidable (a = b)
structure eU where
 aU : aE
 cO : Int
 bK : Int
 cJ : (List Int)
 cP : (List (List Int))
def eU.c (x : eU) : List aD := [(eI 3 aS.c x.aU.aI), (.int .i64 x.cO), (.int .i64 x.bK), (eI 1 (fun n => [I n]) x.cJ), (eI 1 (fun x => [eI 1 (fun n => [I n]) x]) x.cP)]
def eU.s (x : eU) : Nat := (aE.s x.aU) + x.cJ.length + (p7 (fun x : List Int => x.length) x.cP)
theorem eU.aR (x : eU) : x.c = [(eI 3 aS.c x.aU.aI), (.int .i64 x.cO), (.int .i64 x.bK), (eI 1 (fun n => [I n]) x.cJ), (eI 1 (fun x => [eI 1 (fun n => [I n]) x]) x.cP)] := rfl
theorem eU.tA (x : eU) : x.s = (aE.s x.aU) + x.cJ.length + (p7 (fun x : List Int => x.length) x.cP) := rfl
@[simp] theorem eU.aJA (x : eU) : x.c.length = 5 := by rw [eU.aR]; rfl
def eU.wf (x : eU) : Prop := x.aU.wf ∧ InI x.cO ∧ InI x.bK ∧ (∀ y ∈ x.cJ, InI y) ∧ (∀ y ∈ x.cP, (∀ y' ∈ y, InI y'))
noncomputable instance : DecidableEq eU := fun a b => Classical.propDecidable (a = b)
structure lI where
 b7 : Int
 aAO : Int
 vH : (List Int)
def lI.c (x : lI) : List aD := [(.int .i64 x.b7), (.int .i64 x.aAO), (eI 1 (fun n => [I n]) x.vH)]
def lI.s (x : lI) : Nat := x.vH.length
theorem lI.aR (x : lI) : x.c = [(.int .i64 x.b7), (.int .i64 x.aAO), (eI 1 (fun n => [I n]) x.vH)] := rfl
theorem lI.tA (x : lI) : x.s = x.vH.length := rfl
@[simp] theorem lI.aJA (x : lI) : x.c.length = 3 := by rw [lI.aR]; rfl
def lI.wf (x : lI) : Prop := InI x.b7 ∧ InI x.aAO ∧ (∀ y ∈ x.vH, InI y)
noncomputable instance : DecidableEq lI := fun a b => Classical.propDecidable (a = b)
open Go.Proofs
set_option linter.unusedVariables false
set_option linter.unusedSimpArgs false
open Go.Proofs
set_option linter.unusedVariables false
set_option linter.unusedSimpArgs false
open Go.Proofs
set_option linter.unusedVariables false
set_option linter.unusedSimpArgs false
set_option maxRecDepth 100000
open Go.Proofs
set_option linter.unusedVariables false
set_option linter.unusedSimpArgs false
@[go_sem] def a7G : List Nat := [0, 1, 2, 6]
@[go_sem] def bKG : List Nat := []
@[go_sem] def bKH : Marks := fun _ => ([], .nil, [])
theorem fI (n a b : Int) : gV Tryz.prog 58 [I n, I a, I b] (.bool (decide (a ≤ n ∧ n ≤ b))) := by
 refine gD 15 a7G bKG bKH mix Tryz.func58 rfl (by kernel_rfl) (by simp) fun h => ?_
 simp -dsimp -implicitDefEqProofs only [go_sem, ↓reduceIte, Tryz.f58]
 repeat' (with_reducible first | intro _ | refine And.intro ?_ ?_)
 all_goals try (first | (simp [*]; done) | omega | grind)
@[go_sem] def a7H : List Nat := [0, 1, 2, 6]
@[go_sem] def bKI : List Nat := []
@[go_sem] def bKJ : Marks := fun _ => ([], .nil, [])
theorem within (n a b : Int) : gV Tryz.prog 37 [I n, I a, I b] (.bool (decide (a ≤ n ∧ n ≤ b))) := by
 refine gD 15 a7H bKI bKJ mix Tryz.func37 rfl (by kernel_rfl) (by simp) fun h => ?_
 simp -dsimp -implicitDefEqProofs only [go_sem, ↓reduceIte, Tryz.f37]
 repeat' (with_reducible first | intro _ | refine And.intro ?_ ?_)
 all_goals try (first | (simp [*]; done) | omega | grind)
@[go_sem] def a7I : List Nat := [0, 2]
@[go_sem] def bKK : List Nat := []
@[go_sem] def bKL : Marks := fun _ => ([], .nil, [])
theorem pB (n : Int) : gV Tryz.prog 88 [I n] (.bool (decide (kI n))) := by
 refine gD 5 a7I bKK bKL mix Tryz.func88 rfl (by kernel_rfl) (by simp) fun h => ?_
 simp -dsimp -implicitDefEqProofs only [go_sem, ↓reduceIte, Tryz.f88]
 first | refine aH.mk (fI n 0 1000002) ?_ | refine aF.mk (fI n 0 1000002) ?_ | refine aH.bY (fI n 0 1000002) ?_ | refine aF.mk (bQ.fJ (fI n 0 1000002)) ?_
 simp -dsimp -implicitDefEqProofs only [go_sem, ↓reduceIte, Tryz.f88]
 all_goals rfl
@[go_sem] def a7J : List Nat := [0, 2]
@[go_sem] def bKM : List Nat := []
@[go_sem] def bKN : Marks := fun _ => ([], .nil, [])
theorem qY (n : Int) : gV Tryz.prog 54 [I n] (.bool (decide (kI n))) := by
 refine gD 5 a7J bKM bKN mix Tryz.func54 rfl (by kernel_rfl) (by simp) fun h => ?_
 simp -dsimp -implicitDefEqProofs only [go_sem, ↓reduceIte, Tryz.f54]
 first | refine aH.mk (within n 0 1000002) ?_ | refine aF.mk (within n 0 1000002) ?_ | refine aH.bY (within n 0 1000002) ?_ | refine aF.mk (bQ.fJ (within n 0 1000002)) ?_
 simp -dsimp -implicitDefEqProofs only [go_sem, ↓reduceIte, Tryz.f54]
 all_goals rfl
@[go_sem] def aWQ : List Nat := [0, 2, 3, 7, 15]
@[go_sem] def bDQ : List Nat := []
@[go_sem] def bDR : Marks := fun _ => ([], .nil, [])
theorem jO (l : List Int) : gV Tryz.prog 59 [eI 1 (fun n => [I n]) l] (.bool (decide (fG l))) := by
 refine gD 16 aWQ bDQ bDR mix Tryz.func59 rfl (by kernel_rfl) (by simp) fun h => ?_
 simp -dsimp -implicitDefEqProofs only [go_sem, ↓reduceIte, Tryz.f59]
 refine dA (keep := aWQ) (ib := bDQ) (mk := bDR) mix (by kernel_rfl) (fun k : Nat => [(0, eI 1 (fun n => [I n]) l), (3, I k)]) (fun _ => h) (fun k => k ≤ (l).length ∧ ∀ x ∈ (l).take k, kI x) (fun k => (l).length - k) 0 (by simp [dF, b6, aA.le_refl]) ?_
 intro k ⟨hk, hp⟩
 rcases Nat.lt_or_ge k (l).length with hlt | hge
 ·have ea : (l)[k]? = some (l)[k] := List.getElem?_eq_getElem hlt
  simp -dsimp -implicitDefEqProofs only [go_sem, ↓reduceIte, Tryz.f59, ea]
  repeat' (with_reducible first | intro _ | refine And.intro ?_ ?_)
  all_goals try omega
  first | refine aH.mk (pB l[k]) ?_ | refine aF.mk (pB l[k]) ?_ | refine aH.bY (pB l[k]) ?_ | refine aF.mk (bQ.fJ (pB l[k])) ?_
  simp -dsimp -implicitDefEqProofs only [go_sem, ↓reduceIte, Tryz.f59]
  repeat' (with_reducible first | intro _ | refine And.intro ?_ ?_)
  ·rename_i he
   exact (decide_eq_false fun e => he (e _ (List.getElem_mem hlt))).symm
  ·rename_i he
   refine ⟨k + 1, ?_⟩
   repeat' (with_reducible refine And.intro ?_ ?_)
   all_goals try (rw [IntWalk.i64_in _ (by omega)]; first | rfl | omega)
   all_goals try omega
   all_goals try (repeat' (with_reducible first | exact aA.le_refl _ | refine (aP (by first | assumption | exact And.right (by assumption) | exact cW.2 (by assumption))).2 ?_))
   exact j8 hlt hp he
 ·have hk' : k = (l).length := by omega
  subst hk'
  rw [List.take_length] at hp
  simp -dsimp -implicitDefEqProofs only [go_sem, ↓reduceIte, Tryz.f59, Nat.lt_irrefl]
  intro _
  exact (decide_eq_true hp).symm
@[go_sem] def aWR : List Nat := [0, 1, 4, 5, 7, 8, 9, 16]
@[go_sem] def bDS : List Nat := []
@[go_sem] def bDT : Marks := fun _ => ([], .nil, [])
theorem aOC (a : List Int) (p : Int → Bool) (g : FuncId) (cap : List aD) {h0 : aA} (hc : ∀ x ∈ a, bQ Tryz.prog g ([(.int .i64 x)] ++ cap) (.bool (p x)) h0) : bQ Tryz.prog 84 [(eI 1 (fun n => [I n]) a), .fn (.func g) [] cap] (I (idxOf p a)) h0 := by
 refine aEL 19 aWR bDS bDT mix Tryz.func84 rfl (by kernel_rfl) (by simp) fun h hle => ?_
 simp -dsimp -implicitDefEqProofs only [go_sem, ↓reduceIte, Tryz.f84, Tryz.f84]
 intro _
 refine dA (keep := aWR) (ib := bDS) (mk := bDT) mix (by kernel_rfl) (fun k : Nat => [(0, (eI 1 (fun n => [I n]) a)), (1, .fn (.func g) [] cap), (7, I a.length), (8, I k)]) (fun _ => h) (fun k => k ≤ a.length ∧ ∀ x ∈ a.take k, p x = false) (fun k => a.length - k) 0 (by simp [dF, b6, aA.le_refl]) ?_
 intro k ⟨hk, hp⟩
 rcases Nat.lt_or_ge k a.length with hlt | hge
 ·have ea : a[k]? = some a[k] := List.getElem?_eq_getElem hlt
  simp -dsimp -implicitDefEqProofs only [go_sem, ↓reduceIte, Tryz.f84, Tryz.f84, ea]
  repeat' (with_reducible first | intro _ | refine And.intro ?_ ?_)
  all_goals try omega
  have hx := hc a[k] (List.getElem_mem hlt)
  refine aH.bY (hx.mono hle) ?_
  cases hpk : p a[k] with
  |true =>
   simp -dsimp -implicitDefEqProofs only [go_sem, ↓reduceIte, Tryz.f84, Tryz.f84]
   repeat' (with_reducible first | intro _ | refine And.intro ?_ ?_)
   all_goals first | exact (qK hlt hp hpk).symm | rfl | (rw [qK hlt hp hpk])
  |false =>
   simp -dsimp -implicitDefEqProofs only [go_sem, ↓reduceIte, Tryz.f84, Tryz.f84]
   refine ⟨k + 1, ?_⟩
   repeat' (with_reducible refine And.intro ?_ ?_)
   all_goals try (rw [IntWalk.i64_in _ (by omega)]; first | rfl | omega)
   all_goals try omega
   exact j8 (P := fun x => p x = false) hlt hp hpk
 ·have hk' : k = a.length := by omega
  subst hk'
  rw [List.take_length] at hp
  simp -dsimp -implicitDefEqProofs only [go_sem, ↓reduceIte, Tryz.f84, Tryz.f84, Nat.lt_irrefl]
  all_goals first | exact (qJ hp).symm | rw [qJ hp]
@[go_sem] def a7K : List Nat := [0, 1, 4]
@[go_sem] def bKO : List Nat := []
@[go_sem] def bKP : Marks := fun _ => ([], .nil, [])
theorem tX (a : List Int) (p : Int → Bool) (g : FuncId) (cap : List aD) {h0 : aA} (hc : ∀ x ∈ a, bQ Tryz.prog g ([(.int .i64 x)] ++ cap) (.bool (p x)) h0) : bQ Tryz.prog 52 [(eI 1 (fun n => [I n]) a), .fn (.func g) [] cap] (.bool (a.any p)) h0 := by
 refine aEL 9 a7K bKO bKP mix Tryz.func52 rfl (by kernel_rfl) (by simp) fun h hle => ?_
 simp -dsimp -implicitDefEqProofs only [go_sem, ↓reduceIte, Tryz.f52, Tryz.f52]
 refine aH.bY ((aOC a p g cap hc).mono hle) ?_
 simp -dsimp -implicitDefEqProofs only [go_sem, ↓reduceIte, Tryz.f52, Tryz.f52]
 all_goals first | done | exact nM | rw [nM]
@[go_sem] def a7L : List Nat := [0, 2]
@[go_sem] def bKQ : List Nat := []
@[go_sem] def bKR : Marks := fun _ => ([], .nil, [])
theorem tY (n : Int) : gV Tryz.prog 53 [I n] (.bool (!decide (kI n))) := by
 refine gD 6 a7L bKQ bKR mix Tryz.func53 rfl (by kernel_rfl) (by simp) fun h => ?_
 simp -dsimp -implicitDefEqProofs only [go_sem, ↓reduceIte, Tryz.f53]
 first | refine aH.mk (qY n) ?_ | refine aF.mk (qY n) ?_ | refine aH.bY (qY n) ?_ | refine aF.mk (bQ.fJ (qY n)) ?_
 simp -dsimp -implicitDefEqProofs only [go_sem, ↓reduceIte, Tryz.f53]
@[go_sem] def a7M : List Nat := [0, 1, 4]
@[go_sem] def bKS : List Nat := []
@[go_sem] def bKT : Marks := fun _ => ([], .nil, [])
theorem lE (l : List Int) (c : Int) : gV Tryz.prog 26 [eI 1 (fun n => [I n]) l, I c] (.bool (decide ((l.length : Int) = c ∧ fG l))) := by
 refine gD 14 a7M bKS bKT mix Tryz.func26 rfl (by kernel_rfl) (by simp) fun h => ?_
 simp -dsimp -implicitDefEqProofs only [go_sem, ↓reduceIte, Tryz.f26]
 repeat' (with_reducible first | intro _ | refine And.intro ?_ ?_)
 all_goals try (first | (simp [*]; done) | omega | grind)
 first | refine aH.mk (tX l (fun n => !decide (kI n)) 53 [] fun x _ => (tY x).a0T) ?_ | refine aF.mk (tX l (fun n => !decide (kI n)) 53 [] fun x _ => (tY x).a0T) ?_ | refine aH.bY (tX l (fun n => !decide (kI n)) 53 [] fun x _ => (tY x).a0T) ?_ | refine aF.mk (bQ.fJ (tX l (fun n => !decide (kI n)) 53 [] fun x _ => (tY x).a0T)) ?_
 simp -dsimp -implicitDefEqProofs only [go_sem, ↓reduceIte, Tryz.f26]
 rename_i e
 rw [aR3, decide_eq_decide]
 exact ⟨fun q => ⟨e, q⟩, fun q => q.2⟩
set_option maxRecDepth 100000
open Go.Proofs
set_option linter.unusedVariables false
set_option linter.unusedSimpArgs false
def Low (c : UInt8) : Prop := 97 ≤ c.toNat ∧ c.toNat ≤ 122
def Dig (c : UInt8) : Prop := 48 ≤ c.toNat ∧ c.toNat ≤ 57
instance (c : UInt8) : Decidable (Low c) := inferInstanceAs (Decidable (_ ∧ _))
instance (c : UInt8) : Decidable (Dig c) := inferInstanceAs (Decidable (_ ∧ _))
def aAP (s : List UInt8) : Prop := 1 ≤ s.length ∧ s.length ≤ 12 ∧ (∀ c, s[0]? = some c → Low c) ∧ ∀ c ∈ s, Low c ∨ Dig c
noncomputable instance (s : List UInt8) : Decidable (aAP s) := Classical.propDecidable _
theorem aJB {s : List UInt8} {k : Nat} {c : UInt8} (h : k < s.length) (ec : s[k] = c) (hp : ∀ x ∈ s.take k, Low x ∨ Dig x) (he : Low c ∨ Dig c) : ∀ x ∈ s.take (k + 1), Low x ∨ Dig x :=
 j8 (P := fun x => Low x ∨ Dig x) h hp (by rw [ec]; exact he)
theorem aOD {s : List UInt8} {k : Nat} {c : UInt8} (h : k < s.length) (ec : s[k] = c) (he : ¬ (Low c ∨ Dig c)) : false = decide (aAP s) :=
 (decide_eq_false fun e => he (ec ▸ e.2.2.2 _ (List.getElem_mem h))).symm
theorem aUG {s : List UInt8} {k : Nat} {c : UInt8} (h : k < s.length) (h0 : (k : Int) = 0) (ec : s[k] = c) (he : ¬ Low c) : false = decide (aAP s) :=
 (decide_eq_false fun e => he (e.2.2.1 c (by have : k = 0 := by omega
                                             subst this; rw [List.getElem?_eq_getElem h, ec]))).symm
@[go_sem] def aKQ : List Nat := [0, 2, 3, 17, 21, 45]
@[go_sem] def aWS : List Nat := []
@[go_sem] def aWT : Marks := fun _ => ([], .nil, [])
theorem wJ (s : List UInt8) : gV Tryz.prog 113 [.str s] (.bool (decide (aAP s))) := by
 cases s with
 |nil =>
  refine gD 46 aKQ aWS aWT mix Tryz.func113 rfl (by kernel_rfl) (by simp) fun h => ?_
  simp -dsimp -implicitDefEqProofs only [go_sem, ↓reduceIte, Tryz.f113]
  first | refine aH.mk (fI 0 1 12) ?_ | refine aF.mk (fI 0 1 12) ?_ | refine aH.bY (fI 0 1 12) ?_ | refine aF.mk (bQ.fJ (fI 0 1 12)) ?_
  simp -dsimp -implicitDefEqProofs only [go_sem, ↓reduceIte, Tryz.f113]
  repeat' (with_reducible first | intro _ | refine And.intro ?_ ?_)
  all_goals try (first | (simp [aAP, *]; done) | omega | (grind [aAP]) | (simp [aAP]; omega))
 |cons c t =>
  refine gD 46 aKQ aWS aWT mix Tryz.func113 rfl (by kernel_rfl) (by simp) fun h => ?_
  simp -dsimp -implicitDefEqProofs only [go_sem, ↓reduceIte, Tryz.f113, List.getElem?_cons_zero, Int.toNat_zero]
  intro _
  first | refine aH.mk (fI (c :: t).length 1 12) ?_ | refine aF.mk (fI (c :: t).length 1 12) ?_ | refine aH.bY (fI (c :: t).length 1 12) ?_ | refine aF.mk (bQ.fJ (fI (c :: t).length 1 12)) ?_
  simp -dsimp -implicitDefEqProofs only [go_sem, ↓reduceIte, Tryz.f113, List.getElem?_cons_zero, Int.toNat_zero]
  repeat' (with_reducible first | intro _ | refine And.intro ?_ ?_)
  all_goals try (first | (simp [aAP, Low, Dig, *]; done) | omega | (grind [aAP, Low, Dig]) | (simp [aAP, Low, Dig]; omega))
  rename_i h0 h1 h2 h3
  generalize hs : c :: t = s at *
  refine dA (keep := aKQ) (ib := aWS) (mk := aWT) mix (by kernel_rfl) (fun k : Nat => [(0, .str s), (3, I k)]) (fun _ => h) (fun k => k ≤ s.length ∧ ∀ x ∈ s.take k, Low x ∨ Dig x) (fun k => s.length - k) 0 (by simp [dF, b6, aA.le_refl]) ?_
  intro k ⟨hk, hp⟩
  rcases Nat.lt_or_ge k s.length with hlt | hge
  ·generalize ec : s[k] = d
   have ea : s[k]? = some d := by rw [← ec]; exact List.getElem?_eq_getElem hlt
   simp -dsimp -implicitDefEqProofs only [go_sem, ↓reduceIte, Tryz.f113, ea, Int.toNat_natCast]
   repeat' (with_reducible first | intro _ | refine And.intro ?_ ?_)
   all_goals try omega
   all_goals try exact aOD hlt ec (by simp only [Low, Dig]; omega)
   all_goals
    refine ⟨k + 1, ?_⟩
    repeat' (with_reducible refine And.intro ?_ ?_)
    all_goals try (rw [IntWalk.i64_in _ (by omega)]; first | rfl | omega)
    all_goals try omega
    all_goals try (repeat' (with_reducible first | exact aA.le_refl _ | refine (aP (by first | assumption | exact And.right (by assumption) | exact cW.2 (by assumption))).2 ?_))
    exact aJB hlt ec hp (by simp only [Low, Dig]; omega)
  ·have hk' : k = s.length := by omega
   subst hk'
   rw [List.take_length] at hp
   simp -dsimp -implicitDefEqProofs only [go_sem, ↓reduceIte, Tryz.f113, Nat.lt_irrefl]
   have : s.length = t.length + 1 := by rw [← hs]; rfl
   exact fun _ => (decide_eq_true ⟨by omega, by omega, fun x hx => by rw [← hs] at hx; simp at hx; subst hx; simp only [Low]; omega, hp⟩).symm
@[go_sem] def aWU : List Nat := [0, 2, 3, 5, 6, 7, 34]
@[go_sem] def bDU : List Nat := []
@[go_sem] def bDV : Marks := fun _ => ([], .nil, [])
theorem aKR (s : List UInt8) : gV Tryz.prog 98 [.str s] (.bool (decide (aAP s))) := by
 refine gD 44 aWU bDU bDV mix Tryz.func98 rfl (by kernel_rfl) (by simp) fun h => ?_
 simp -dsimp -implicitDefEqProofs only [go_sem, ↓reduceIte, Tryz.f98]
 repeat' (with_reducible first | intro _ | refine And.intro ?_ ?_)
 refine dA (keep := aWU) (ib := bDU) (mk := bDV) mix (by kernel_rfl) (fun k : Nat => [(0, .str s), (5, I s.length), (6, I k)]) (fun _ => h) (fun k => k ≤ s.length ∧ (∀ x ∈ s.take k, Low x ∨ Dig x) ∧ (0 < k → ∀ c, s[0]? = some c → Low c)) (fun k => s.length - k) 0 (by simp [dF, b6, aA.le_refl]) ?_
 intro k ⟨hk, hp, hz⟩
 rcases Nat.lt_or_ge k s.length with hlt | hge
 ·generalize ec : s[k] = d
  have ea : s[k]? = some d := by rw [← ec]; exact List.getElem?_eq_getElem hlt
  have hz' : Low d ∨ ¬ ((k : Int) = 0) → ∀ c, s[0]? = some c → Low c := by
   intro q c hc
   by_cases h0 : k = 0
   ·subst h0
    rw [ea] at hc
    obtain rfl := Option.some.inj hc
    exact q.resolve_right (by simp)
   ·exact hz (by omega) c hc
  simp -dsimp -implicitDefEqProofs only [go_sem, ↓reduceIte, Tryz.f98, ea, Int.toNat_natCast]
  repeat' (with_reducible first | intro _ | refine And.intro ?_ ?_)
  all_goals try omega
  all_goals try exact aOD hlt ec (by simp only [Low, Dig]; omega)
  all_goals try exact aUG hlt (by omega) ec (by simp only [Low]; omega)
  all_goals
   refine ⟨k + 1, ?_⟩
   repeat' (with_reducible refine And.intro ?_ ?_)
   all_goals try (rw [IntWalk.i64_in _ (by omega)]; first | rfl | omega)
   all_goals try omega
   all_goals try (repeat' (with_reducible first | exact aA.le_refl _ | refine (aP (by first | assumption | exact And.right (by assumption) | exact cW.2 (by assumption))).2 ?_))
   all_goals first | exact aJB hlt ec hp (by simp only [Low, Dig]; omega) | exact fun _ => hz' (by simp only [Low]; omega)
 ·have hk' : k = s.length := by omega
  subst hk'
  rw [List.take_length] at hp
  simp -dsimp -implicitDefEqProofs only [go_sem, ↓reduceIte, Tryz.f98, Nat.lt_irrefl]
  repeat' (with_reducible first | intro _ | refine And.intro ?_ ?_)
  all_goals simp only [aAP, decide_eq_decide, eq_comm (a := false), decide_eq_false_iff_not]
  all_goals grind
set_option maxRecDepth 100000
open Go.Proofs
set_option linter.unusedVariables false
set_option linter.unusedSimpArgs false
mutual
def aB.d : aB → Nat
 | .mk _ _ _ _ kids => aB.dL kids + 1
def aB.dL : List aB → Nat
 | [] => 0
 |x :: l => max x.d (aB.dL l)
end
theorem aB.aWV (x : aB) : x.d = aB.dL x.aK + 1 := by cases x; rfl
theorem aB.aKS : ∀ {l : List aB} {k : Nat} (h : k < l.length), aB.dL (l.take (k + 1)) = max (aB.dL (l.take k)) l[k].d
 |x :: l, 0, _ => by simp [aB.dL]
 |x :: l, k + 1, h => by
  have := aB.aKS (l := l) (k := k) (by simpa using h)
  simp only [List.take_succ_cons, aB.dL, this, List.getElem_cons_succ]
  omega
mutual
theorem aB.a7N : ∀ x : aB, x.d ≤ x.s + 1
 | .mk _ _ _ _ kids => by
  have := aB.a4W kids
  simp only [aB.d, aB.s]; omega
theorem aB.a4W : ∀ l : List aB, aB.dL l ≤ l.length + aB.sL l
 | [] => by simp [aB.dL]
 |x :: l => by
  have h1 := aB.a7N x
  have h2 := aB.a4W l
  simp only [aB.dL, aB.sL, List.length_cons]; omega
end
theorem aB.aBM {x y : aB} (h : y ∈ x.aK) : y.s < x.s := by
 have h1 := aKP aB.s h
 have h2 := List.length_pos_of_mem h
 rw [x.tA, lC]; omega
theorem aB.aWW (x : aB) {k : Nat} (h : k < x.aK.length) : k + ((x.aK.take k).map aB.s).sum + x.aK[k].s + 1 ≤ x.s := by
 have h1 := lD aB.s x.aK k h
 have h2 := tW aB.s x.aK (k + 1)
 rw [x.tA, lC]; omega
theorem aB.a4X (x : aB) : x.aK.length + ((x.aK.take x.aK.length).map aB.s).sum = x.s := by
 rw [List.take_length, x.tA, lC]
@[go_sem] def aR4 : List Nat := [0, 1, 2, 3, 5, 7, 8, 9, 10]
@[go_sem] def a4Y : List Nat := [1]
@[go_sem] def a4Z : Marks := fun _ => ([], .nil, [])
theorem aIN (x : aB) (hs : x.s ≤ 4294967296) (hc : ∀ y ∈ x.aK, gV Tryz.prog 102 [.agg y.c] (I ((y.s : Int) + 1))) : gV Tryz.prog 102 [.agg x.c] (I ((x.s : Int) + 1)) := by
 have hx := x.a4X
 rw [aB.aR x]
 refine gD 19 aR4 a4Y a4Z mix Tryz.func102 rfl (by kernel_rfl) (by simp) fun h => ?_
 simp -dsimp -implicitDefEqProofs only [go_sem, ↓reduceIte, Tryz.f102]
 repeat' (with_reducible first | intro _ | refine And.intro ?_ ?_)
 refine dA (keep := aR4) (ib := a4Y) (mk := a4Z) mix (by kernel_rfl) (fun k : Nat => [(1, .ip 5 [x.c] 0 0), (3, I (1 + k + (((x.aK.take k).map aB.s).sum : Int))), (7, eI 5 aB.c x.aK), (8, I x.aK.length), (9, I k)]) (fun _ => h) (fun k => k ≤ x.aK.length) (fun k => x.aK.length - k) 0 (by simp [dF, b6, aA.le_refl, aB.aR]) ?_
 intro k hk
 rcases Nat.lt_or_ge k x.aK.length with hlt | hge
 ·have ea : x.aK[k]? = some x.aK[k] := List.getElem?_eq_getElem hlt
  have hp := x.aWW hlt
  have h1 := lD aB.s x.aK k hlt
  have hcy := hc x.aK[k] (List.getElem_mem hlt)
  simp only [aB.aR] at hcy
  simp -dsimp -implicitDefEqProofs only [go_sem, ↓reduceIte, Tryz.f102, ea, aB.aR, aM]
  repeat' (with_reducible first | intro _ | refine And.intro ?_ ?_)
  all_goals try omega
  first | refine aH.mk (hcy) ?_ | refine aF.mk (hcy) ?_ | refine aH.bY (hcy) ?_ | refine aF.mk (bQ.fJ (hcy)) ?_
  simp -dsimp -implicitDefEqProofs only [go_sem, ↓reduceIte, Tryz.f102]
  rename_i n hn
  refine ⟨k + 1, ?_⟩
  repeat' (with_reducible refine And.intro ?_ ?_)
  all_goals try (rw [IntWalk.i64_in _ (by omega)]; first | rfl | omega)
  all_goals try omega
  all_goals try (repeat' (with_reducible first | exact aA.le_refl _ | refine (aP (by first | assumption | exact And.right (by assumption) | exact cW.2 (by assumption))).2 ?_))
  all_goals try (simp only [aB.aR]; done)
 ·have hk' : k = x.aK.length := by omega
  subst hk'
  simp -dsimp -implicitDefEqProofs only [go_sem, ↓reduceIte, Tryz.f102, Nat.lt_irrefl]
  omega
theorem aGW (x : aB) (hs : x.s ≤ 4294967296) : gV Tryz.prog 102 [.agg x.c] (I ((x.s : Int) + 1)) :=
 aIN x hs fun y hy => aGW y (by have := aB.aBM hy; omega)
termination_by SizeOf.sizeOf x
decreasing_by exact aB.aDF hy
@[go_sem] def aR5 : List Nat := [0, 1, 2, 3, 5, 7, 8, 9, 10]
@[go_sem] def a40 : List Nat := [1]
@[go_sem] def a41 : Marks := fun _ => ([], .nil, [])
theorem aGX (x : aB) (hs : x.s ≤ 4294967296) (hc : ∀ y ∈ x.aK, gV Tryz.prog 125 [.agg y.c] (I (y.d : Int))) : gV Tryz.prog 125 [.agg x.c] (I (x.d : Int)) := by
 have hd := x.a7N
 rw [aB.aWV] at hd ⊢
 rw [aB.aR x]
 refine gD 20 aR5 a40 a41 mix Tryz.func125 rfl (by kernel_rfl) (by simp) fun h => ?_
 simp -dsimp -implicitDefEqProofs only [go_sem, ↓reduceIte, Tryz.f125]
 repeat' (with_reducible first | intro _ | refine And.intro ?_ ?_)
 refine dA (keep := aR5) (ib := a40) (mk := a41) mix (by kernel_rfl) (fun k : Nat => [(1, .ip 5 [x.c] 0 0), (3, I (aB.dL (x.aK.take k) : Int)), (7, eI 5 aB.c x.aK), (8, I x.aK.length), (9, I k)]) (fun _ => h) (fun k => k ≤ x.aK.length) (fun k => x.aK.length - k) 0 (by simp [dF, b6, aA.le_refl, aB.aR, aB.dL]) ?_
 intro k hk
 rcases Nat.lt_or_ge k x.aK.length with hlt | hge
 ·have ea : x.aK[k]? = some x.aK[k] := List.getElem?_eq_getElem hlt
  have h1 := aB.aKS hlt
  have hcy := hc x.aK[k] (List.getElem_mem hlt)
  simp only [aB.aR] at hcy
  simp -dsimp -implicitDefEqProofs only [go_sem, ↓reduceIte, Tryz.f125, ea, aB.aR, aM]
  repeat' (with_reducible first | intro _ | refine And.intro ?_ ?_)
  all_goals try omega
  first | refine aH.mk (hcy) ?_ | refine aF.mk (hcy) ?_ | refine aH.bY (hcy) ?_ | refine aF.mk (bQ.fJ (hcy)) ?_
  simp -dsimp -implicitDefEqProofs only [go_sem, ↓reduceIte, Tryz.f125]
  repeat' (with_reducible first | intro _ | refine And.intro ?_ ?_)
  all_goals try rfl
  rename_i n hn
  refine ⟨k + 1, ?_⟩
  repeat' (with_reducible refine And.intro ?_ ?_)
  all_goals try (rw [IntWalk.i64_in _ (by omega)]; first | rfl | omega)
  all_goals try omega
  all_goals try (repeat' (with_reducible first | exact aA.le_refl _ | refine (aP (by first | assumption | exact And.right (by assumption) | exact cW.2 (by assumption))).2 ?_))
  all_goals try (simp only [aB.aR]; done)
 ·have hk' : k = x.aK.length := by omega
  subst hk'
  simp -dsimp -implicitDefEqProofs only [go_sem, ↓reduceIte, Tryz.f125, Nat.lt_irrefl]
  rw [List.take_length, IntWalk.i64_in _ (by omega)]; omega
theorem aJC (x : aB) (hs : x.s ≤ 4294967296) : gV Tryz.prog 125 [.agg x.c] (I (x.d : Int)) :=
 aGX x hs fun y hy => aJC y (by have := aB.aBM hy; omega)
termination_by SizeOf.sizeOf x
decreasing_by exact aB.aDF hy
@[go_sem] def aR6 : List Nat := [0, 1, 4, 5, 18]
@[go_sem] def a42 : List Nat := []
@[go_sem] def a43 : Marks := fun _ => ([], .nil, [])
theorem aKT (x : aB) (left : Int) (h0 : 0 ≤ left) (h9 : left ≤ 4294967296) (hs : x.s ≤ 4294967296) (hc : ∀ y ∈ x.aK, ∀ left : Int, 0 ≤ left → left ≤ 4294967296 → gV Tryz.prog 114 [.ip 5 [y.c] 0 0, I left] (I (lft left (y.s + 1)))) : gV Tryz.prog 114 [.ip 5 [x.c] 0 0, I left] (I (lft left (x.s + 1))) := by
 have hx := x.a4X
 rw [aB.aR x]
 refine gD 30 aR6 a42 a43 mix Tryz.func114 rfl (by kernel_rfl) (by simp) fun h => ?_
 simp -dsimp -implicitDefEqProofs only [go_sem, ↓reduceIte, Tryz.f114]
 repeat' (with_reducible first | intro _ | refine And.intro ?_ ?_)
 refine dA (keep := aR6) (ib := a42) (mk := a43) mix (by kernel_rfl) (fun k : Nat => [(0, .ip 5 [x.c] 0 0), (1, I (lft left (1 + k + ((x.aK.take k).map aB.s).sum))), (5, I k)]) (fun _ => h) (fun k => k ≤ x.aK.length) (fun k => x.aK.length - k) 0 (by simp [dF, b6, aA.le_refl, aB.aR]; rw [IntWalk.i64_in _ (by omega)]; unfold lft; split <;> omega) ?_
 intro k hk
 rcases Nat.lt_or_ge k x.aK.length with hlt | hge
 ·have hp := x.aWW hlt
  have h1 := lD aB.s x.aK k hlt
  rcases aI9 left (1 + k + ((x.aK.take k).map aB.s).sum) with ⟨e, hl⟩ | ⟨e, hl⟩
  ·rw [e, aB.aR x]
   simp -dsimp -implicitDefEqProofs only [go_sem, ↓reduceIte, Tryz.f114]
   repeat' (with_reducible first | intro _ | refine And.intro ?_ ?_)
   all_goals try omega
   exact (a0W (by omega)).symm
  ·rw [e, aB.aR x]
   simp -dsimp -implicitDefEqProofs only [go_sem, ↓reduceIte, Tryz.f114]
   repeat' (with_reducible first | intro _ | refine And.intro ?_ ?_)
   all_goals try omega
   first | refine aF.mk ((hc x.aK[k] (List.getElem_mem hlt) _ hl (by omega)).sub (by repeat' (first | exact fN.nil | refine fN.cons ?_ ?_ | exact Sub.refl _ | (rw [aB.aR]; exact Sub.refl _) | exact Sub.fP rfl rfl rfl | exact Sub.ip (cH (by omega)) (by simp) | exact Sub.fP (cH (by omega)) rfl rfl | exact Sub.ip (by simp [*]) (by simp) | exact Sub.fP (by simp [*]) (by rfl) (by rfl)))) ?_ | refine aH.mk ((hc x.aK[k] (List.getElem_mem hlt) _ hl (by omega)).sub (by repeat' (first | exact fN.nil | refine fN.cons ?_ ?_ | exact Sub.refl _ | (rw [aB.aR]; exact Sub.refl _) | exact Sub.fP rfl rfl rfl | exact Sub.ip (cH (by omega)) (by simp) | exact Sub.fP (cH (by omega)) rfl rfl | exact Sub.ip (by simp [*]) (by simp) | exact Sub.fP (by simp [*]) (by rfl) (by rfl)))) ?_
   simp -dsimp -implicitDefEqProofs only [go_sem, ↓reduceIte, Tryz.f114]
   refine ⟨k + 1, ?_⟩
   repeat' (with_reducible refine And.intro ?_ ?_)
   all_goals try (rw [IntWalk.i64_in _ (by omega)]; first | rfl | omega)
   all_goals try omega
   all_goals try (repeat' (with_reducible first | exact aA.le_refl _ | refine (aP (by first | assumption | exact And.right (by assumption) | exact cW.2 (by assumption))).2 ?_))
   all_goals try (simp only [aB.aR]; done)
   all_goals (rw [h1]; unfold lft; split <;> split <;> omega)
 ·have hk' : k = x.aK.length := by omega
  subst hk'
  rw [aB.aR x]
  simp -dsimp -implicitDefEqProofs only [go_sem, ↓reduceIte, Tryz.f114, Nat.lt_irrefl]
  rw [show 1 + x.aK.length + ((x.aK.take x.aK.length).map aB.s).sum = x.s + 1 by omega]
  exact fun _ => rfl
theorem aBN (x : aB) (left : Int) (h0 : 0 ≤ left) (h9 : left ≤ 4294967296) (hs : x.s ≤ 4294967296) : gV Tryz.prog 114 [.ip 5 [x.c] 0 0, I left] (I (lft left (x.s + 1))) :=
 aKT x left h0 h9 hs fun y hy left h0 h9 => aBN y left h0 h9 (by have := aB.aBM hy; omega)
termination_by SizeOf.sizeOf x
decreasing_by exact aB.aDF hy
@[go_sem] def a0X : List Nat := [0, 1, 4, 7]
@[go_sem] def bDW : List Nat := []
@[go_sem] def bDX : Marks := fun _ => ([], .nil, [])
theorem aKU (a b : Int) : gV Tryz.prog 156 [I a, I b] (I (max a b)) := by
 refine gD 10 a0X bDW bDX mix Tryz.func156 rfl (by kernel_rfl) (by simp) fun h => ?_
 simp -dsimp -implicitDefEqProofs only [go_sem, ↓reduceIte, Tryz.f156]
 repeat' (with_reducible first | intro _ | refine And.intro ?_ ?_)
 all_goals omega
@[go_sem] def aR7 : List Nat := [0, 2, 3, 4, 11]
@[go_sem] def a44 : List Nat := []
@[go_sem] def a45 : Marks := fun _ => ([], .nil, [])
theorem aIO (x : aB) (hs : x.s ≤ 4294967296) (hc : ∀ y ∈ x.aK, gV Tryz.prog 132 [.ip 5 [y.c] 0 0] (I (y.d : Int))) : gV Tryz.prog 132 [.ip 5 [x.c] 0 0] (I (x.d : Int)) := by
 have hd := x.a7N
 rw [aB.aWV] at hd ⊢
 rw [aB.aR x]
 refine gD 25 aR7 a44 a45 mix Tryz.func132 rfl (by kernel_rfl) (by simp) fun h => ?_
 simp -dsimp -implicitDefEqProofs only [go_sem, ↓reduceIte, Tryz.f132]
 repeat' (with_reducible first | intro _ | refine And.intro ?_ ?_)
 refine dA (keep := aR7) (ib := a44) (mk := a45) mix (by kernel_rfl) (fun k : Nat => [(0, .ip 5 [x.c] 0 0), (3, I (aB.dL (x.aK.take k) : Int)), (4, I k)]) (fun _ => h) (fun k => k ≤ x.aK.length) (fun k => x.aK.length - k) 0 (by simp [dF, b6, aA.le_refl, aB.aR, aB.dL]) ?_
 intro k hk
 rw [aB.aR x]
 rcases Nat.lt_or_ge k x.aK.length with hlt | hge
 ·have h1 := aB.aKS hlt
  simp -dsimp -implicitDefEqProofs only [go_sem, ↓reduceIte, Tryz.f132]
  repeat' (with_reducible first | intro _ | refine And.intro ?_ ?_)
  all_goals try omega
  first | refine aF.mk ((hc x.aK[k] (List.getElem_mem hlt)).sub (by repeat' (first | exact fN.nil | refine fN.cons ?_ ?_ | exact Sub.refl _ | (rw [aB.aR]; exact Sub.refl _) | exact Sub.fP rfl rfl rfl | exact Sub.ip (cH (by omega)) (by simp) | exact Sub.fP (cH (by omega)) rfl rfl | exact Sub.ip (by simp [*]) (by simp) | exact Sub.fP (by simp [*]) (by rfl) (by rfl)))) ?_ | refine aH.mk ((hc x.aK[k] (List.getElem_mem hlt)).sub (by repeat' (first | exact fN.nil | refine fN.cons ?_ ?_ | exact Sub.refl _ | (rw [aB.aR]; exact Sub.refl _) | exact Sub.fP rfl rfl rfl | exact Sub.ip (cH (by omega)) (by simp) | exact Sub.fP (cH (by omega)) rfl rfl | exact Sub.ip (by simp [*]) (by simp) | exact Sub.fP (by simp [*]) (by rfl) (by rfl)))) ?_
  simp -dsimp -implicitDefEqProofs only [go_sem, ↓reduceIte, Tryz.f132]
  first | refine aH.mk (aKU _ _) ?_ | refine aF.mk (aKU _ _) ?_ | refine aH.bY (aKU _ _) ?_ | refine aF.mk (bQ.fJ (aKU _ _)) ?_
  simp -dsimp -implicitDefEqProofs only [go_sem, ↓reduceIte, Tryz.f132]
  refine ⟨k + 1, ?_⟩
  repeat' (with_reducible refine And.intro ?_ ?_)
  all_goals try (rw [IntWalk.i64_in _ (by omega)]; first | rfl | omega)
  all_goals try omega
  all_goals try (repeat' (with_reducible first | exact aA.le_refl _ | refine (aP (by first | assumption | exact And.right (by assumption) | exact cW.2 (by assumption))).2 ?_))
  all_goals try (simp only [aB.aR]; done)
 ·have hk' : k = x.aK.length := by omega
  subst hk'
  simp -dsimp -implicitDefEqProofs only [go_sem, ↓reduceIte, Tryz.f132, Nat.lt_irrefl]
  intro _
  rw [List.take_length, IntWalk.i64_in _ (by omega)]; omega
theorem aGY (x : aB) (hs : x.s ≤ 4294967296) : gV Tryz.prog 132 [.ip 5 [x.c] 0 0] (I (x.d : Int)) :=
 aIO x hs fun y hy => aGY y (by have := aB.aBM hy; omega)
termination_by SizeOf.sizeOf x
decreasing_by exact aB.aDF hy
set_option maxRecDepth 100000
open Go.Proofs
set_option linter.unusedVariables false
set_option linter.unusedSimpArgs false
def dN (k : Int) : Int := if k = 1 ∨ k = 2 then 0 else if k = 3 ∨ k = 4 ∨ k = 5 ∨ k = 6 ∨ k = 9 then 2 else if k = 7 then 1 else if k = 8 then 3 else -1
def l3 (p : aE) (e : aB) (vars funcs : Int) : Prop :=
 if e.aO = 10 ∨ e.aO = 11 then
  0 ≤ e.aX ∧ e.aX ≤ funcs - 1 ∧ ∀ f, p.aI[e.aX.toNat]? = some f →
   0 ≤ e.cN ∧ e.cN ≤ (f.aW.length : Int) - 1 ∧ (e.aK.length : Int) = f.aZ ∧ (e.aO = 10 → e.cA = 0) ∧ (e.aO = 11 → 0 ≤ e.cA ∧ e.cA ≤ 8 ∧ (f.aW.length : Int) = f.aZ)
 else dN e.aO = e.aK.length ∧ e.cN = 0 ∧ e.cA = 0 ∧ (e.aO = 1 → kI e.aX) ∧ (e.aO = 2 → 0 ≤ e.aX ∧ e.aX ≤ vars - 1) ∧ (e.aO ≠ 1 → e.aO ≠ 2 → e.aX = 0)
noncomputable instance (p : aE) (e : aB) (vars funcs : Int) : Decidable (l3 p e vars funcs) := Classical.propDecidable _
def iL (kind : Int) (i : Nat) (vars : Int) : Int := if kind = 9 ∧ i = 1 then vars + 1 else vars
mutual
def aB.ok (p : aE) (funcs : Int) : aB → Int → Prop
 | .mk a b c d kids, vars => l3 p (.mk a b c d kids) vars funcs ∧ aB.okL p funcs a kids 0 vars
def aB.okL (p : aE) (funcs : Int) (kind : Int) : List aB → Nat → Int → Prop
 | [], _, _ => True
 |x :: l, i, vars => x.ok p funcs (iL kind i vars) ∧ aB.okL p funcs kind l (i + 1) vars
end
noncomputable instance (p : aE) (funcs : Int) (e : aB) (vars : Int) : Decidable (e.ok p funcs vars) := Classical.propDecidable _
theorem aB.aR8 (p : aE) (funcs kind : Int) : ∀ (l : List aB) (i : Nat) (vars : Int), aB.okL p funcs kind l i vars ↔ ∀ (k : Nat) (h : k < l.length), l[k].ok p funcs (iL kind (i + k) vars)
 | [], i, vars => by simp [aB.okL]
 |x :: l, i, vars => by
  rw [aB.okL, aB.aR8 p funcs kind l (i + 1) vars]
  constructor
  ·rintro ⟨h1, h2⟩ k hk
   cases k with
   |zero => exact h1
   |succ k => have := h2 k (by simpa using hk); rw [show i + 1 + k = i + (k + 1) by omega] at this; exact this
  ·intro h
   refine ⟨h 0 (by simp), fun k hk => ?_⟩
   have := h (k + 1) (by simpa using hk)
   rw [show i + 1 + k = i + (k + 1) by omega]; exact this
theorem aB.cR (p : aE) (funcs : Int) (x : aB) (vars : Int) : x.ok p funcs vars ↔ l3 p x vars funcs ∧ ∀ (k : Nat) (h : k < x.aK.length), x.aK[k].ok p funcs (iL x.aO k vars) := by
 cases x with
 |mk a b c d kids =>
  rw [aB.ok, aB.aR8]
  simp only [Nat.zero_add, aB.aK, aB.aO]
theorem aE.aGZ (p : aE) : p.aI.length ≤ p.s := by rw [p.tA, lC]; omega
theorem aE.aG0 {p : aE} {f : aS} (h : f ∈ p.aI) : f.s + p.aI.length ≤ p.s := by
 have := aKP aS.s h
 rw [p.tA, lC]; omega
theorem aS.aG1 (f : aS) : f.aW.length ≤ f.s := by rw [f.tA, lC]; omega
theorem aS.a46 {f : aS} {e : aB} (h : e ∈ f.aW) : e.s < f.s := by
 have := aKP aB.s h
 have := List.length_pos_of_mem h
 rw [f.tA, lC]; omega
@[go_sem] def a7O : List Nat := [0, 2, 3, 4, 7, 13, 15]
@[go_sem] def bKU : List Nat := []
@[go_sem] def bKV : Marks := fun _ => ([], .nil, [])
theorem tZ (k : Int) : gV Tryz.prog 82 [I k] (I (dN k)) := by
 refine gD 17 a7O bKU bKV mix Tryz.func82 rfl (by kernel_rfl) (by simp) fun h => ?_
 simp -dsimp -implicitDefEqProofs only [go_sem, ↓reduceIte, Tryz.f82]
 repeat' (with_reducible first | intro _ | refine And.intro ?_ ?_)
 all_goals try (first | (simp [dN, *]; done) | omega | (grind [dN]) | (simp [dN]; omega))
theorem qZ {p : aE} {e : aB} {vars funcs : Int} (hk : e.aO = 10 ∨ e.aO = 11) {f : aS} (ef : p.aI[e.aX.toNat]? = some f) : l3 p e vars funcs ↔
  0 ≤ e.aX ∧ e.aX ≤ funcs - 1 ∧ 0 ≤ e.cN ∧ e.cN ≤ (f.aW.length : Int) - 1 ∧ (e.aK.length : Int) = f.aZ ∧ (e.aO = 10 → e.cA = 0) ∧ (e.aO = 11 → 0 ≤ e.cA ∧ e.cA ≤ 8 ∧ (f.aW.length : Int) = f.aZ) := by
 unfold l3
 rw [if_pos hk]
 simp [ef]
theorem aBO {p : aE} {e : aB} {vars funcs : Int} (hk : e.aO = 10 ∨ e.aO = 11) (hr : ¬ (0 ≤ e.aX ∧ e.aX ≤ funcs - 1)) : ¬ l3 p e vars funcs := by
 unfold l3
 rw [if_pos hk]
 intro h
 exact hr ⟨h.1, h.2.1⟩
theorem dQ {p : aE} {e : aB} {vars funcs : Int} (hk : ¬ (e.aO = 10 ∨ e.aO = 11)) : l3 p e vars funcs ↔
  dN e.aO = e.aK.length ∧ e.cN = 0 ∧ e.cA = 0 ∧ (e.aO = 1 → kI e.aX) ∧ (e.aO = 2 → 0 ≤ e.aX ∧ e.aX ≤ vars - 1) ∧ (e.aO ≠ 1 → e.aO ≠ 2 → e.aX = 0) := by
 unfold l3
 rw [if_neg hk]
@[go_sem] def aKV : List Nat := [0, 1, 2, 3, 8, 9, 21, 29, 62, 67, 114, 118, 119, 126]
@[go_sem] def aWX : List Nat := []
@[go_sem] def aWY : Marks := fun id => match id with | 4 => ([], (.op 0 (.op 1 (.op 2 (.op 3 (.op 4 (.op 5 (.op 6 (.op 7 (.op 8 (.op 9 .nil)))))))))), []) | 5 => ([], (.op 0 (.op 1 (.op 2 (.op 3 (.op 4 (.op 5 (.op 6 (.op 7 (.op 8 (.op 9 (.op 10 (.op 11 (.op 12 (.op 13 (.op 14 (.op 15 (.op 16 (.op 17 (.op 18 (.op 19 (.op 20 (.op 21 (.op 22 (.op 23 .nil)))))))))))))))))))))))), []) | 9 => ([], (.op 0 (.op 1 (.op 2 (.op 3 (.op 4 (.op 5 (.op 6 (.op 7 (.op 8 (.op 9 (.op 10 (.op 11 (.op 12 (.op 13 (.op 14 (.op 15 (.op 16 (.op 17 .nil)))))))))))))))))), []) | 10 => ([], (.op 0 (.op 1 (.op 2 (.op 3 (.op 4 (.op 5 (.op 6 (.op 7 (.op 8 (.op 9 (.op 10 (.op 11 (.op 12 (.op 13 (.op 14 (.op 15 (.op 16 (.op 17 (.op 18 (.op 19 (.op 20 (.op 21 (.op 22 (.op 23 (.op 24 .nil))))))))))))))))))))))))), []) | _ => ([], .nil, [])
theorem aR9 (p : aE) (e : aB) (vars funcs : Int) (hv : 0 ≤ vars) (hv2 : vars ≤ 4294967296) (eH : 0 ≤ funcs) (hf : funcs ≤ p.aI.length) (hps : p.s ≤ 4294967296) : gV Tryz.prog 157 [.ip 1 [p.c] 0 0, .ip 5 [e.c] 0 0, I vars, I funcs] (.bool (decide (l3 p e vars funcs))) := by
 have hl := p.aGZ
 have e1 : IntKind.i64.wrap (funcs - 1) = funcs - 1 := IntWalk.i64_in _ (by omega)
 have e2 : IntKind.i64.wrap (vars - 1) = vars - 1 := IntWalk.i64_in _ (by omega)
 rw [aB.aR]
 simp only [aE.aR]
 by_cases hk : e.aO = 10 ∨ e.aO = 11
 ·by_cases hr : 0 ≤ e.aX ∧ e.aX ≤ funcs - 1
  ·obtain ⟨f, ef⟩ : ∃ f, p.aI[e.aX.toNat]? = some f := ⟨_, List.getElem?_eq_getElem (by omega)⟩
   have hn := qZ (vars := vars) (funcs := funcs) hk ef
   have hfs := aE.aG0 (List.mem_of_getElem? ef)
   have hos := f.aG1
   refine gD 140 aKV aWX aWY mix Tryz.func157 rfl (by kernel_rfl) (by simp) fun h => ?_
   simp -dsimp -implicitDefEqProofs only [go_sem, ↓reduceIte, Tryz.f157, e1, e2]
   repeat' (with_reducible first | intro _ | refine And.intro ?_ ?_)
   all_goals try omega
   all_goals (first | refine aH.mk (fI e.aX 0 (funcs - 1)) ?_ | refine aF.mk (fI e.aX 0 (funcs - 1)) ?_)
   all_goals simp -dsimp -implicitDefEqProofs only [go_sem, ↓reduceIte, Tryz.f157, ef, aS.aR]
   all_goals repeat' (with_reducible first | intro _ | refine And.intro ?_ ?_)
   all_goals try omega
   all_goals try simp (disch := omega) only [IntWalk.i64_in]
   all_goals (first | refine aH.mk (fI e.cN 0 (f.aW.length - 1)) ?_ | refine aF.mk (fI e.cN 0 (f.aW.length - 1)) ?_)
   all_goals simp -dsimp -implicitDefEqProofs only [go_sem, ↓reduceIte, Tryz.f157, ef, aS.aR]
   all_goals repeat' (with_reducible first | intro _ | refine And.intro ?_ ?_)
   all_goals try omega
   all_goals try (first | (simp [*]; done) | omega | grind)
   first | refine aH.mk (fI e.cA 0 8) ?_ | refine aF.mk (fI e.cA 0 8) ?_ | refine aH.bY (fI e.cA 0 8) ?_ | refine aF.mk (bQ.fJ (fI e.cA 0 8)) ?_
   simp -dsimp -implicitDefEqProofs only [go_sem, ↓reduceIte, Tryz.f157, ef, aS.aR]
   repeat' (with_reducible first | intro _ | refine And.intro ?_ ?_)
   all_goals try (first | (simp [*]; done) | omega | grind)
  ·have hn := aBO (p := p) (vars := vars) hk hr
   refine gD 140 aKV aWX aWY mix Tryz.func157 rfl (by kernel_rfl) (by simp) fun h => ?_
   simp -dsimp -implicitDefEqProofs only [go_sem, ↓reduceIte, Tryz.f157, e1, e2]
   repeat' (with_reducible first | intro _ | refine And.intro ?_ ?_)
   all_goals try omega
   all_goals (first | refine aH.mk (fI e.aX 0 (funcs - 1)) ?_ | refine aF.mk (fI e.aX 0 (funcs - 1)) ?_)
   all_goals simp -dsimp -implicitDefEqProofs only [go_sem, ↓reduceIte, Tryz.f157]
   all_goals repeat' (with_reducible first | intro _ | refine And.intro ?_ ?_)
   all_goals try (first | (simp [*]; done) | omega | grind)
 ·have hn := dQ (p := p) (vars := vars) (funcs := funcs) hk
  refine gD 140 aKV aWX aWY mix Tryz.func157 rfl (by kernel_rfl) (by simp) fun h => ?_
  simp -dsimp -implicitDefEqProofs only [go_sem, ↓reduceIte, Tryz.f157, e1, e2]
  repeat' (with_reducible first | intro _ | refine And.intro ?_ ?_)
  all_goals try omega
  first | refine aH.mk (tZ e.aO) ?_ | refine aF.mk (tZ e.aO) ?_ | refine aH.bY (tZ e.aO) ?_ | refine aF.mk (bQ.fJ (tZ e.aO)) ?_
  simp -dsimp -implicitDefEqProofs only [go_sem, ↓reduceIte, Tryz.f157]
  repeat' (with_reducible first | intro _ | refine And.intro ?_ ?_)
  all_goals try (first | (simp [*]; done) | omega | grind)
  ·first | refine aH.mk (pB e.aX) ?_ | refine aF.mk (pB e.aX) ?_ | refine aH.bY (pB e.aX) ?_ | refine aF.mk (bQ.fJ (pB e.aX)) ?_
   simp -dsimp -implicitDefEqProofs only [go_sem, ↓reduceIte, Tryz.f157]
   all_goals try (first | (simp [*]; done) | omega | grind)
  ·all_goals try simp (disch := omega) only [IntWalk.i64_in]
   first | refine aH.mk (fI e.aX 0 (vars - 1)) ?_ | refine aF.mk (fI e.aX 0 (vars - 1)) ?_ | refine aH.bY (fI e.aX 0 (vars - 1)) ?_ | refine aF.mk (bQ.fJ (fI e.aX 0 (vars - 1))) ?_
   simp -dsimp -implicitDefEqProofs only [go_sem, ↓reduceIte, Tryz.f157]
   all_goals try (first | (simp [*]; done) | omega | grind)
@[go_sem] def uA : List Nat := [0, 1, 2, 3, 4, 6, 7, 8, 9, 10, 11, 12, 25, 26, 38, 52, 68, 69, 81, 82, 94, 95, 104, 125, 152, 154, 155, 156, 157, 168, 175]
@[go_sem] def aEM : List Nat := [3, 4]
@[go_sem] def aEN : Marks := fun _ => ([], .nil, [])
set_option maxRecDepth 100000
open Go.Proofs
set_option linter.unusedVariables false
set_option linter.unusedSimpArgs false
@[go_sem] def aSA : List Nat := [0, 1, 2, 3, 8, 9, 10, 16, 23, 35, 48]
@[go_sem] def a47 : List Nat := []
@[go_sem] def a48 : Marks := fun _ => ([], .nil, [])
theorem aKW (p : aE) (e : aB) (vars funcs : Int) (hv : 0 ≤ vars) (hv2 : vars + e.s ≤ 4294967296) (eH : 0 ≤ funcs) (hf : funcs ≤ p.aI.length) (hps : p.s ≤ 4294967296)
  (hc : ∀ y ∈ e.aK, ∀ vars : Int, 0 ≤ vars → vars + y.s ≤ 4294967296 → gV Tryz.prog 133 [.ip 1 [p.c] 0 0, .ip 5 [y.c] 0 0, I vars, I funcs] (.bool (decide (y.ok p funcs vars)))) :
  gV Tryz.prog 133 [.ip 1 [p.c] 0 0, .ip 5 [e.c] 0 0, I vars, I funcs] (.bool (decide (e.ok p funcs vars))) := by
 have hok := aB.cR p funcs e vars
 simp only [aB.aR, aE.aR]
 refine gD 49 aSA a47 a48 mix Tryz.func133 rfl (by kernel_rfl) (by simp) fun h => ?_
 simp -dsimp -implicitDefEqProofs only [go_sem, ↓reduceIte, Tryz.f133]
 first | refine aF.mk ((aR9 p e vars funcs hv (by omega) eH hf hps).sub (by repeat' (first | exact fN.nil | refine fN.cons ?_ ?_ | exact Sub.refl _ | (rw [aB.aR]; exact Sub.refl _) | exact Sub.fP rfl rfl rfl | exact Sub.ip (cH (by omega)) (by simp) | exact Sub.fP (cH (by omega)) rfl rfl | exact Sub.ip (by simp [*]) (by simp) | exact Sub.fP (by simp [*]) (by rfl) (by rfl)))) ?_ | refine aH.mk ((aR9 p e vars funcs hv (by omega) eH hf hps).sub (by repeat' (first | exact fN.nil | refine fN.cons ?_ ?_ | exact Sub.refl _ | (rw [aB.aR]; exact Sub.refl _) | exact Sub.fP rfl rfl rfl | exact Sub.ip (cH (by omega)) (by simp) | exact Sub.fP (cH (by omega)) rfl rfl | exact Sub.ip (by simp [*]) (by simp) | exact Sub.fP (by simp [*]) (by rfl) (by rfl)))) ?_
 simp -dsimp -implicitDefEqProofs only [go_sem, ↓reduceIte, Tryz.f133]
 repeat' (with_reducible first | intro _ | refine And.intro ?_ ?_)
 ·rename_i hn
  exact (decide_eq_false fun q => hn (hok.1 q).1).symm
 ·rename_i hn
  refine dA (keep := aSA) (ib := a47) (mk := a48) mix (by kernel_rfl) (fun k : Nat => [(0, .ip 1 [p.c] 0 0), (1, .ip 5 [e.c] 0 0), (2, I vars), (3, I funcs), (9, I k)]) (fun _ => h) (fun k => k ≤ e.aK.length ∧ ∀ (j : Nat) (hj : j < e.aK.length), j < k → e.aK[j].ok p funcs (iL e.aO j vars)) (fun k => e.aK.length - k) 0 (by simp [dF, b6, aA.le_refl, aB.aR, aE.aR]) ?_
  intro k ⟨hk, hp⟩
  simp only [aB.aR, aE.aR]
  rcases Nat.lt_or_ge k e.aK.length with hlt | hge
  ·have kM := aB.aBM (List.getElem_mem hlt)
   have nx (q : e.aK[k].ok p funcs (iL e.aO k vars)) : ∀ (j : Nat) (hj : j < e.aK.length), j < k + 1 → e.aK[j].ok p funcs (iL e.aO j vars) := by
    intro j hj hjk
    rcases Nat.lt_succ_iff_lt_or_eq.1 hjk with h1 | rfl
    ·exact hp j hj h1
    ·exact q
   have no (q : ¬ e.aK[k].ok p funcs (iL e.aO k vars)) : false = decide (e.ok p funcs vars) := (decide_eq_false fun z => q ((hok.1 z).2 k hlt)).symm
   simp -dsimp -implicitDefEqProofs only [go_sem, ↓reduceIte, Tryz.f133]
   repeat' (with_reducible first | intro _ | refine And.intro ?_ ?_)
   all_goals try omega
   ·have em : iL e.aO k vars = vars + 1 := if_pos ⟨by assumption, by omega⟩
    rw [em] at nx no
    all_goals try simp (disch := omega) only [IntWalk.i64_in]
    first | refine aF.mk ((hc e.aK[k] (List.getElem_mem hlt) (vars + 1) (by omega) (by omega)).sub (by repeat' (first | exact fN.nil | refine fN.cons ?_ ?_ | exact Sub.refl _ | (rw [aB.aR]; exact Sub.refl _) | exact Sub.fP rfl rfl rfl | exact Sub.ip (cH (by omega)) (by simp) | exact Sub.fP (cH (by omega)) rfl rfl | exact Sub.ip (by simp [*]) (by simp) | exact Sub.fP (by simp [*]) (by rfl) (by rfl)))) ?_ | refine aH.mk ((hc e.aK[k] (List.getElem_mem hlt) (vars + 1) (by omega) (by omega)).sub (by repeat' (first | exact fN.nil | refine fN.cons ?_ ?_ | exact Sub.refl _ | (rw [aB.aR]; exact Sub.refl _) | exact Sub.fP rfl rfl rfl | exact Sub.ip (cH (by omega)) (by simp) | exact Sub.fP (cH (by omega)) rfl rfl | exact Sub.ip (by simp [*]) (by simp) | exact Sub.fP (by simp [*]) (by rfl) (by rfl)))) ?_
    simp -dsimp -implicitDefEqProofs only [go_sem, ↓reduceIte, Tryz.f133]
    repeat' (with_reducible first | intro _ | refine And.intro ?_ ?_)
    ·exact no (by assumption)
    ·refine ⟨k + 1, ?_⟩
     repeat' (with_reducible refine And.intro ?_ ?_)
     all_goals try (rw [IntWalk.i64_in _ (by omega)]; first | rfl | omega)
     all_goals try omega
     all_goals try (repeat' (with_reducible first | exact aA.le_refl _ | refine (aP (by first | assumption | exact And.right (by assumption) | exact cW.2 (by assumption))).2 ?_))
     all_goals try (simp only [aB.aR, aE.aR]; done)
     exact nx (by assumption)
   all_goals
    have em : iL e.aO k vars = vars := if_neg (by omega)
    rw [em] at nx no
    first | refine aF.mk ((hc e.aK[k] (List.getElem_mem hlt) vars (by omega) (by omega)).sub (by repeat' (first | exact fN.nil | refine fN.cons ?_ ?_ | exact Sub.refl _ | (rw [aB.aR]; exact Sub.refl _) | exact Sub.fP rfl rfl rfl | exact Sub.ip (cH (by omega)) (by simp) | exact Sub.fP (cH (by omega)) rfl rfl | exact Sub.ip (by simp [*]) (by simp) | exact Sub.fP (by simp [*]) (by rfl) (by rfl)))) ?_ | refine aH.mk ((hc e.aK[k] (List.getElem_mem hlt) vars (by omega) (by omega)).sub (by repeat' (first | exact fN.nil | refine fN.cons ?_ ?_ | exact Sub.refl _ | (rw [aB.aR]; exact Sub.refl _) | exact Sub.fP rfl rfl rfl | exact Sub.ip (cH (by omega)) (by simp) | exact Sub.fP (cH (by omega)) rfl rfl | exact Sub.ip (by simp [*]) (by simp) | exact Sub.fP (by simp [*]) (by rfl) (by rfl)))) ?_
    simp -dsimp -implicitDefEqProofs only [go_sem, ↓reduceIte, Tryz.f133]
    repeat' (with_reducible first | intro _ | refine And.intro ?_ ?_)
    ·exact no (by assumption)
    ·refine ⟨k + 1, ?_⟩
     repeat' (with_reducible refine And.intro ?_ ?_)
     all_goals try (rw [IntWalk.i64_in _ (by omega)]; first | rfl | omega)
     all_goals try omega
     all_goals try (repeat' (with_reducible first | exact aA.le_refl _ | refine (aP (by first | assumption | exact And.right (by assumption) | exact cW.2 (by assumption))).2 ?_))
     all_goals try (simp only [aB.aR, aE.aR]; done)
     exact nx (by assumption)
  ·have hk' : k = e.aK.length := by omega
   subst hk'
   simp -dsimp -implicitDefEqProofs only [go_sem, ↓reduceIte, Tryz.f133, Nat.lt_irrefl]
   exact fun _ => (decide_eq_true (hok.2 ⟨hn, fun j hj => hp j hj hj⟩)).symm
theorem aKX (p : aE) (e : aB) (vars funcs : Int) (hv : 0 ≤ vars) (hv2 : vars + e.s ≤ 4294967296) (eH : 0 ≤ funcs) (hf : funcs ≤ p.aI.length) (hps : p.s ≤ 4294967296) :
  gV Tryz.prog 133 [.ip 1 [p.c] 0 0, .ip 5 [e.c] 0 0, I vars, I funcs] (.bool (decide (e.ok p funcs vars))) :=
 aKW p e vars funcs hv hv2 eH hf hps fun y hy vars hv hv2 => aKX p y vars funcs hv hv2 eH hf hps
termination_by SizeOf.sizeOf e
decreasing_by exact aB.aDF hy
set_option maxRecDepth 100000
open Go.Proofs
set_option linter.unusedVariables false
set_option linter.unusedSimpArgs false
set_option maxHeartbeats 8000000 in
theorem aG2 (p : aE) (e : aB) (vars funcs : Int) (hv : 0 ≤ vars) (hv2 : vars + e.s ≤ 4294967296) (eH : 0 ≤ funcs) (hf : funcs ≤ p.aI.length) (hps : p.s ≤ 4294967296)
  (hc : ∀ y ∈ e.aK, ∀ vars : Int, 0 ≤ vars → vars + y.s ≤ 4294967296 → gV Tryz.prog 126 [.agg [eI 3 aS.c p.aI, I funcs], .agg y.c, I vars] (.bool (decide (y.ok p funcs vars)))) (hk : ¬ (e.aO = 10 ∨ e.aO = 11)) :
  gV Tryz.prog 126 [.agg [eI 3 aS.c p.aI, I funcs], .agg e.c, I vars] (.bool (decide (e.ok p funcs vars))) := by
 have hok := aB.cR p funcs e vars
 have hl := p.aGZ
 have e1 : IntKind.i64.wrap (funcs - 1) = funcs - 1 := IntWalk.i64_in _ (by omega)
 have e2 : IntKind.i64.wrap (vars - 1) = vars - 1 := IntWalk.i64_in _ (by omega)
 simp only [aB.aR]
 have no1 (hk : ¬ (e.aO = 10 ∨ e.aO = 11)) (q : ¬ (dN e.aO = e.aK.length ∧ e.cN = 0 ∧ e.cA = 0 ∧ (e.aO = 1 → kI e.aX) ∧ (e.aO = 2 → 0 ≤ e.aX ∧ e.aX ≤ vars - 1) ∧ (e.aO ≠ 1 → e.aO ≠ 2 → e.aX = 0))) : false = decide (e.ok p funcs vars) :=
  (decide_eq_false fun z => q ((dQ hk).1 (hok.1 z).1)).symm
 have bDZ (hk : ¬ (e.aO = 10 ∨ e.aO = 11)) (q : dN e.aO = e.aK.length ∧ e.cN = 0 ∧ e.cA = 0 ∧ (e.aO = 1 → kI e.aX) ∧ (e.aO = 2 → 0 ≤ e.aX ∧ e.aX ≤ vars - 1) ∧ (e.aO ≠ 1 → e.aO ≠ 2 → e.aX = 0)) : l3 p e vars funcs := (dQ hk).2 q
 refine gD 177 uA aEM aEN mix Tryz.func126 rfl (by kernel_rfl) (by simp) fun h => ?_
 simp (maxSteps := 1000000) -dsimp -implicitDefEqProofs only [go_sem, ↓reduceIte, Tryz.f126, e1, e2]
 repeat' (with_reducible first | intro _ | refine And.intro ?_ ?_)
 all_goals try omega
 all_goals try (refine no1 (by omega) ?_; simp only [dN]; grind)
 ·first | refine aH.mk (qY e.aX) ?_ | refine aF.mk (qY e.aX) ?_ | refine aH.bY (qY e.aX) ?_ | refine aF.mk (bQ.fJ (qY e.aX)) ?_
  simp (maxSteps := 1000000) -dsimp -implicitDefEqProofs only [go_sem, ↓reduceIte, Tryz.f126]
  rw [decide_eq_decide, hok, dQ hk]
  have : e.aK.length = 0 := by omega
  constructor
  ·intro q
   exact ⟨by simp only [dN]; grind, fun k hk => by omega⟩
  ·intro q
   grind
 ·first | refine aH.mk (within e.aX 0 (vars - 1)) ?_ | refine aF.mk (within e.aX 0 (vars - 1)) ?_ | refine aH.bY (within e.aX 0 (vars - 1)) ?_ | refine aF.mk (bQ.fJ (within e.aX 0 (vars - 1))) ?_
  simp (maxSteps := 1000000) -dsimp -implicitDefEqProofs only [go_sem, ↓reduceIte, Tryz.f126]
  rw [decide_eq_decide, hok, dQ hk]
  have : e.aK.length = 0 := by omega
  constructor
  ·intro q
   exact ⟨by simp only [dN]; grind, fun k hk => by omega⟩
  ·intro q
   grind
 all_goals
  have hn := bDZ hk (by simp only [dN]; grind)
  clear no1 bDZ
  refine dA (keep := uA) (ib := aEM) (mk := aEN) mix (by kernel_rfl) (fun k : Nat => [(2, I vars), (3, .ip 2 [[eI 3 aS.c p.aI, I funcs]] 0 0), (4, .ip 5 [e.c] 0 0), (154, eI 5 aB.c e.aK), (155, I e.aK.length), (156, I k)]) (fun _ => h) (fun k => k ≤ e.aK.length ∧ ∀ (j : Nat) (hj : j < e.aK.length), j < k → e.aK[j].ok p funcs (iL e.aO j vars)) (fun k => e.aK.length - k) 0 (by refine ⟨by simp [dF, b6, aB.aR], by repeat' (with_reducible first | exact aA.le_refl _ | refine (aP (by first | assumption | exact And.right (by assumption) | exact cW.2 (by assumption))).2 ?_), by simp⟩) ?_
  intro k ⟨hk, hp⟩
  simp only [aB.aR]
  rcases Nat.lt_or_ge k e.aK.length with hlt | hge
  ·have kM := aB.aBM (List.getElem_mem hlt)
   have nx (q : e.aK[k].ok p funcs (iL e.aO k vars)) : ∀ (j : Nat) (hj : j < e.aK.length), j < k + 1 → e.aK[j].ok p funcs (iL e.aO j vars) := by
    intro j hj hjk
    rcases Nat.lt_succ_iff_lt_or_eq.1 hjk with h1 | rfl
    ·exact hp j hj h1
    ·exact q
   have no (q : ¬ e.aK[k].ok p funcs (iL e.aO k vars)) : false = decide (e.ok p funcs vars) := (decide_eq_false fun z => q ((hok.1 z).2 k hlt)).symm
   have ea : e.aK[k]? = some e.aK[k] := List.getElem?_eq_getElem hlt
   rcases Decidable.em (e.aO = 9 ∧ k = 1) with e9 | e9
   ·have em : iL e.aO k vars = vars + 1 := if_pos e9
    rw [em] at nx no
    have hcy := hc e.aK[k] (List.getElem_mem hlt) (vars + 1) (by omega) (by omega)
    simp only [aB.aR] at hcy
    simp (maxSteps := 1000000) -dsimp -implicitDefEqProofs only [go_sem, ↓reduceIte, Tryz.f126, ea, aB.aR, aM]
    repeat' (with_reducible first | intro _ | refine And.intro ?_ ?_)
    all_goals try omega
    all_goals try simp (disch := omega) only [IntWalk.i64_in]
    all_goals (first | refine aH.mk (hcy) ?_ | refine aF.mk (hcy) ?_)
    all_goals simp (maxSteps := 1000000) -dsimp -implicitDefEqProofs only [go_sem, ↓reduceIte, Tryz.f126]
    all_goals repeat' (with_reducible first | intro _ | refine And.intro ?_ ?_)
    all_goals first | exact no (by assumption) | exact aA.le_refl _ | skip
    all_goals try (exact (aP (by assumption)).2 (aA.le_refl _))
    all_goals
     refine ⟨k + 1, ?_⟩
     repeat' (with_reducible refine And.intro ?_ ?_)
     all_goals try (rw [IntWalk.i64_in _ (by omega)]; first | rfl | omega)
     all_goals try omega
     all_goals try (repeat' (with_reducible first | exact aA.le_refl _ | refine (aP (by first | assumption | exact And.right (by assumption) | exact cW.2 (by assumption))).2 ?_))
     all_goals try (simp only [aB.aR]; done)
     exact nx (by assumption)
   ·have em : iL e.aO k vars = vars := if_neg e9
    rw [em] at nx no
    have hcy := hc e.aK[k] (List.getElem_mem hlt) vars (by omega) (by omega)
    simp only [aB.aR] at hcy
    simp (maxSteps := 1000000) -dsimp -implicitDefEqProofs only [go_sem, ↓reduceIte, Tryz.f126, ea, aB.aR, aM]
    repeat' (with_reducible first | intro _ | refine And.intro ?_ ?_)
    all_goals try omega
    all_goals (first | refine aH.mk (hcy) ?_ | refine aF.mk (hcy) ?_)
    all_goals simp (maxSteps := 1000000) -dsimp -implicitDefEqProofs only [go_sem, ↓reduceIte, Tryz.f126]
    all_goals repeat' (with_reducible first | intro _ | refine And.intro ?_ ?_)
    all_goals first | exact no (by assumption) | exact aA.le_refl _ | skip
    all_goals try (exact (aP (by assumption)).2 (aA.le_refl _))
    all_goals
     refine ⟨k + 1, ?_⟩
     repeat' (with_reducible refine And.intro ?_ ?_)
     all_goals try (rw [IntWalk.i64_in _ (by omega)]; first | rfl | omega)
     all_goals try omega
     all_goals try (repeat' (with_reducible first | exact aA.le_refl _ | refine (aP (by first | assumption | exact And.right (by assumption) | exact cW.2 (by assumption))).2 ?_))
     all_goals try (simp only [aB.aR]; done)
     exact nx (by assumption)
  ·have hk' : k = e.aK.length := by omega
   subst hk'
   simp (maxSteps := 1000000) -dsimp -implicitDefEqProofs only [go_sem, ↓reduceIte, Tryz.f126, Nat.lt_irrefl]
   exact (decide_eq_true (hok.2 ⟨hn, fun j hj => hp j hj hj⟩)).symm
set_option maxRecDepth 100000
open Go.Proofs
set_option linter.unusedVariables false
set_option linter.unusedSimpArgs false
theorem aBP {p : aE} {e : aB} {vars funcs : Int} {f : aS} (hk : e.aO = 10 ∨ e.aO = 11) (ef : p.aI[e.aX.toNat]? = some f)
  (q : ¬ (0 ≤ e.cN ∧ e.cN ≤ (f.aW.length : Int) - 1 ∧ (e.aK.length : Int) = f.aZ ∧ (e.aO = 10 → e.cA = 0) ∧ (e.aO = 11 → 0 ≤ e.cA ∧ e.cA ≤ 8 ∧ (f.aW.length : Int) = f.aZ))) : false = decide (e.ok p funcs vars) :=
 (decide_eq_false fun z => q ((qZ hk ef).1 ((aB.cR _ _ _ _).1 z).1).2.2).symm
theorem aOE {p : aE} {e : aB} {vars funcs : Int} (hk : e.aO = 10 ∨ e.aO = 11) (q : ¬ (0 ≤ e.aX ∧ e.aX ≤ funcs - 1)) : false = decide (e.ok p funcs vars) :=
 (decide_eq_false fun z => aBO hk q ((aB.cR _ _ _ _).1 z).1).symm
set_option maxHeartbeats 8000000 in
theorem aOF (p : aE) (e : aB) (vars funcs : Int) (hv : 0 ≤ vars) (hv2 : vars + e.s ≤ 4294967296) (eH : 0 ≤ funcs) (hf : funcs ≤ p.aI.length) (hps : p.s ≤ 4294967296)
  (hc : ∀ y ∈ e.aK, ∀ vars : Int, 0 ≤ vars → vars + y.s ≤ 4294967296 → gV Tryz.prog 126 [.agg [eI 3 aS.c p.aI, I funcs], .agg y.c, I vars] (.bool (decide (y.ok p funcs vars)))) (hk : e.aO = 10) :
  gV Tryz.prog 126 [.agg [eI 3 aS.c p.aI, I funcs], .agg e.c, I vars] (.bool (decide (e.ok p funcs vars))) := by
 have hl := p.aGZ
 have e1 : IntKind.i64.wrap (funcs - 1) = funcs - 1 := IntWalk.i64_in _ (by omega)
 simp only [aB.aR]
 by_cases hr : 0 ≤ e.aX ∧ e.aX ≤ funcs - 1
 ·obtain ⟨f, ef⟩ : ∃ f, p.aI[e.aX.toNat]? = some f := ⟨_, List.getElem?_eq_getElem (by omega)⟩
  have hfs := aE.aG0 (List.mem_of_getElem? ef)
  have hos := f.aG1
  have e3 : IntKind.i64.wrap ((f.aW.length : Int) - 1) = f.aW.length - 1 := IntWalk.i64_in _ (by omega)
  refine gD 177 uA aEM aEN mix Tryz.func126 rfl (by kernel_rfl) (by simp) fun h => ?_
  simp -dsimp -implicitDefEqProofs only [go_sem, ↓reduceIte, Tryz.f126, e1, e3, hk]
  repeat' (with_reducible first | intro _ | refine And.intro ?_ ?_)
  all_goals try omega
  all_goals (first | refine aH.mk (within e.aX 0 (funcs - 1)) ?_ | refine aF.mk (within e.aX 0 (funcs - 1)) ?_)
  all_goals simp -dsimp -implicitDefEqProofs only [go_sem, ↓reduceIte, Tryz.f126, ef, aS.aR, aM, hk, e3]
  all_goals repeat' (with_reducible first | intro _ | refine And.intro ?_ ?_)
  all_goals try omega
  all_goals try (refine aBP (by omega) ef ?_; omega)
  all_goals try (repeat' (with_reducible first | exact aA.le_refl _ | refine (aP (by first | assumption | exact And.right (by assumption) | exact cW.2 (by assumption))).2 ?_))
  all_goals (first | refine aH.mk (within e.cN 0 (f.aW.length - 1)) ?_ | refine aF.mk (within e.cN 0 (f.aW.length - 1)) ?_)
  all_goals simp -dsimp -implicitDefEqProofs only [go_sem, ↓reduceIte, Tryz.f126, ef, aS.aR, aM, hk]
  all_goals repeat' (with_reducible first | intro _ | refine And.intro ?_ ?_)
  all_goals try omega
  all_goals try (refine aBP (by omega) ef ?_; omega)
  all_goals try (repeat' (with_reducible first | exact aA.le_refl _ | refine (aP (by first | assumption | exact And.right (by assumption) | exact cW.2 (by assumption))).2 ?_))
  all_goals
   have hn : l3 p e vars funcs := (qZ (by omega) ef).2 (by omega)
   have hok := aB.cR p funcs e vars
   clear hr hfs hos ef
   refine dA (keep := uA) (ib := aEM) (mk := aEN) mix (by kernel_rfl) (fun k : Nat => [(2, I vars), (3, .ip 2 [[eI 3 aS.c p.aI, I funcs]] 0 0), (4, .ip 5 [e.c] 0 0), (154, eI 5 aB.c e.aK), (155, I e.aK.length), (156, I k)]) (fun _ => h) (fun k => k ≤ e.aK.length ∧ ∀ (j : Nat) (hj : j < e.aK.length), j < k → e.aK[j].ok p funcs vars) (fun k => e.aK.length - k) 0 (by refine ⟨by simp [dF, b6, aB.aR, hk], by repeat' (with_reducible first | exact aA.le_refl _ | refine (aP (by first | assumption | exact And.right (by assumption) | exact cW.2 (by assumption))).2 ?_), by simp⟩) ?_
   intro k ⟨hk', hp⟩
   simp only [aB.aR]
   rcases Nat.lt_or_ge k e.aK.length with hlt | hge
   ·have kM := aB.aBM (List.getElem_mem hlt)
    have nx (q : e.aK[k].ok p funcs vars) : ∀ (j : Nat) (hj : j < e.aK.length), j < k + 1 → e.aK[j].ok p funcs vars := by
     intro j hj hjk
     rcases Nat.lt_succ_iff_lt_or_eq.1 hjk with h1 | rfl
     ·exact hp j hj h1
     ·exact q
    have no (q : ¬ e.aK[k].ok p funcs vars) : false = decide (e.ok p funcs vars) := (decide_eq_false fun z => q (by have := (hok.1 z).2 k hlt; rwa [show iL e.aO k vars = vars from if_neg (by omega)] at this)).symm
    have ea : e.aK[k]? = some e.aK[k] := List.getElem?_eq_getElem hlt
    have hcy := hc e.aK[k] (List.getElem_mem hlt) vars (by omega) (by omega)
    simp only [aB.aR] at hcy
    simp -dsimp -implicitDefEqProofs only [go_sem, ↓reduceIte, Tryz.f126, ea, aB.aR, aM, hk]
    repeat' (with_reducible first | intro _ | refine And.intro ?_ ?_)
    all_goals try omega
    first | refine aH.mk (hcy) ?_ | refine aF.mk (hcy) ?_ | refine aH.bY (hcy) ?_ | refine aF.mk (bQ.fJ (hcy)) ?_
    simp -dsimp -implicitDefEqProofs only [go_sem, ↓reduceIte, Tryz.f126]
    repeat' (with_reducible first | intro _ | refine And.intro ?_ ?_)
    all_goals first | exact no (by assumption) | skip
    all_goals try (repeat' (with_reducible first | exact aA.le_refl _ | refine (aP (by first | assumption | exact And.right (by assumption) | exact cW.2 (by assumption))).2 ?_))
    refine ⟨k + 1, ?_⟩
    repeat' (with_reducible refine And.intro ?_ ?_)
    all_goals try (rw [IntWalk.i64_in _ (by omega)]; first | rfl | omega)
    all_goals try omega
    all_goals try (repeat' (with_reducible first | exact aA.le_refl _ | refine (aP (by first | assumption | exact And.right (by assumption) | exact cW.2 (by assumption))).2 ?_))
    all_goals try (simp only [aB.aR, hk]; done)
    exact nx (by assumption)
   ·have hk'' : k = e.aK.length := by omega
    subst hk''
    simp -dsimp -implicitDefEqProofs only [go_sem, ↓reduceIte, Tryz.f126, Nat.lt_irrefl]
    exact (decide_eq_true (hok.2 ⟨hn, fun j hj => by rw [show iL e.aO j vars = vars from if_neg (by omega)]; exact hp j hj hj⟩)).symm
 ·refine gD 177 uA aEM aEN mix Tryz.func126 rfl (by kernel_rfl) (by simp) fun h => ?_
  simp -dsimp -implicitDefEqProofs only [go_sem, ↓reduceIte, Tryz.f126, e1, hk]
  repeat' (with_reducible first | intro _ | refine And.intro ?_ ?_)
  all_goals try omega
  all_goals (first | refine aH.mk (within e.aX 0 (funcs - 1)) ?_ | refine aF.mk (within e.aX 0 (funcs - 1)) ?_)
  all_goals simp -dsimp -implicitDefEqProofs only [go_sem, ↓reduceIte, Tryz.f126]
  all_goals repeat' (with_reducible first | intro _ | refine And.intro ?_ ?_)
  all_goals try omega
  all_goals exact aOE (by omega) hr
set_option maxHeartbeats 8000000 in
theorem aOG (p : aE) (e : aB) (vars funcs : Int) (hv : 0 ≤ vars) (hv2 : vars + e.s ≤ 4294967296) (eH : 0 ≤ funcs) (hf : funcs ≤ p.aI.length) (hps : p.s ≤ 4294967296)
  (hc : ∀ y ∈ e.aK, ∀ vars : Int, 0 ≤ vars → vars + y.s ≤ 4294967296 → gV Tryz.prog 126 [.agg [eI 3 aS.c p.aI, I funcs], .agg y.c, I vars] (.bool (decide (y.ok p funcs vars)))) (hk : e.aO = 11) :
  gV Tryz.prog 126 [.agg [eI 3 aS.c p.aI, I funcs], .agg e.c, I vars] (.bool (decide (e.ok p funcs vars))) := by
 have hl := p.aGZ
 have e1 : IntKind.i64.wrap (funcs - 1) = funcs - 1 := IntWalk.i64_in _ (by omega)
 simp only [aB.aR]
 by_cases hr : 0 ≤ e.aX ∧ e.aX ≤ funcs - 1
 ·obtain ⟨f, ef⟩ : ∃ f, p.aI[e.aX.toNat]? = some f := ⟨_, List.getElem?_eq_getElem (by omega)⟩
  have hfs := aE.aG0 (List.mem_of_getElem? ef)
  have hos := f.aG1
  have e3 : IntKind.i64.wrap ((f.aW.length : Int) - 1) = f.aW.length - 1 := IntWalk.i64_in _ (by omega)
  refine gD 177 uA aEM aEN mix Tryz.func126 rfl (by kernel_rfl) (by simp) fun h => ?_
  simp -dsimp -implicitDefEqProofs only [go_sem, ↓reduceIte, Tryz.f126, e1, e3, hk]
  repeat' (with_reducible first | intro _ | refine And.intro ?_ ?_)
  all_goals try omega
  all_goals (first | refine aH.mk (within e.aX 0 (funcs - 1)) ?_ | refine aF.mk (within e.aX 0 (funcs - 1)) ?_)
  all_goals simp -dsimp -implicitDefEqProofs only [go_sem, ↓reduceIte, Tryz.f126, ef, aS.aR, aM, hk, e3]
  all_goals repeat' (with_reducible first | intro _ | refine And.intro ?_ ?_)
  all_goals try omega
  all_goals try (refine aBP (by omega) ef ?_; omega)
  all_goals try (repeat' (with_reducible first | exact aA.le_refl _ | refine (aP (by first | assumption | exact And.right (by assumption) | exact cW.2 (by assumption))).2 ?_))
  all_goals (first | refine aH.mk (within e.cN 0 (f.aW.length - 1)) ?_ | refine aF.mk (within e.cN 0 (f.aW.length - 1)) ?_)
  all_goals simp -dsimp -implicitDefEqProofs only [go_sem, ↓reduceIte, Tryz.f126, ef, aS.aR, aM, hk]
  all_goals repeat' (with_reducible first | intro _ | refine And.intro ?_ ?_)
  all_goals try omega
  all_goals try (refine aBP (by omega) ef ?_; omega)
  all_goals try (repeat' (with_reducible first | exact aA.le_refl _ | refine (aP (by first | assumption | exact And.right (by assumption) | exact cW.2 (by assumption))).2 ?_))
  all_goals (first | refine aH.mk (within e.cA 0 8) ?_ | refine aF.mk (within e.cA 0 8) ?_)
  all_goals simp -dsimp -implicitDefEqProofs only [go_sem, ↓reduceIte, Tryz.f126, aM, hk]
  all_goals repeat' (with_reducible first | intro _ | refine And.intro ?_ ?_)
  all_goals try (refine aBP (by omega) ef ?_; omega)
  all_goals try (repeat' (with_reducible first | exact aA.le_refl _ | refine (aP (by first | assumption | exact And.right (by assumption) | exact cW.2 (by assumption))).2 ?_))
  all_goals
   have hn : l3 p e vars funcs := (qZ (by omega) ef).2 (by omega)
   have hok := aB.cR p funcs e vars
   clear hr hfs hos ef
   refine dA (keep := uA) (ib := aEM) (mk := aEN) mix (by kernel_rfl) (fun k : Nat => [(2, I vars), (3, .ip 2 [[eI 3 aS.c p.aI, I funcs]] 0 0), (4, .ip 5 [e.c] 0 0), (154, eI 5 aB.c e.aK), (155, I e.aK.length), (156, I k)]) (fun _ => h) (fun k => k ≤ e.aK.length ∧ ∀ (j : Nat) (hj : j < e.aK.length), j < k → e.aK[j].ok p funcs vars) (fun k => e.aK.length - k) 0 (by refine ⟨by simp [dF, b6, aB.aR, hk], by repeat' (with_reducible first | exact aA.le_refl _ | refine (aP (by first | assumption | exact And.right (by assumption) | exact cW.2 (by assumption))).2 ?_), by simp⟩) ?_
   intro k ⟨hk', hp⟩
   simp only [aB.aR]
   rcases Nat.lt_or_ge k e.aK.length with hlt | hge
   ·have kM := aB.aBM (List.getElem_mem hlt)
    have nx (q : e.aK[k].ok p funcs vars) : ∀ (j : Nat) (hj : j < e.aK.length), j < k + 1 → e.aK[j].ok p funcs vars := by
     intro j hj hjk
     rcases Nat.lt_succ_iff_lt_or_eq.1 hjk with h1 | rfl
     ·exact hp j hj h1
     ·exact q
    have no (q : ¬ e.aK[k].ok p funcs vars) : false = decide (e.ok p funcs vars) := (decide_eq_false fun z => q (by have := (hok.1 z).2 k hlt; rwa [show iL e.aO k vars = vars from if_neg (by omega)] at this)).symm
    have ea : e.aK[k]? = some e.aK[k] := List.getElem?_eq_getElem hlt
    have hcy := hc e.aK[k] (List.getElem_mem hlt) vars (by omega) (by omega)
    simp only [aB.aR] at hcy
    simp -dsimp -implicitDefEqProofs only [go_sem, ↓reduceIte, Tryz.f126, ea, aB.aR, aM, hk]
    repeat' (with_reducible first | intro _ | refine And.intro ?_ ?_)
    all_goals try omega
    first | refine aH.mk (hcy) ?_ | refine aF.mk (hcy) ?_ | refine aH.bY (hcy) ?_ | refine aF.mk (bQ.fJ (hcy)) ?_
    simp -dsimp -implicitDefEqProofs only [go_sem, ↓reduceIte, Tryz.f126]
    repeat' (with_reducible first | intro _ | refine And.intro ?_ ?_)
    all_goals first | exact no (by assumption) | skip
    all_goals try (repeat' (with_reducible first | exact aA.le_refl _ | refine (aP (by first | assumption | exact And.right (by assumption) | exact cW.2 (by assumption))).2 ?_))
    refine ⟨k + 1, ?_⟩
    repeat' (with_reducible refine And.intro ?_ ?_)
    all_goals try (rw [IntWalk.i64_in _ (by omega)]; first | rfl | omega)
    all_goals try omega
    all_goals try (repeat' (with_reducible first | exact aA.le_refl _ | refine (aP (by first | assumption | exact And.right (by assumption) | exact cW.2 (by assumption))).2 ?_))
    all_goals try (simp only [aB.aR, hk]; done)
    exact nx (by assumption)
   ·have hk'' : k = e.aK.length := by omega
    subst hk''
    simp -dsimp -implicitDefEqProofs only [go_sem, ↓reduceIte, Tryz.f126, Nat.lt_irrefl]
    exact (decide_eq_true (hok.2 ⟨hn, fun j hj => by rw [show iL e.aO j vars = vars from if_neg (by omega)]; exact hp j hj hj⟩)).symm
 ·refine gD 177 uA aEM aEN mix Tryz.func126 rfl (by kernel_rfl) (by simp) fun h => ?_
  simp -dsimp -implicitDefEqProofs only [go_sem, ↓reduceIte, Tryz.f126, e1, hk]
  repeat' (with_reducible first | intro _ | refine And.intro ?_ ?_)
  all_goals try omega
  all_goals (first | refine aH.mk (within e.aX 0 (funcs - 1)) ?_ | refine aF.mk (within e.aX 0 (funcs - 1)) ?_)
  all_goals simp -dsimp -implicitDefEqProofs only [go_sem, ↓reduceIte, Tryz.f126]
  all_goals repeat' (with_reducible first | intro _ | refine And.intro ?_ ?_)
  all_goals try omega
  all_goals exact aOE (by omega) hr
open Go.Proofs
set_option linter.unusedVariables false
set_option linter.unusedSimpArgs false
theorem aBQ (p : aE) (e : aB) (vars funcs : Int) (hv : 0 ≤ vars) (hv2 : vars + e.s ≤ 4294967296) (eH : 0 ≤ funcs) (hf : funcs ≤ p.aI.length) (hps : p.s ≤ 4294967296) :
  gV Tryz.prog 126 [.agg [eI 3 aS.c p.aI, I funcs], .agg e.c, I vars] (.bool (decide (e.ok p funcs vars))) := by
 by_cases h1 : e.aO = 10
 ·exact aOF p e vars funcs hv hv2 eH hf hps (fun y hy vars hv hv2 => aBQ p y vars funcs hv hv2 eH hf hps) h1
 ·by_cases h2 : e.aO = 11
  ·exact aOG p e vars funcs hv hv2 eH hf hps (fun y hy vars hv hv2 => aBQ p y vars funcs hv hv2 eH hf hps) h2
  ·exact aG2 p e vars funcs hv hv2 eH hf hps (fun y hy vars hv hv2 => aBQ p y vars funcs hv hv2 eH hf hps) (fun q => q.elim h1 h2)
termination_by SizeOf.sizeOf e
decreasing_by all_goals exact aB.aDF hy
set_option maxRecDepth 100000
open Go.Proofs
set_option linter.unusedVariables false
set_option linter.unusedSimpArgs false
def lO (p : aE) (e : aB) (vars funcs : Int) : Prop := (0 ≤ vars ∧ vars ≤ 412) ∧ (0 ≤ funcs ∧ funcs ≤ p.aI.length) ∧ (e.s : Int) + 1 ≤ 400 ∧ (e.d : Int) ≤ 60 ∧ e.ok p funcs vars
noncomputable instance (p : aE) (e : aB) (vars funcs : Int) : Decidable (lO p e vars funcs) := Classical.propDecidable _
def yN (p : aE) (k : Nat) (f : aS) : Prop := aAP f.j5 ∧ (0 ≤ f.aZ ∧ f.aZ ≤ 12) ∧ (1 ≤ (f.aW.length : Int) ∧ (f.aW.length : Int) ≤ 12) ∧ (∀ g ∈ p.aI.take k, g.j5 ≠ f.j5) ∧ (p7 aB.s f.aW : Int) ≤ 400 ∧ ∀ e ∈ f.aW, lO p e f.aZ k
noncomputable instance (p : aE) (k : Nat) (f : aS) : Decidable (yN p k f) := Classical.propDecidable _
def aE.ok (p : aE) : Prop := (p.aI.length : Int) ≤ 16 ∧ ∀ (k : Nat) (f : aS), p.aI[k]? = some f → yN p k f
noncomputable instance (p : aE) : Decidable p.ok := Classical.propDecidable _
@[go_sem] def a0Y : List Nat := [0, 2]
@[go_sem] def bD0 : List Nat := []
@[go_sem] def bD1 : Marks := fun _ => ([], .nil, [])
theorem aE9 (n : Int) : gV Tryz.prog 131 [I n] (.bool (decide (0 ≤ n ∧ n ≤ 412))) := by
 refine gD 5 a0Y bD0 bD1 mix Tryz.func131 rfl (by kernel_rfl) (by simp) fun h => ?_
 simp -dsimp -implicitDefEqProofs only [go_sem, ↓reduceIte, Tryz.f131]
 first | refine aH.mk (fI n 0 412) ?_ | refine aF.mk (fI n 0 412) ?_ | refine aH.bY (fI n 0 412) ?_ | refine aF.mk (bQ.fJ (fI n 0 412)) ?_
 simp -dsimp -implicitDefEqProofs only [go_sem, ↓reduceIte, Tryz.f131]
@[go_sem] def a0Z : List Nat := [0, 2]
@[go_sem] def bD2 : List Nat := []
@[go_sem] def bD3 : Marks := fun _ => ([], .nil, [])
theorem aFA (n : Int) : gV Tryz.prog 124 [I n] (.bool (decide (0 ≤ n ∧ n ≤ 412))) := by
 refine gD 5 a0Z bD2 bD3 mix Tryz.func124 rfl (by kernel_rfl) (by simp) fun h => ?_
 simp -dsimp -implicitDefEqProofs only [go_sem, ↓reduceIte, Tryz.f124]
 first | refine aH.mk (within n 0 412) ?_ | refine aF.mk (within n 0 412) ?_ | refine aH.bY (within n 0 412) ?_ | refine aF.mk (bQ.fJ (within n 0 412)) ?_
 simp -dsimp -implicitDefEqProofs only [go_sem, ↓reduceIte, Tryz.f124]
theorem aG3 {left : Int} {n : Nat} : 0 ≤ lft left n ↔ (n : Int) ≤ left := by
 unfold lft; split <;> omega
@[go_sem] def a00 : List Nat := [0, 1, 2, 3, 8]
@[go_sem] def bD4 : List Nat := []
@[go_sem] def bD5 : Marks := fun _ => ([], .nil, [])
theorem aSB (p : aE) (e : aB) (vars funcs : Int) (hs : e.s ≤ 4294966296) (hps : p.s ≤ 4294967296) : gV Tryz.prog 115 [.ip 1 [p.c] 0 0, .ip 5 [e.c] 0 0, I vars, I funcs] (.bool (decide (lO p e vars funcs))) := by
 simp only [aE.aR]
 refine gD 37 a00 bD4 bD5 mix Tryz.func115 rfl (by kernel_rfl) (by simp) fun h => ?_
 simp -dsimp -implicitDefEqProofs only [go_sem, ↓reduceIte, Tryz.f115]
 first | refine aH.mk (aE9 vars) ?_ | refine aF.mk (aE9 vars) ?_ | refine aH.bY (aE9 vars) ?_ | refine aF.mk (bQ.fJ (aE9 vars)) ?_
 simp -dsimp -implicitDefEqProofs only [go_sem, ↓reduceIte, Tryz.f115]
 repeat' (with_reducible first | intro _ | refine And.intro ?_ ?_)
 all_goals try (first | (simp [lO, *]; done) | omega | (grind [lO]) | (simp [lO]; omega))
 first | refine aH.mk (fI funcs 0 p.aI.length) ?_ | refine aF.mk (fI funcs 0 p.aI.length) ?_ | refine aH.bY (fI funcs 0 p.aI.length) ?_ | refine aF.mk (bQ.fJ (fI funcs 0 p.aI.length)) ?_
 simp -dsimp -implicitDefEqProofs only [go_sem, ↓reduceIte, Tryz.f115]
 repeat' (with_reducible first | intro _ | refine And.intro ?_ ?_)
 all_goals try (first | (simp [lO, *]; done) | omega | (grind [lO]) | (simp [lO]; omega))
 first | refine aF.mk ((aBN e 400 (by omega) (by omega) (by omega)).sub (by repeat' (first | exact fN.nil | refine fN.cons ?_ ?_ | exact Sub.refl _ | (rw [aB.aR]; exact Sub.refl _) | exact Sub.fP rfl rfl rfl | exact Sub.ip (cH (by omega)) (by simp) | exact Sub.fP (cH (by omega)) rfl rfl | exact Sub.ip (by simp [*]) (by simp) | exact Sub.fP (by simp [*]) (by rfl) (by rfl)))) ?_ | refine aH.mk ((aBN e 400 (by omega) (by omega) (by omega)).sub (by repeat' (first | exact fN.nil | refine fN.cons ?_ ?_ | exact Sub.refl _ | (rw [aB.aR]; exact Sub.refl _) | exact Sub.fP rfl rfl rfl | exact Sub.ip (cH (by omega)) (by simp) | exact Sub.fP (cH (by omega)) rfl rfl | exact Sub.ip (by simp [*]) (by simp) | exact Sub.fP (by simp [*]) (by rfl) (by rfl)))) ?_
 simp -dsimp -implicitDefEqProofs only [go_sem, ↓reduceIte, Tryz.f115]
 repeat' (with_reducible first | intro _ | refine And.intro ?_ ?_)
 ·have hle : ((e.s + 1 : Nat) : Int) ≤ 400 := aG3.1 (by assumption)
  first | refine aF.mk ((aGY e (by omega)).sub (by repeat' (first | exact fN.nil | refine fN.cons ?_ ?_ | exact Sub.refl _ | (rw [aB.aR]; exact Sub.refl _) | exact Sub.fP rfl rfl rfl | exact Sub.ip (cH (by omega)) (by simp) | exact Sub.fP (cH (by omega)) rfl rfl | exact Sub.ip (by simp [*]) (by simp) | exact Sub.fP (by simp [*]) (by rfl) (by rfl)))) ?_ | refine aH.mk ((aGY e (by omega)).sub (by repeat' (first | exact fN.nil | refine fN.cons ?_ ?_ | exact Sub.refl _ | (rw [aB.aR]; exact Sub.refl _) | exact Sub.fP rfl rfl rfl | exact Sub.ip (cH (by omega)) (by simp) | exact Sub.fP (cH (by omega)) rfl rfl | exact Sub.ip (by simp [*]) (by simp) | exact Sub.fP (by simp [*]) (by rfl) (by rfl)))) ?_
  simp -dsimp -implicitDefEqProofs only [go_sem, ↓reduceIte, Tryz.f115]
  repeat' (with_reducible first | intro _ | refine And.intro ?_ ?_)
  ·first | refine aF.mk ((aKX p e vars funcs (by omega) (by omega) (by omega) (by omega) hps).sub (by repeat' (first | exact fN.nil | refine fN.cons ?_ ?_ | exact Sub.refl _ | (rw [aB.aR]; exact Sub.refl _) | exact Sub.fP rfl rfl rfl | exact Sub.ip (cH (by omega)) (by simp) | exact Sub.fP (cH (by omega)) rfl rfl | exact Sub.ip (by simp [*]) (by simp) | exact Sub.fP (by simp [*]) (by rfl) (by rfl)))) ?_ | refine aH.mk ((aKX p e vars funcs (by omega) (by omega) (by omega) (by omega) hps).sub (by repeat' (first | exact fN.nil | refine fN.cons ?_ ?_ | exact Sub.refl _ | (rw [aB.aR]; exact Sub.refl _) | exact Sub.fP rfl rfl rfl | exact Sub.ip (cH (by omega)) (by simp) | exact Sub.fP (cH (by omega)) rfl rfl | exact Sub.ip (by simp [*]) (by simp) | exact Sub.fP (by simp [*]) (by rfl) (by rfl)))) ?_
   simp -dsimp -implicitDefEqProofs only [go_sem, ↓reduceIte, Tryz.f115]
   rw [decide_eq_decide]
   exact ⟨fun q => ⟨by omega, by omega, by omega, by omega, q⟩, fun q => q.2.2.2.2⟩
  ·exact (decide_eq_false fun q => by have := q.2.2.2.1; omega).symm
 ·rename_i hn
  exact (decide_eq_false fun q => hn (aG3.2 (by have := q.2.2.1; omega))).symm
@[go_sem] def a01 : List Nat := [0, 1, 2, 3, 4, 5, 8]
@[go_sem] def bD6 : List Nat := [4, 5]
@[go_sem] def bD7 : Marks := fun _ => ([], .nil, [])
theorem aUH (p : aE) (e : aB) (vars funcs : Int) (hs : e.s ≤ 4294966296) (hps : p.s ≤ 4294967296) : gV Tryz.prog 101 [.agg p.c, .agg e.c, I vars, I funcs] (.bool (decide (lO p e vars funcs))) := by
 have h1 := aGW e (by omega)
 have h2 := aJC e (by omega)
 simp only [aB.aR] at h1 h2
 simp only [aE.aR, aB.aR]
 refine gD 36 a01 bD6 bD7 mix Tryz.func101 rfl (by kernel_rfl) (by simp) fun h => ?_
 simp -dsimp -implicitDefEqProofs only [go_sem, ↓reduceIte, Tryz.f101]
 first | refine aH.mk (aFA vars) ?_ | refine aF.mk (aFA vars) ?_ | refine aH.bY (aFA vars) ?_ | refine aF.mk (bQ.fJ (aFA vars)) ?_
 simp -dsimp -implicitDefEqProofs only [go_sem, ↓reduceIte, Tryz.f101]
 repeat' (with_reducible first | intro _ | refine And.intro ?_ ?_)
 all_goals try (first | (simp [lO, *]; done) | omega | (grind [lO]) | (simp [lO]; omega))
 first | refine aH.mk (within funcs 0 p.aI.length) ?_ | refine aF.mk (within funcs 0 p.aI.length) ?_ | refine aH.bY (within funcs 0 p.aI.length) ?_ | refine aF.mk (bQ.fJ (within funcs 0 p.aI.length)) ?_
 simp -dsimp -implicitDefEqProofs only [go_sem, ↓reduceIte, Tryz.f101]
 repeat' (with_reducible first | intro _ | refine And.intro ?_ ?_)
 all_goals try (first | (simp [lO, *]; done) | omega | (grind [lO]) | (simp [lO]; omega))
 first | refine aH.mk (h1) ?_ | refine aF.mk (h1) ?_ | refine aH.bY (h1) ?_ | refine aF.mk (bQ.fJ (h1)) ?_
 simp -dsimp -implicitDefEqProofs only [go_sem, ↓reduceIte, Tryz.f101]
 repeat' (with_reducible first | intro _ | refine And.intro ?_ ?_)
 ·first | refine aH.mk (h2) ?_ | refine aF.mk (h2) ?_ | refine aH.bY (h2) ?_ | refine aF.mk (bQ.fJ (h2)) ?_
  simp -dsimp -implicitDefEqProofs only [go_sem, ↓reduceIte, Tryz.f101]
  repeat' (with_reducible first | intro _ | refine And.intro ?_ ?_)
  ·have h3 := aBQ p e vars funcs (by omega) (by omega) (by omega) (by omega) hps
   simp only [aB.aR] at h3
   first | refine aH.mk (h3) ?_ | refine aF.mk (h3) ?_ | refine aH.bY (h3) ?_ | refine aF.mk (bQ.fJ (h3)) ?_
   simp -dsimp -implicitDefEqProofs only [go_sem, ↓reduceIte, Tryz.f101]
   rw [decide_eq_decide]
   exact ⟨fun q => ⟨by omega, by omega, by omega, by omega, q⟩, fun q => q.2.2.2.2⟩
  ·exact (decide_eq_false fun q => by have := q.2.2.2.1; omega).symm
 ·exact (decide_eq_false fun q => by have := q.2.2.1; omega).symm
@[go_sem] def aQF : List Nat := [0, 1, 4, 5, 6, 7, 8, 37, 40, 55, 62, 90]
@[go_sem] def a7P : List Nat := []
@[go_sem] def a7Q : Marks := fun id => match id with | 7 => ([], (.op 0 (.op 1 (.op 2 (.op 3 (.op 4 (.op 5 (.op 6 (.op 7 (.op 8 (.op 9 (.op 10 (.op 11 (.op 12 .nil))))))))))))), []) | 14 => ([], (.op 0 (.op 1 (.op 2 (.op 3 (.op 4 (.op 5 (.op 6 (.op 7 (.op 8 (.op 9 (.op 10 (.op 11 (.op 12 (.op 13 (.op 14 (.op 15 (.op 16 (.op 17 .nil)))))))))))))))))), []) | _ => ([], .nil, [])
theorem aSC (p : aE) (k : Nat) (f : aS) (ef : p.aI[k]? = some f) (hps : p.s ≤ 4194304) : gV Tryz.prog 87 [.ip 1 [p.c] 0 0, I k] (.bool (decide (yN p k f))) := by
 have hk : k < p.aI.length := (List.getElem?_eq_some_iff.1 ef).1
 have hfs := aE.aG0 (List.mem_of_getElem? ef)
 have hl := p.aGZ
 have hos := f.aG1
 simp only [aE.aR]
 have no (q : ¬ (aAP f.j5 ∧ (0 ≤ f.aZ ∧ f.aZ ≤ 12) ∧ (1 ≤ (f.aW.length : Int) ∧ (f.aW.length : Int) ≤ 12))) : false = decide (yN p k f) := (decide_eq_false fun z => q ⟨z.1, z.2.1, z.2.2.1⟩).symm
 refine gD 91 aQF a7P a7Q mix Tryz.func87 rfl (by kernel_rfl) (by simp) fun h => ?_
 simp -dsimp -implicitDefEqProofs only [go_sem, ↓reduceIte, Tryz.f87, ef, aS.aR, Int.toNat_natCast]
 repeat' (with_reducible first | intro _ | refine And.intro ?_ ?_)
 all_goals try omega
 first | refine aH.mk (wJ f.j5) ?_ | refine aF.mk (wJ f.j5) ?_ | refine aH.bY (wJ f.j5) ?_ | refine aF.mk (bQ.fJ (wJ f.j5)) ?_
 simp -dsimp -implicitDefEqProofs only [go_sem, ↓reduceIte, Tryz.f87, ef, aS.aR]
 repeat' (with_reducible first | intro _ | refine And.intro ?_ ?_)
 ·first | refine aH.mk (fI f.aZ 0 12) ?_ | refine aF.mk (fI f.aZ 0 12) ?_ | refine aH.bY (fI f.aZ 0 12) ?_ | refine aF.mk (bQ.fJ (fI f.aZ 0 12)) ?_
  simp -dsimp -implicitDefEqProofs only [go_sem, ↓reduceIte, Tryz.f87, ef, aS.aR]
  repeat' (with_reducible first | intro _ | refine And.intro ?_ ?_)
  ·first | refine aH.mk (fI f.aW.length 1 12) ?_ | refine aF.mk (fI f.aW.length 1 12) ?_ | refine aH.bY (fI f.aW.length 1 12) ?_ | refine aF.mk (bQ.fJ (fI f.aW.length 1 12)) ?_
   simp -dsimp -implicitDefEqProofs only [go_sem, ↓reduceIte, Tryz.f87, ef, aS.aR]
   repeat' (with_reducible first | intro _ | refine And.intro ?_ ?_)
   ·exact no fun z => by simp_all
   ·rename_i q1 q2 q3
    refine dA (keep := aQF) (ib := a7P) (mk := a7Q) mix (by kernel_rfl) (fun j : Nat => [(0, .ip 1 [p.c] 0 0), (1, I k), (5, .ip 3 (p.aI.map aS.c) k 0), (6, I j)]) (fun _ => h) (fun j => j ≤ k ∧ ∀ g ∈ p.aI.take j, g.j5 ≠ f.j5) (fun j => k - j) 0 (by refine ⟨by simp [dF, b6, aE.aR], by repeat' (with_reducible first | exact aA.le_refl _ | refine (aP (by first | assumption | exact And.right (by assumption) | exact cW.2 (by assumption))).2 ?_), by simp⟩) ?_
    intro j ⟨hj, hp⟩
    simp only [aE.aR]
    rcases Nat.lt_or_ge j k with hlt | hge
    ·have eg : p.aI[j]? = some p.aI[j] := List.getElem?_eq_getElem (by omega)
     simp -dsimp -implicitDefEqProofs only [go_sem, ↓reduceIte, Tryz.f87, ef, eg, aS.aR, Int.toNat_natCast]
     repeat' (with_reducible first | intro _ | refine And.intro ?_ ?_)
     all_goals try omega
     ·rename_i he
      refine (decide_eq_false fun z => z.2.2.2.1 p.aI[j] ?_ he).symm
      exact List.mem_take_iff_getElem.2 ⟨j, by omega, rfl⟩
     ·rename_i he
      refine ⟨j + 1, ?_⟩
      repeat' (with_reducible refine And.intro ?_ ?_)
      all_goals try (rw [IntWalk.i64_in _ (by omega)]; first | rfl | omega)
      all_goals try omega
      all_goals try (repeat' (with_reducible first | exact aA.le_refl _ | refine (aP (by first | assumption | exact And.right (by assumption) | exact cW.2 (by assumption))).2 ?_))
      all_goals try (simp only [aE.aR]; done)
      exact j8 (P := fun g : aS => g.j5 ≠ f.j5) (by omega) hp he
    ·have hj' : j = k := by omega
     rw [hj'] at hp
     simp -dsimp -implicitDefEqProofs only [go_sem, ↓reduceIte, Tryz.f87, hj', Int.lt_irrefl]
     have part (i : Nat) (hi : i < f.aW.length) : i + ((f.aW.take i).map aB.s).sum + f.aW[i].s + 1 ≤ p7 aB.s f.aW := by
      have h1 := lD aB.s f.aW i hi
      have h2 := tW aB.s f.aW (i + 1)
      rw [lC]; omega
     have hszs : p7 aB.s f.aW ≤ f.s := by rw [f.tA]; omega
     refine dA (keep := aQF) (ib := a7P) (mk := a7Q) mix (by kernel_rfl) (fun i : Nat => [(0, .ip 1 [p.c] 0 0), (1, I k), (5, .ip 3 (p.aI.map aS.c) k 0), (7, I (400 - (i + ((f.aW.take i).map aB.s).sum : Nat))), (8, I i)]) (fun _ => h) (fun i => i ≤ f.aW.length ∧ i + ((f.aW.take i).map aB.s).sum ≤ 400 ∧ ∀ e ∈ f.aW.take i, lO p e f.aZ k) (fun i => f.aW.length - i) 0 (by refine ⟨by simp [dF, b6, aE.aR], by repeat' (with_reducible first | exact aA.le_refl _ | refine (aP (by first | assumption | exact And.right (by assumption) | exact cW.2 (by assumption))).2 ?_), by simp⟩) ?_
     intro i ⟨hi, hsum, hall⟩
     simp only [aE.aR]
     rcases Nat.lt_or_ge i f.aW.length with hlt | hge
     ·have h1 := lD aB.s f.aW i hlt
      have hpt := part i hlt
      have hout := aS.a46 (List.getElem_mem hlt)
      simp -dsimp -implicitDefEqProofs only [go_sem, ↓reduceIte, Tryz.f87, ef, aS.aR, Int.toNat_natCast]
      repeat' (with_reducible first | intro _ | refine And.intro ?_ ?_)
      all_goals try omega
      first | refine aF.mk ((aBN f.aW[i] (400 - (i + ((f.aW.take i).map aB.s).sum : Nat)) (by omega) (by omega) (by omega)).sub (by repeat' (first | exact fN.nil | refine fN.cons ?_ ?_ | exact Sub.refl _ | (rw [aB.aR]; exact Sub.refl _) | exact Sub.fP rfl rfl rfl | exact Sub.ip (cH (by omega)) (by simp) | exact Sub.fP (cH (by omega)) rfl rfl | exact Sub.ip (by simp [*]) (by simp) | exact Sub.fP (by simp [*]) (by rfl) (by rfl)))) ?_ | refine aH.mk ((aBN f.aW[i] (400 - (i + ((f.aW.take i).map aB.s).sum : Nat)) (by omega) (by omega) (by omega)).sub (by repeat' (first | exact fN.nil | refine fN.cons ?_ ?_ | exact Sub.refl _ | (rw [aB.aR]; exact Sub.refl _) | exact Sub.fP rfl rfl rfl | exact Sub.ip (cH (by omega)) (by simp) | exact Sub.fP (cH (by omega)) rfl rfl | exact Sub.ip (by simp [*]) (by simp) | exact Sub.fP (by simp [*]) (by rfl) (by rfl)))) ?_
      simp -dsimp -implicitDefEqProofs only [go_sem, ↓reduceIte, Tryz.f87, ef, aS.aR]
      rcases aI9 (400 - (i + ((f.aW.take i).map aB.s).sum : Nat)) (f.aW[i].s + 1) with ⟨e, hl1⟩ | ⟨e, hl1⟩
      ·simp -dsimp -implicitDefEqProofs only [go_sem, ↓reduceIte, Tryz.f87, e]
       repeat' (with_reducible first | intro _ | refine And.intro ?_ ?_)
       all_goals try omega
       all_goals exact (decide_eq_false fun z => by have := z.2.2.2.2.1; omega).symm
      ·simp -dsimp -implicitDefEqProofs only [go_sem, ↓reduceIte, Tryz.f87, e]
       repeat' (with_reducible first | intro _ | refine And.intro ?_ ?_)
       all_goals try omega
       first | refine aF.mk ((aSB p f.aW[i] f.aZ k (by omega) (by omega)).sub (by repeat' (first | exact fN.nil | refine fN.cons ?_ ?_ | exact Sub.refl _ | (rw [aB.aR]; exact Sub.refl _) | exact Sub.fP rfl rfl rfl | exact Sub.ip (cH (by omega)) (by simp) | exact Sub.fP (cH (by omega)) rfl rfl | exact Sub.ip (by simp [*]) (by simp) | exact Sub.fP (by simp [*]) (by rfl) (by rfl)))) ?_ | refine aH.mk ((aSB p f.aW[i] f.aZ k (by omega) (by omega)).sub (by repeat' (first | exact fN.nil | refine fN.cons ?_ ?_ | exact Sub.refl _ | (rw [aB.aR]; exact Sub.refl _) | exact Sub.fP rfl rfl rfl | exact Sub.ip (cH (by omega)) (by simp) | exact Sub.fP (cH (by omega)) rfl rfl | exact Sub.ip (by simp [*]) (by simp) | exact Sub.fP (by simp [*]) (by rfl) (by rfl)))) ?_
       simp -dsimp -implicitDefEqProofs only [go_sem, ↓reduceIte, Tryz.f87, ef, aS.aR]
       repeat' (with_reducible first | intro _ | refine And.intro ?_ ?_)
       ·rename_i hn
        exact (decide_eq_false fun z => hn (z.2.2.2.2.2 _ (List.getElem_mem hlt))).symm
       ·rename_i hn
        refine ⟨i + 1, ?_⟩
        repeat' (with_reducible refine And.intro ?_ ?_)
        all_goals try (rw [IntWalk.i64_in _ (by omega)]; first | rfl | omega)
        all_goals try omega
        all_goals try (repeat' (with_reducible first | exact aA.le_refl _ | refine (aP (by first | assumption | exact And.right (by assumption) | exact cW.2 (by assumption))).2 ?_))
        all_goals try (simp only [aE.aR]; done)
        exact j8 (P := fun e => lO p e f.aZ k) hlt hall hn
     ·have hi' : i = f.aW.length := by omega
      subst hi'
      rw [List.take_length] at hsum hall
      simp -dsimp -implicitDefEqProofs only [go_sem, ↓reduceIte, Tryz.f87, ef, aS.aR, Nat.lt_irrefl]
      exact fun _ => (decide_eq_true ⟨by assumption, q1, q3, hp, by rw [lC]; omega, hall⟩).symm
  ·exact no fun z => by simp_all
 ·exact no fun z => by simp_all
@[go_sem] def aWZ : List Nat := [0, 2, 3, 9, 16, 22]
@[go_sem] def bD8 : List Nat := []
@[go_sem] def bD9 : Marks := fun _ => ([], .nil, [])
theorem a49 (p : aE) (hps : p.s ≤ 4194304) : gV Tryz.prog 57 [.ip 1 [p.c] 0 0] (.bool (decide p.ok)) := by
 simp only [aE.aR]
 refine gD 23 aWZ bD8 bD9 mix Tryz.func57 rfl (by kernel_rfl) (by simp) fun h => ?_
 simp -dsimp -implicitDefEqProofs only [go_sem, ↓reduceIte, Tryz.f57]
 repeat' (with_reducible first | intro _ | refine And.intro ?_ ?_)
 ·exact (decide_eq_false fun z => by have := z.1; omega).symm
 refine dA (keep := aWZ) (ib := bD8) (mk := bD9) mix (by kernel_rfl) (fun k : Nat => [(0, .ip 1 [p.c] 0 0), (3, I k)]) (fun _ => h) (fun k => k ≤ p.aI.length ∧ ∀ (j : Nat) (f : aS), j < k → p.aI[j]? = some f → yN p j f) (fun k => p.aI.length - k) 0 (by refine ⟨by simp [dF, b6, aE.aR], by repeat' (with_reducible first | exact aA.le_refl _ | refine (aP (by first | assumption | exact And.right (by assumption) | exact cW.2 (by assumption))).2 ?_), by simp⟩) ?_
 intro k ⟨hk, hp⟩
 simp only [aE.aR]
 rcases Nat.lt_or_ge k p.aI.length with hlt | hge
 ·have eg : p.aI[k]? = some p.aI[k] := List.getElem?_eq_getElem (by omega)
  simp -dsimp -implicitDefEqProofs only [go_sem, ↓reduceIte, Tryz.f57]
  repeat' (with_reducible first | intro _ | refine And.intro ?_ ?_)
  all_goals try omega
  first | refine aF.mk ((aSC p k p.aI[k] eg hps).sub (by repeat' (first | exact fN.nil | refine fN.cons ?_ ?_ | exact Sub.refl _ | (rw [aB.aR]; exact Sub.refl _) | exact Sub.fP rfl rfl rfl | exact Sub.ip (cH (by omega)) (by simp) | exact Sub.fP (cH (by omega)) rfl rfl | exact Sub.ip (by simp [*]) (by simp) | exact Sub.fP (by simp [*]) (by rfl) (by rfl)))) ?_ | refine aH.mk ((aSC p k p.aI[k] eg hps).sub (by repeat' (first | exact fN.nil | refine fN.cons ?_ ?_ | exact Sub.refl _ | (rw [aB.aR]; exact Sub.refl _) | exact Sub.fP rfl rfl rfl | exact Sub.ip (cH (by omega)) (by simp) | exact Sub.fP (cH (by omega)) rfl rfl | exact Sub.ip (by simp [*]) (by simp) | exact Sub.fP (by simp [*]) (by rfl) (by rfl)))) ?_
  simp -dsimp -implicitDefEqProofs only [go_sem, ↓reduceIte, Tryz.f57]
  repeat' (with_reducible first | intro _ | refine And.intro ?_ ?_)
  ·rename_i hn
   exact (decide_eq_false fun z => hn (z.2 k _ eg)).symm
  ·rename_i hn
   refine ⟨k + 1, ?_⟩
   repeat' (with_reducible refine And.intro ?_ ?_)
   all_goals try (rw [IntWalk.i64_in _ (by omega)]; first | rfl | omega)
   all_goals try omega
   all_goals try (repeat' (with_reducible first | exact aA.le_refl _ | refine (aP (by first | assumption | exact And.right (by assumption) | exact cW.2 (by assumption))).2 ?_))
   all_goals try (simp only [aE.aR]; done)
   intro j f hj ej
   rcases Nat.lt_succ_iff_lt_or_eq.1 hj with h1 | rfl
   ·exact hp j f h1 ej
   ·rw [eg] at ej; obtain rfl := Option.some.inj ej; exact hn
 ·have hk' : k = p.aI.length := by omega
  subst hk'
  simp -dsimp -implicitDefEqProofs only [go_sem, ↓reduceIte, Tryz.f57, Nat.lt_irrefl]
  exact fun _ => (decide_eq_true ⟨by omega, fun j f ej => hp j f (List.getElem?_eq_some_iff.1 ej).1 ej⟩).symm
set_option maxRecDepth 100000
open Go.Proofs
set_option linter.unusedVariables false
set_option linter.unusedSimpArgs false
@[go_sem] def aSD : List Nat := [0, 1, 4, 5, 7, 8, 9, 16]
@[go_sem] def a5A : List Nat := []
@[go_sem] def a5B : Marks := fun _ => ([], .nil, [])
theorem aQG (a : List aS) (p : aS → Bool) (g : FuncId) (cap : List aD) {h0 : aA} (hc : ∀ x ∈ a, bQ Tryz.prog g ([(.agg (aS.c x))] ++ cap) (.bool (p x)) h0) : bQ Tryz.prog 123 [(eI 3 aS.c a), .fn (.func g) [] cap] (I (idxOf p a)) h0 := by
 refine aEL 19 aSD a5A a5B mix Tryz.func123 rfl (by kernel_rfl) (by simp) fun h hle => ?_
 simp -dsimp -implicitDefEqProofs only [go_sem, ↓reduceIte, Tryz.f123, Tryz.f123]
 intro _
 refine dA (keep := aSD) (ib := a5A) (mk := a5B) mix (by kernel_rfl) (fun k : Nat => [(0, (eI 3 aS.c a)), (1, .fn (.func g) [] cap), (7, I a.length), (8, I k)]) (fun _ => h) (fun k => k ≤ a.length ∧ ∀ x ∈ a.take k, p x = false) (fun k => a.length - k) 0 (by simp [dF, b6, aA.le_refl]) ?_
 intro k ⟨hk, hp⟩
 rcases Nat.lt_or_ge k a.length with hlt | hge
 ·have ea : a[k]? = some a[k] := List.getElem?_eq_getElem hlt
  simp -dsimp -implicitDefEqProofs only [go_sem, ↓reduceIte, Tryz.f123, Tryz.f123, ea, aS.aR]
  repeat' (with_reducible first | intro _ | refine And.intro ?_ ?_)
  all_goals try omega
  have hx := hc a[k] (List.getElem_mem hlt)
  simp only [aS.aR] at hx
  refine aH.bY (hx.mono hle) ?_
  cases hpk : p a[k] with
  |true =>
   simp -dsimp -implicitDefEqProofs only [go_sem, ↓reduceIte, Tryz.f123, Tryz.f123]
   repeat' (with_reducible first | intro _ | refine And.intro ?_ ?_)
   all_goals first | exact (qK hlt hp hpk).symm | rfl | (rw [qK hlt hp hpk])
  |false =>
   simp -dsimp -implicitDefEqProofs only [go_sem, ↓reduceIte, Tryz.f123, Tryz.f123]
   refine ⟨k + 1, ?_⟩
   repeat' (with_reducible refine And.intro ?_ ?_)
   all_goals try (rw [IntWalk.i64_in _ (by omega)]; first | rfl | omega)
   all_goals try omega
   exact j8 (P := fun x => p x = false) hlt hp hpk
 ·have hk' : k = a.length := by omega
  subst hk'
  rw [List.take_length] at hp
  simp -dsimp -implicitDefEqProofs only [go_sem, ↓reduceIte, Tryz.f123, Tryz.f123, Nat.lt_irrefl]
  all_goals first | exact (qJ hp).symm | rw [qJ hp]
@[go_sem] def a7R : List Nat := [0, 1, 4]
@[go_sem] def bKW : List Nat := []
@[go_sem] def bKX : Marks := fun _ => ([], .nil, [])
theorem aQH (a : List aS) (p : aS → Bool) (g : FuncId) (cap : List aD) {h0 : aA} (hc : ∀ x ∈ a, bQ Tryz.prog g ([(.agg (aS.c x))] ++ cap) (.bool (p x)) h0) : bQ Tryz.prog 99 [(eI 3 aS.c a), .fn (.func g) [] cap] (.bool (a.any p)) h0 := by
 refine aEL 9 a7R bKW bKX mix Tryz.func99 rfl (by kernel_rfl) (by simp) fun h hle => ?_
 simp -dsimp -implicitDefEqProofs only [go_sem, ↓reduceIte, Tryz.f99, Tryz.f99]
 refine aH.bY ((aQG a p g cap hc).mono hle) ?_
 simp -dsimp -implicitDefEqProofs only [go_sem, ↓reduceIte, Tryz.f99, Tryz.f99]
 all_goals first | done | exact nM | rw [nM]
@[go_sem] def a02 : List Nat := [0, 1, 2, 3]
@[go_sem] def bEA : List Nat := [2]
@[go_sem] def bEB : Marks := fun _ => ([], .nil, [])
theorem aIP (g f : aS) (n : Nat) {h0 : aA} (hn : h0 n = some (.row 3 [f.c.map .v])) : bQ Tryz.prog 100 [.agg g.c, .op n 3 0 0] (.bool (decide (g.j5 = f.j5))) h0 := by
 simp only [aS.aR]
 have hg (h : aA) (hle : h0.le h) := aA.aKG hle hn
 refine aEL 9 a02 bEA bEB mix Tryz.func100 rfl (by kernel_rfl) (by simp) fun h hle => ?_
 simp -dsimp -implicitDefEqProofs only [go_sem, ↓reduceIte, Tryz.f100]
 have hn' := hg h hle
 simp only [aS.aR] at hn'
 simp -dsimp -implicitDefEqProofs only [go_sem, ↓reduceIte, Tryz.f100, hn']
@[go_sem] def aQI : List Nat := [0, 1, 2, 3, 4, 5, 7, 11, 13, 14, 15, 16, 31, 42, 44, 45, 46, 47, 56, 63]
@[go_sem] def a7S : List Nat := [1]
@[go_sem] def a7T : Marks := fun _ => ([], .nil, [])
theorem aKY (p : aE) (hps : p.s ≤ 4194304) : gV Tryz.prog 71 [.agg p.c] (.bool (decide p.ok)) := by
 simp only [aE.aR]
 refine gD 65 aQI a7S a7T mix Tryz.func71 rfl (by kernel_rfl) (by simp) fun h => ?_
 simp -dsimp -implicitDefEqProofs only [go_sem, ↓reduceIte, Tryz.f71]
 repeat' (with_reducible first | intro _ | refine And.intro ?_ ?_)
 ·exact (decide_eq_false fun z => by have := z.1; omega).symm
 refine dA (keep := aQI) (ib := a7S) (mk := a7T) mix (by kernel_rfl) (fun k : Nat => [(1, .ip 1 [p.c] 0 0), (13, eI 3 aS.c p.aI), (14, I p.aI.length), (15, I k)]) (fun _ => h) (fun k => k ≤ p.aI.length ∧ ∀ (j : Nat) (f : aS), j < k → p.aI[j]? = some f → yN p j f) (fun k => p.aI.length - k) 0 (by refine ⟨by simp [dF, b6, aE.aR], by repeat' (with_reducible first | exact aA.le_refl _ | refine (aP (by first | assumption | exact And.right (by assumption) | exact cW.2 (by assumption))).2 ?_), by simp⟩) ?_
 intro k ⟨hk, hp⟩
 simp only [aE.aR]
 rcases Nat.lt_or_ge k p.aI.length with hlt | hge
 ·obtain ⟨f, eg⟩ : ∃ f, p.aI[k]? = some f := ⟨_, List.getElem?_eq_getElem hlt⟩
  have hfs := aE.aG0 (List.mem_of_getElem? eg)
  have hos := f.aG1
  have no (q : ¬ yN p k f) : false = decide p.ok := (decide_eq_false fun z => q (z.2 k f eg)).symm
  simp -dsimp -implicitDefEqProofs only [go_sem, ↓reduceIte, Tryz.f71, eg, aS.aR, aM]
  repeat' (with_reducible first | intro _ | refine And.intro ?_ ?_)
  all_goals try omega
  rename_i n hn
  first | refine aH.mk (aKR f.j5) ?_ | refine aF.mk (aKR f.j5) ?_ | refine aH.bY (aKR f.j5) ?_ | refine aF.mk (bQ.fJ (aKR f.j5)) ?_
  simp -dsimp -implicitDefEqProofs only [go_sem, ↓reduceIte, Tryz.f71, aL, aM]
  repeat' (with_reducible first | intro _ | refine And.intro ?_ ?_)
  all_goals try (repeat' (with_reducible first | exact aA.le_refl _ | refine (aP (by first | assumption | exact And.right (by assumption) | exact cW.2 (by assumption))).2 ?_))
  all_goals try omega
  all_goals try (rename_i hnm; exact no fun z => hnm z.1)
  rename_i hnm
  rw [← List.map_take]
  refine aH.bY (aQH (p.aI.take k) (fun g => decide (g.j5 = f.j5)) 100 [.op n 3 0 0] fun g _ => aIP g f n (by simp [aL, aS.aR])) ?_
  simp -dsimp -implicitDefEqProofs only [go_sem, ↓reduceIte, Tryz.f71, aL, aM]
  repeat' (with_reducible first | intro _ | refine And.intro ?_ ?_)
  all_goals try (repeat' (with_reducible first | exact aA.le_refl _ | refine (aP (by first | assumption | exact And.right (by assumption) | exact cW.2 (by assumption))).2 ?_))
  ·rename_i q
   refine no fun z => ?_
   obtain ⟨g, j9, hg2⟩ := List.any_eq_true.1 q
   exact z.2.2.2.1 g j9 (by simpa using hg2)
  rename_i hnd
  have hnd' : ∀ g ∈ p.aI.take k, g.j5 ≠ f.j5 := fun g hg => by
   have := List.any_eq_false.1 hnd g hg
   simpa using this
  first | refine aH.mk (within f.aZ 0 12) ?_ | refine aF.mk (within f.aZ 0 12) ?_ | refine aH.bY (within f.aZ 0 12) ?_ | refine aF.mk (bQ.fJ (within f.aZ 0 12)) ?_
  simp -dsimp -implicitDefEqProofs only [go_sem, ↓reduceIte, Tryz.f71, aL, aM]
  repeat' (with_reducible first | intro _ | refine And.intro ?_ ?_)
  all_goals try (repeat' (with_reducible first | exact aA.le_refl _ | refine (aP (by first | assumption | exact And.right (by assumption) | exact cW.2 (by assumption))).2 ?_))
  ·first | refine aH.mk (within f.aW.length 1 12) ?_ | refine aF.mk (within f.aW.length 1 12) ?_ | refine aH.bY (within f.aW.length 1 12) ?_ | refine aF.mk (bQ.fJ (within f.aW.length 1 12)) ?_
   simp -dsimp -implicitDefEqProofs only [go_sem, ↓reduceIte, Tryz.f71, aL, aM]
   repeat' (with_reducible first | intro _ | refine And.intro ?_ ?_)
   all_goals try (repeat' (with_reducible first | exact aA.le_refl _ | refine (aP (by first | assumption | exact And.right (by assumption) | exact cW.2 (by assumption))).2 ?_))
   ·rename_i q
    exact no fun z => q z.2.2.1
   ·rename_i q1 q2 q3 q4
    have part (i : Nat) (hi : i < f.aW.length) : i + ((f.aW.take i).map aB.s).sum + f.aW[i].s + 1 ≤ p7 aB.s f.aW := by
     have h1 := lD aB.s f.aW i hi
     have h2 := tW aB.s f.aW (i + 1)
     rw [lC]; omega
    have hszs : p7 aB.s f.aW ≤ f.s := by rw [f.tA]; omega
    refine dA (keep := aQI) (ib := a7S) (mk := a7T) mix (by kernel_rfl) (fun i : Nat => [(1, .ip 1 [p.c] 0 0), (3, I k), (4, .op n 3 0 0), (5, I ((i + ((f.aW.take i).map aB.s).sum : Nat) : Int)), (13, eI 3 aS.c p.aI), (14, I p.aI.length), (15, I k), (44, eI 5 aB.c f.aW), (45, I f.aW.length), (46, I i)]) (fun _ => aT h n (.row 3 [f.c.map .v])) (fun i => i ≤ f.aW.length ∧ ∀ e ∈ f.aW.take i, lO p e f.aZ k) (fun i => f.aW.length - i) 0 (by refine ⟨by simp [dF, b6, aE.aR], by simp [aS.aR, aA.le_refl], by simp⟩) ?_
    intro i ⟨hi, hall⟩
    simp only [aE.aR, aS.aR, List.map_cons, List.map_nil]
    rcases Nat.lt_or_ge i f.aW.length with nD | aKZ
    ·have h1 := lD aB.s f.aW i nD
     have hpt := part i nD
     have hout := aS.a46 (List.getElem_mem nD)
     have ee : f.aW[i]? = some f.aW[i] := List.getElem?_eq_getElem nD
     have hv := aUH p f.aW[i] f.aZ k (by omega) (by omega)
     have hz := aGW f.aW[i] (by omega)
     simp only [aB.aR, aE.aR] at hv hz
     simp -dsimp -implicitDefEqProofs only [go_sem, ↓reduceIte, Tryz.f71, ee, aB.aR, aM]
     repeat' (with_reducible first | intro _ | refine And.intro ?_ ?_)
     all_goals try omega
     rename_i m hm
     have hmn : (n = m) = False := eq_false fun e => hm.1 e.symm
     have a7U : (m = n) = False := eq_false hm.1
     simp -dsimp -implicitDefEqProofs only [go_sem, ↓reduceIte, Tryz.f71, aL, hmn, a7U]
     first | refine aH.mk (hv) ?_ | refine aF.mk (hv) ?_ | refine aH.bY (hv) ?_ | refine aF.mk (bQ.fJ (hv)) ?_
     simp -dsimp -implicitDefEqProofs only [go_sem, ↓reduceIte, Tryz.f71, aL, hmn, a7U]
     repeat' (with_reducible first | intro _ | refine And.intro ?_ ?_)
     ·rename_i hne
      exact no fun z => hne (z.2.2.2.2.2 _ (List.getElem_mem nD))
     ·all_goals try (repeat' (with_reducible first | exact aA.le_refl _ | refine (aP (by first | assumption | exact And.right (by assumption) | exact cW.2 (by assumption))).2 ?_))
     ·rename_i hne
      first | refine aH.mk (hz) ?_ | refine aF.mk (hz) ?_ | refine aH.bY (hz) ?_ | refine aF.mk (bQ.fJ (hz)) ?_
      simp -dsimp -implicitDefEqProofs only [go_sem, ↓reduceIte, Tryz.f71, aL, hmn, a7U]
      refine ⟨i + 1, ?_⟩
      repeat' (with_reducible refine And.intro ?_ ?_)
      all_goals try (rw [IntWalk.i64_in _ (by omega)]; first | rfl | omega)
      all_goals try omega
      all_goals try (repeat' (with_reducible first | exact aA.le_refl _ | refine (aP (by first | assumption | exact And.right (by assumption) | exact cW.2 (by assumption))).2 ?_))
      all_goals try (simp only [aE.aR]; done)
      exact j8 (P := fun e => lO p e f.aZ k) nD hall hne
    ·have hi' : i = f.aW.length := by omega
     subst hi'
     rw [List.take_length] at hall ⊢
     simp -dsimp -implicitDefEqProofs only [go_sem, ↓reduceIte, Tryz.f71, Nat.lt_irrefl]
     have hss : p7 aB.s f.aW = f.aW.length + (f.aW.map aB.s).sum := lC _ _
     repeat' (with_reducible first | intro _ | refine And.intro ?_ ?_)
     all_goals try (repeat' (with_reducible first | exact aA.le_refl _ | refine (aP (by first | assumption | exact And.right (by assumption) | exact cW.2 (by assumption))).2 ?_))
     ·rename_i q
      exact no fun z => by have := z.2.2.2.2.1; omega
     ·rename_i q
      have hfk : yN p k f := ⟨hnm, q1, q3, hnd', by omega, hall⟩
      refine ⟨k + 1, ?_⟩
      repeat' (with_reducible refine And.intro ?_ ?_)
      all_goals try (rw [IntWalk.i64_in _ (by omega)]; first | rfl | omega)
      all_goals try omega
      all_goals try (repeat' (with_reducible first | exact aA.le_refl _ | refine (aP (by first | assumption | exact And.right (by assumption) | exact cW.2 (by assumption))).2 ?_))
      intro j f' hj ej
      rcases Nat.lt_succ_iff_lt_or_eq.1 hj with h1 | rfl
      ·exact hp j f' h1 ej
      ·rw [eg] at ej; obtain rfl := Option.some.inj ej; exact hfk
  ·rename_i q
   exact no fun z => q z.2.1
 ·have hk' : k = p.aI.length := by omega
  subst hk'
  simp -dsimp -implicitDefEqProofs only [go_sem, ↓reduceIte, Tryz.f71, Nat.lt_irrefl]
  exact (decide_eq_true ⟨by omega, fun j f ej => hp j f (List.getElem?_eq_some_iff.1 ej).1 ej⟩).symm
end Go.Hl

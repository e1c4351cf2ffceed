/-
  Contracts of functions and laws of the layer over the walk.
-/
import Derived.Test.YtoomflalicffnaaGreatVvE
import Derived.Test.YtoomflalicffnaaGreatVvB
import Derived.Test.YtoomflalicffnaaGreatVvA
namespace Go.Hl
open Go.Proofs
set_option linter.unusedVariables false
set_option linter.unusedSimpArgs false
def l7 (l : List Int) : bL := .row 1 ((l.map fun n => [I n]).map (List.map .v))
set_option maxRecDepth 100000
theorem aK4 (l : List aA) (left : Int) (h0 : 0 ≤ left) (h1 : left ≤ 1048576) (hc : ∀ x ∈ l, ∀ left : Int, 0 ≤ left → left ≤ 1048576 → dV Tryz.prog 207 [(.agg (aA.c x)), I left] (I (lft left ((aA.s x))))) : dV Tryz.prog 182 [dB 5 aA.c l, I left] (I (lft left (tH aA.s l))) := by
 refine dS 27 aOL bT bD mix Tryz.func182 rfl (by kernel_rfl) (by simp) fun h => ?_
 simp -dsimp -implicitDefEqProofs only [go_sem, Tryz.f182, ↓reduceIte]
 intro hl
 rw [IntWalk.i64_in _ (by omega)]
 refine ⟨fun hn => ?_, fun hn => ?_⟩
 ·exact (tJ (by rw [iW]; omega)).symm
 ·refine bX (keep := aOL) (ib := bT) (mk := bD) mix (by kernel_rfl) (fun k : Nat => [(0, dB 5 aA.c l), (1, I (left - l.length - (((l.take k).map aA.s).sum : Int))), (5, I k)]) (fun _ => h) (fun k => k ≤ l.length ∧ 0 ≤ left - l.length - (((l.take k).map aA.s).sum : Int)) (fun k => l.length - k) 0 (by simp [b8, bJ, aB.le_refl]; omega) ?_
  intro k ⟨hk, hb⟩
  rcases Nat.lt_or_ge k l.length with hlt | hge
  ·have ea : l[k]? = some l[k] := List.getElem?_eq_getElem hlt
   simp -dsimp -implicitDefEqProofs only [go_sem, ↓reduceIte, Tryz.f182, ea, aA.aN]
   refine fun _ => ⟨fun _ => ⟨hlt, ?_⟩, fun hn => absurd hlt hn⟩
   have hx := hc l[k] (List.getElem_mem hlt) (left - l.length - (((l.take k).map aA.s).sum : Int)) (by omega) (by omega)
   simp only [aA.aN] at hx
   refine aG.mk hx ?_
   have hs := gY aA.s l k hlt
   have hs' := mT aA.s l (k + 1)
   try dsimp only at hs
   rcases pU (left - l.length - (((l.take k).map aA.s).sum : Int)) ((aA.s l[k])) with ⟨e, hl1⟩ | ⟨e, hl1⟩
   ·simp -dsimp -implicitDefEqProofs only [go_sem, ↓reduceIte, Tryz.f182, e]
    exact (tJ (by rw [iW]; omega)).symm
   ·have w7 : (left - l.length - (((l.take k).map aA.s).sum : Int) - ((aA.s l[k]) : Int) < 0) = False := eq_false (by omega)
    simp -dsimp -implicitDefEqProofs only [go_sem, ↓reduceIte, Tryz.f182, e, w7]
    refine ⟨k + 1, ⟨?_, ?_⟩, ⟨by omega, by rw [hs]; omega⟩, by omega⟩
    ·rw [hs]; omega
    ·rw [IntWalk.i64_in _ (by omega)]; rfl
  ·have hk' : k = l.length := by omega
   subst hk'
   simp -dsimp -implicitDefEqProofs only [go_sem, ↓reduceIte, Tryz.f182, Nat.lt_irrefl]
   refine fun _ => ?_
   rw [List.take_length] at hb ⊢
   rw [yN (by rw [iW]; omega), iW]
   omega
theorem aID (x : aA) (left : Int) (h0 : 0 ≤ left) (h1 : left ≤ 1048576) (hk : ∀ left : Int, 0 ≤ left → left ≤ 1048576 → dV Tryz.prog 182 [(dB 5 aA.c x.aI), I left] (I (lft left (tH aA.s x.aI)))) : dV Tryz.prog 207 [.agg x.c, I left] (I (lft left x.s)) := by
 rw [aA.n8]
 simp only [aA.aN]
 refine dS 12 aZK aML bD mix Tryz.func207 rfl (by kernel_rfl) (by simp) fun h => ?_
 simp -dsimp -implicitDefEqProofs only [go_sem, Tryz.f207, ↓reduceIte]
 refine aG.mk (hk left (by omega) (by omega)) ?_
 rcases pU left (tH aA.s x.aI) with ⟨e, hl1⟩ | ⟨e, hl1⟩
 ·simp -dsimp -implicitDefEqProofs only [go_sem, ↓reduceIte, Tryz.f207, e]
 ·have w7 : (left - ((tH aA.s x.aI) : Int) < 0) = False := eq_false (by omega)
  simp -dsimp -implicitDefEqProofs only [go_sem, ↓reduceIte, Tryz.f207, e, w7]
 try (rw [yN (by omega)]; omega)
theorem aPS (x : aA) (left : Int) (h0 : 0 ≤ left) (h1 : left ≤ 1048576) : dV Tryz.prog 207 [.agg x.c, I left] (I (lft left x.s)) :=
 aID x left h0 h1 fun left h0 h1 => aK4 x.aI left h0 h1 fun y hy left h0 h1 => aPS y left h0 h1
termination_by SizeOf.sizeOf x
decreasing_by exact aA.qB hy
@[go_sem] def aXU : List Nat := [0, 1, 2, 4, 11, 17]
theorem aXV (x : aP) (left : Int) (h0 : 0 ≤ left) (h1 : left ≤ 1048576) : dV Tryz.prog 123 [.agg x.c, I left] (I (lft left x.s)) := by
 rw [aP.n8]
 simp only [aP.aN]
 refine dS 19 aXU aML bD mix Tryz.func123 rfl (by kernel_rfl) (by simp) fun h => ?_
 simp -dsimp -implicitDefEqProofs only [go_sem, Tryz.f123, ↓reduceIte]
 refine fun hl0 => ?_
 rw [IntWalk.i64_in _ (by omega)]
 generalize hL0 : left - ((x.hJ.length : Nat) : Int) = L0
 refine ⟨fun hn => (tJ (by omega)).symm, fun hn0 => ?_⟩
 refine aG.mk (aK4 x.aM (L0) (by omega) (by omega) (fun x _ left h0 h1 => aPS x left h0 h1)) ?_
 generalize hL1 : lft (L0) (tH aA.s x.aM) = L1
 simp -dsimp -implicitDefEqProofs only [go_sem, ↓reduceIte, Tryz.f123]
 have jF := aJ2 hL1
 refine ⟨fun hn => (tJ (by have := jF.1 hn; omega)).symm, fun w7 => ?_⟩
 have hp1 := jF.2 w7
 clear jF hL1
 try (rw [yN (by omega)]; omega)
theorem aTU (l : List aP) (left : Int) (h0 : 0 ≤ left) (h1 : left ≤ 1048576) (hc : ∀ x ∈ l, ∀ left : Int, 0 ≤ left → left ≤ 1048576 → dV Tryz.prog 123 [(.agg (aP.c x)), I left] (I (lft left ((aP.s x))))) : dV Tryz.prog 46 [dB 3 aP.c l, I left] (I (lft left (tH aP.s l))) := by
 refine dS 27 aOL bT bD mix Tryz.func46 rfl (by kernel_rfl) (by simp) fun h => ?_
 simp -dsimp -implicitDefEqProofs only [go_sem, Tryz.f46, ↓reduceIte]
 intro hl
 rw [IntWalk.i64_in _ (by omega)]
 refine ⟨fun hn => ?_, fun hn => ?_⟩
 ·exact (tJ (by rw [iW]; omega)).symm
 ·refine bX (keep := aOL) (ib := bT) (mk := bD) mix (by kernel_rfl) (fun k : Nat => [(0, dB 3 aP.c l), (1, I (left - l.length - (((l.take k).map aP.s).sum : Int))), (5, I k)]) (fun _ => h) (fun k => k ≤ l.length ∧ 0 ≤ left - l.length - (((l.take k).map aP.s).sum : Int)) (fun k => l.length - k) 0 (by simp [b8, bJ, aB.le_refl]; omega) ?_
  intro k ⟨hk, hb⟩
  rcases Nat.lt_or_ge k l.length with hlt | hge
  ·have ea : l[k]? = some l[k] := List.getElem?_eq_getElem hlt
   simp -dsimp -implicitDefEqProofs only [go_sem, ↓reduceIte, Tryz.f46, ea, aP.aN]
   refine fun _ => ⟨fun _ => ⟨hlt, ?_⟩, fun hn => absurd hlt hn⟩
   have hx := hc l[k] (List.getElem_mem hlt) (left - l.length - (((l.take k).map aP.s).sum : Int)) (by omega) (by omega)
   simp only [aP.aN] at hx
   refine aG.mk hx ?_
   have hs := gY aP.s l k hlt
   have hs' := mT aP.s l (k + 1)
   try dsimp only at hs
   rcases pU (left - l.length - (((l.take k).map aP.s).sum : Int)) ((aP.s l[k])) with ⟨e, hl1⟩ | ⟨e, hl1⟩
   ·simp -dsimp -implicitDefEqProofs only [go_sem, ↓reduceIte, Tryz.f46, e]
    exact (tJ (by rw [iW]; omega)).symm
   ·have w7 : (left - l.length - (((l.take k).map aP.s).sum : Int) - ((aP.s l[k]) : Int) < 0) = False := eq_false (by omega)
    simp -dsimp -implicitDefEqProofs only [go_sem, ↓reduceIte, Tryz.f46, e, w7]
    refine ⟨k + 1, ⟨?_, ?_⟩, ⟨by omega, by rw [hs]; omega⟩, by omega⟩
    ·rw [hs]; omega
    ·rw [IntWalk.i64_in _ (by omega)]; rfl
  ·have hk' : k = l.length := by omega
   subst hk'
   simp -dsimp -implicitDefEqProofs only [go_sem, ↓reduceIte, Tryz.f46, Nat.lt_irrefl]
   refine fun _ => ?_
   rw [List.take_length] at hb ⊢
   rw [yN (by rw [iW]; omega), iW]
   omega
theorem aNF (x : aC) (left : Int) (h0 : 0 ≤ left) (h1 : left ≤ 1048576) : dV Tryz.prog 7 [.agg x.c, I left] (I (lft left x.s)) := by
 rw [aC.n8]
 simp only [aC.aN]
 refine dS 12 aZK aML bD mix Tryz.func7 rfl (by kernel_rfl) (by simp) fun h => ?_
 simp -dsimp -implicitDefEqProofs only [go_sem, Tryz.f7, ↓reduceIte]
 refine aG.mk (aTU x.aJ left (by omega) (by omega) (fun x _ left h0 h1 => aXV x left h0 h1)) ?_
 rcases pU left (tH aP.s x.aJ) with ⟨e, hl1⟩ | ⟨e, hl1⟩
 ·simp -dsimp -implicitDefEqProofs only [go_sem, ↓reduceIte, Tryz.f7, e]
 ·have w7 : (left - ((tH aP.s x.aJ) : Int) < 0) = False := eq_false (by omega)
  simp -dsimp -implicitDefEqProofs only [go_sem, ↓reduceIte, Tryz.f7, e, w7]
 try (rw [yN (by omega)]; omega)
theorem aK5 (a b : List aA) (hc : ∀ x ∈ a, ∀ y, dV Tryz.prog 212 [(.agg (aA.c x)), (.agg (aA.c y))] (.bool (decide (x = y)))) : dV Tryz.prog 189 [(dB 5 aA.c a), (dB 5 aA.c b)] (.bool (decide (a = b))) := by
 refine dS 27 aFS bT aFT mix Tryz.func189 rfl (by kernel_rfl) (by simp) fun h => ?_
 simp -dsimp -implicitDefEqProofs only [go_sem, Tryz.f189, ↓reduceIte]
 refine fun _ _ => ⟨fun hne => ?_, fun heq => ?_⟩
 ·exact (decide_eq_false fun e => hne (by rw [e])).symm
 ·refine bX (keep := aFS) (ib := bT) (mk := aFT) mix (by kernel_rfl) (fun k : Nat => [(0, (dB 5 aA.c a)), (1, (dB 5 aA.c b)), (5, I k)]) (fun _ => h) (fun k => k ≤ a.length ∧ a.take k = b.take k) (fun k => a.length - k) 0 (by simp [b8, bJ, aB.le_refl]) ?_
  intro k ⟨hk, hp⟩
  rcases Nat.lt_or_ge k a.length with hlt | hge
  ·have hlb : k < b.length := by omega
   have ea : a[k]? = some a[k] := List.getElem?_eq_getElem hlt
   have eb : b[k]? = some b[k] := List.getElem?_eq_getElem hlb
   simp -dsimp -implicitDefEqProofs only [go_sem, ↓reduceIte, Tryz.f189, ea, eb, aA.aN]
   refine fun _ => ⟨fun _ => ⟨hlt, hlb, ?_⟩, fun hn => absurd hlt hn⟩
   have hx := hc a[k] (List.getElem_mem hlt) b[k]
   simp only [aA.aN] at hx
   refine aE.mk hx ?_
   by_cases he : a[k] = b[k]
   ·have d := decide_eq_true he
    simp -dsimp -implicitDefEqProofs only [go_sem, ↓reduceIte, Tryz.f189, d]
    exact ⟨k + 1, by rw [IntWalk.i64_in _ (by omega)]; rfl, ⟨by omega, wB hlt hlb hp he⟩, by omega⟩
   ·have d := decide_eq_false he
    simp -dsimp -implicitDefEqProofs only [go_sem, ↓reduceIte, Tryz.f189, d]
    exact (decide_eq_false fun e => he (getElem_of_eq e hlt)).symm
  ·have hk' : k = a.length := by omega
   subst hk'
   simp -dsimp -implicitDefEqProofs only [go_sem, ↓reduceIte, Tryz.f189, Nat.lt_irrefl]
   exact fun _ => (decide_eq_true (tL heq hp)).symm
@[go_sem] def aXW : List Nat := [0, 1, 2, 3, 4, 9, 14, 19, 24, 30]
theorem aIE (a b : aA) (hk : dV Tryz.prog 189 [(dB 5 aA.c a.aI), (dB 5 aA.c b.aI)] (.bool (decide (a.aI = b.aI)))) : dV Tryz.prog 212 [.agg a.c, .agg b.c] (.bool (decide (a = b))) := by
 simp only [aA.aN]
 refine dS 31 aXW aSN bD mix Tryz.func212 rfl (by kernel_rfl) (by simp) fun h => ?_
 simp -dsimp -implicitDefEqProofs only [go_sem, Tryz.f212, ↓reduceIte]
 refine ⟨fun hn => (decide_eq_false fun e => hn (by rw [e])).symm, fun efKind => ?_⟩
 refine ⟨fun hn => (decide_eq_false fun e => hn (by rw [e])).symm, fun efNum => ?_⟩
 refine ⟨fun hn => (decide_eq_false fun e => hn (by rw [e])).symm, fun efPick => ?_⟩
 refine ⟨fun hn => (decide_eq_false fun e => hn (by rw [e])).symm, fun efCount => ?_⟩
 refine aG.mk hk ?_
 by_cases efKids : a.aI = b.aI
 case neg =>
  have d := decide_eq_false efKids
  simp -dsimp -implicitDefEqProofs only [go_sem, ↓reduceIte, Tryz.f212, d]
  exact (decide_eq_false fun e => efKids (by rw [e])).symm
 have dfKids := decide_eq_true efKids
 simp -dsimp -implicitDefEqProofs only [go_sem, ↓reduceIte, Tryz.f212, dfKids]
 exact (decide_eq_true (aA.eq_iff.2 ⟨efKind, efNum, efPick, efCount, efKids⟩)).symm
theorem aPT (a b : aA) : dV Tryz.prog 212 [.agg a.c, .agg b.c] (.bool (decide (a = b))) :=
 aIE a b (aK5 a.aI b.aI fun x hx y => aPT x y)
termination_by SizeOf.sizeOf a
decreasing_by exact aA.qB hx
@[go_sem] def aXX : List Nat := [0, 1, 2, 3, 4, 9, 14, 20]
theorem aXY (a b : aP) : dV Tryz.prog 141 [.agg a.c, .agg b.c] (.bool (decide (a = b))) := by
 simp only [aP.aN]
 refine dS 21 aXX aSN bD mix Tryz.func141 rfl (by kernel_rfl) (by simp) fun h => ?_
 simp -dsimp -implicitDefEqProofs only [go_sem, Tryz.f141, ↓reduceIte]
 refine ⟨fun hn => (decide_eq_false fun e => hn (by rw [e])).symm, fun efName => ?_⟩
 refine ⟨fun hn => (decide_eq_false fun e => hn (by rw [e])).symm, fun efParams => ?_⟩
 refine aG.mk (aK5 a.aM b.aM (fun x _ y => (aPT x y))) ?_
 by_cases efOuts : a.aM = b.aM
 case neg =>
  have d := decide_eq_false efOuts
  simp -dsimp -implicitDefEqProofs only [go_sem, ↓reduceIte, Tryz.f141, d]
  exact (decide_eq_false fun e => efOuts (by rw [e])).symm
 have dfOuts := decide_eq_true efOuts
 simp -dsimp -implicitDefEqProofs only [go_sem, ↓reduceIte, Tryz.f141, dfOuts]
 exact (decide_eq_true (aP.eq_iff.2 ⟨efName, efParams, efOuts⟩)).symm
theorem aTV (a b : List aP) (hc : ∀ x ∈ a, ∀ y, dV Tryz.prog 141 [(.agg (aP.c x)), (.agg (aP.c y))] (.bool (decide (x = y)))) : dV Tryz.prog 63 [(dB 3 aP.c a), (dB 3 aP.c b)] (.bool (decide (a = b))) := by
 refine dS 27 aFS bT aFT mix Tryz.func63 rfl (by kernel_rfl) (by simp) fun h => ?_
 simp -dsimp -implicitDefEqProofs only [go_sem, Tryz.f63, ↓reduceIte]
 refine fun _ _ => ⟨fun hne => ?_, fun heq => ?_⟩
 ·exact (decide_eq_false fun e => hne (by rw [e])).symm
 ·refine bX (keep := aFS) (ib := bT) (mk := aFT) mix (by kernel_rfl) (fun k : Nat => [(0, (dB 3 aP.c a)), (1, (dB 3 aP.c b)), (5, I k)]) (fun _ => h) (fun k => k ≤ a.length ∧ a.take k = b.take k) (fun k => a.length - k) 0 (by simp [b8, bJ, aB.le_refl]) ?_
  intro k ⟨hk, hp⟩
  rcases Nat.lt_or_ge k a.length with hlt | hge
  ·have hlb : k < b.length := by omega
   have ea : a[k]? = some a[k] := List.getElem?_eq_getElem hlt
   have eb : b[k]? = some b[k] := List.getElem?_eq_getElem hlb
   simp -dsimp -implicitDefEqProofs only [go_sem, ↓reduceIte, Tryz.f63, ea, eb, aP.aN]
   refine fun _ => ⟨fun _ => ⟨hlt, hlb, ?_⟩, fun hn => absurd hlt hn⟩
   have hx := hc a[k] (List.getElem_mem hlt) b[k]
   simp only [aP.aN] at hx
   refine aE.mk hx ?_
   by_cases he : a[k] = b[k]
   ·have d := decide_eq_true he
    simp -dsimp -implicitDefEqProofs only [go_sem, ↓reduceIte, Tryz.f63, d]
    exact ⟨k + 1, by rw [IntWalk.i64_in _ (by omega)]; rfl, ⟨by omega, wB hlt hlb hp he⟩, by omega⟩
   ·have d := decide_eq_false he
    simp -dsimp -implicitDefEqProofs only [go_sem, ↓reduceIte, Tryz.f63, d]
    exact (decide_eq_false fun e => he (getElem_of_eq e hlt)).symm
  ·have hk' : k = a.length := by omega
   subst hk'
   simp -dsimp -implicitDefEqProofs only [go_sem, ↓reduceIte, Tryz.f63, Nat.lt_irrefl]
   exact fun _ => (decide_eq_true (tL heq hp)).symm
@[go_sem] def a24 : List Nat := [0, 1, 2, 3, 4, 10]
theorem aNG (a b : aC) : dV Tryz.prog 13 [.agg a.c, .agg b.c] (.bool (decide (a = b))) := by
 simp only [aC.aN]
 refine dS 11 a24 aSN bD mix Tryz.func13 rfl (by kernel_rfl) (by simp) fun h => ?_
 simp -dsimp -implicitDefEqProofs only [go_sem, Tryz.f13, ↓reduceIte]
 refine aG.mk (aTV a.aJ b.aJ (fun x _ y => (aXY x y))) ?_
 by_cases efFuncs : a.aJ = b.aJ
 case neg =>
  have d := decide_eq_false efFuncs
  simp -dsimp -implicitDefEqProofs only [go_sem, ↓reduceIte, Tryz.f13, d]
  exact (decide_eq_false fun e => efFuncs (by rw [e])).symm
 have dfFuncs := decide_eq_true efFuncs
 simp -dsimp -implicitDefEqProofs only [go_sem, ↓reduceIte, Tryz.f13, dfFuncs]
 exact (decide_eq_true (aC.eq_iff.2 efFuncs)).symm
@[go_sem] def aTW : List Nat := [0, 1, 4, 5, 10, 14, 25]
@[go_sem] def a8Q : Marks := fun id => match id with | 6 => ([], (.op 0 (.op 1 (.op 2 (.op 3 (.op 4 (.op 5 (.op 6 (.op 7 (.op 8 .nil))))))))), []) | _ => ([], .nil, [])
theorem sT (a b : List Int) : dV Tryz.prog 14 [(dB 1 (fun n => [I n]) a), (dB 1 (fun n => [I n]) b)] (.bool (decide (a = b))) := by
 refine dS 26 aTW bT a8Q mix Tryz.func14 rfl (by kernel_rfl) (by simp) fun h => ?_
 simp -dsimp -implicitDefEqProofs only [go_sem, Tryz.f14, ↓reduceIte]
 refine fun _ _ => ⟨fun hne => ?_, fun heq => ?_⟩
 ·exact (decide_eq_false fun e => hne (by rw [e])).symm
 ·refine bX (keep := aTW) (ib := bT) (mk := a8Q) mix (by kernel_rfl) (fun k : Nat => [(0, (dB 1 (fun n => [I n]) a)), (1, (dB 1 (fun n => [I n]) b)), (5, I k)]) (fun _ => h) (fun k => k ≤ a.length ∧ a.take k = b.take k) (fun k => a.length - k) 0 (by simp [b8, bJ, aB.le_refl]) ?_
  intro k ⟨hk, hp⟩
  rcases Nat.lt_or_ge k a.length with hlt | hge
  ·have hlb : k < b.length := by omega
   have ea : a[k]? = some a[k] := List.getElem?_eq_getElem hlt
   have eb : b[k]? = some b[k] := List.getElem?_eq_getElem hlb
   simp -dsimp -implicitDefEqProofs only [go_sem, ↓reduceIte, Tryz.f14, ea, eb]
   refine fun _ => ⟨fun _ => ⟨hlt, hlb, fun hne => ?_, fun he => ?_⟩, fun hn => absurd hlt hn⟩
   ·first
     |exact (decide_eq_false fun e => hne (getElem_of_eq e hlt)).symm
     |exact (decide_eq_false fun e => by have := getElem_of_eq e hlt (hb := hlb); rw [this] at hne; simp at hne).symm
   ·exact ⟨k + 1, by rw [IntWalk.i64_in _ (by omega)]; rfl, ⟨by omega, wB hlt hlb hp (by first | exact he | simpa using he)⟩, by omega⟩
  ·have hk' : k = a.length := by omega
   subst hk'
   simp -dsimp -implicitDefEqProofs only [go_sem, ↓reduceIte, Tryz.f14, Nat.lt_irrefl]
   exact fun _ => (decide_eq_true (tL heq hp)).symm
theorem xK (a b : List (List Int)) (hc : ∀ x ∈ a, ∀ y, dV Tryz.prog 14 [(dB 1 (fun n => [I n]) x), (dB 1 (fun n => [I n]) y)] (.bool (decide (x = y)))) : dV Tryz.prog 12 [(dB 1 (fun x => [dB 1 (fun n => [I n]) x]) a), (dB 1 (fun x => [dB 1 (fun n => [I n]) x]) b)] (.bool (decide (a = b))) := by
 refine dS 27 aFS bT aFT mix Tryz.func12 rfl (by kernel_rfl) (by simp) fun h => ?_
 simp -dsimp -implicitDefEqProofs only [go_sem, Tryz.f12, ↓reduceIte]
 refine fun _ _ => ⟨fun hne => ?_, fun heq => ?_⟩
 ·exact (decide_eq_false fun e => hne (by rw [e])).symm
 ·refine bX (keep := aFS) (ib := bT) (mk := aFT) mix (by kernel_rfl) (fun k : Nat => [(0, (dB 1 (fun x => [dB 1 (fun n => [I n]) x]) a)), (1, (dB 1 (fun x => [dB 1 (fun n => [I n]) x]) b)), (5, I k)]) (fun _ => h) (fun k => k ≤ a.length ∧ a.take k = b.take k) (fun k => a.length - k) 0 (by simp [b8, bJ, aB.le_refl]) ?_
  intro k ⟨hk, hp⟩
  rcases Nat.lt_or_ge k a.length with hlt | hge
  ·have hlb : k < b.length := by omega
   have ea : a[k]? = some a[k] := List.getElem?_eq_getElem hlt
   have eb : b[k]? = some b[k] := List.getElem?_eq_getElem hlb
   simp -dsimp -implicitDefEqProofs only [go_sem, ↓reduceIte, Tryz.f12, ea, eb]
   refine fun _ => ⟨fun _ => ⟨hlt, hlb, ?_⟩, fun hn => absurd hlt hn⟩
   have hx := hc a[k] (List.getElem_mem hlt) b[k]
   refine aE.mk hx ?_
   by_cases he : a[k] = b[k]
   ·have d := decide_eq_true he
    simp -dsimp -implicitDefEqProofs only [go_sem, ↓reduceIte, Tryz.f12, d]
    exact ⟨k + 1, by rw [IntWalk.i64_in _ (by omega)]; rfl, ⟨by omega, wB hlt hlb hp he⟩, by omega⟩
   ·have d := decide_eq_false he
    simp -dsimp -implicitDefEqProofs only [go_sem, ↓reduceIte, Tryz.f12, d]
    exact (decide_eq_false fun e => he (getElem_of_eq e hlt)).symm
  ·have hk' : k = a.length := by omega
   subst hk'
   simp -dsimp -implicitDefEqProofs only [go_sem, ↓reduceIte, Tryz.f12, Nat.lt_irrefl]
   exact fun _ => (decide_eq_true (tL heq hp)).symm
def aK6 (x : aZ) (k inp : Int) : Prop :=
 (x.fM = 1 ∧ x.fA = 0 ∧ x.fB = 0 ∧ 0 ≤ x.aW ∧ x.aW ≤ inp - 1) ∨ (x.fM = 2 ∧ x.fA = 0 ∧ x.fB = 0 ∧ iI x.aW) ∨
 ((3 ≤ x.fM ∧ x.fM ≤ 6) ∧ x.aW = 0 ∧ (0 ≤ x.fA ∧ x.fA ≤ k - 1) ∧ (0 ≤ x.fB ∧ x.fB ≤ k - 1)) ∨ (x.fM = 7 ∧ x.aW = 0 ∧ x.fB = 0 ∧ 0 ≤ x.fA ∧ x.fA ≤ k - 1)
instance (x : aZ) (k inp : Int) : Decidable (aK6 x k inp) := by unfold aK6 iI; infer_instance
def aNH (s : Int) (l : List Int) : Prop := ∀ r ∈ l, 0 ≤ r ∧ r ≤ s - 1
instance (s : Int) (l : List Int) : Decidable (aNH s l) := by unfold aNH; infer_instance
def aTX (s : Int) (l : List dX) : Prop := ∀ g ∈ l, 0 ≤ g.aQ3 ∧ g.aQ3 ≤ s - 1
instance (s : Int) (l : List dX) : Decidable (aTX s l) := by unfold aTX; infer_instance
def aIF (inp : Int) (l : List aZ) : Prop := ∀ (k : Nat) (h : k < l.length), aK6 l[k] k inp
instance (inp : Int) (l : List aZ) : Decidable (aIF inp l) := by unfold aIF; infer_instance
structure kL.ok (t : kL) : Prop where
 inp : 0 ≤ t.jE ∧ t.jE ≤ 12
 lens : t.aO.length ≤ 3200 ∧ t.nJ.length ≤ 3200 ∧ 1 ≤ t.aM.length ∧ t.aM.length ≤ 12
 code : aIF t.jE t.aO
 gds : aTX t.aO.length t.nJ
 outs : aNH t.aO.length t.aM
theorem Shift.a8R {x y : aD} {h h' : aB} (s : Shift x h' y h) (n : Int) : Shift (.gN [x, I n]) h' (.gN [y, I n]) h := fun E w v R r => by
 cases r with
 |gN _ vs hl hr =>
  match vs, hl with
  | [v0, v1], _ =>
   obtain ⟨E', ev, R', r'⟩ := s E w v0 R (hr 0 x v0 rfl rfl)
   have h1 := hr 1 (I n) v1 rfl rfl
   cases h1
   refine ⟨E', ev, R', .gN _ _ rfl fun i z u hz hu => ?_⟩
   match i with
   |0 => cases hz; cases hu; exact r'
   |1 => cases hz; cases hu; exact .int _ _
   |i + 2 => cases hz
def bZ (l : List (List Int)) : bL := .row 1 ((l.map fun s => [ints s]).map (List.map .v))
theorem aNI (l : List (List Int)) (s : List Int) : bZ (l ++ [s]) = .row 1 (((l.map fun s => [ints s]).map (List.map Cell.v)) ++ [[.v (ints s)]]) := by simp [bZ]
theorem dQ (l : List (List Int)) {k : Nat} (h : l.length = k) (s : List Int) : bL.row 1 (List.take k ((l.map fun s => [ints s]).map (List.map Cell.v)) ++ [[.v (aD.sl 1 (s.map fun n => [I n]) false)]]) = bZ (l ++ [s]) := by
 rw [aNI, List.take_of_length_le (by simp [h])]
@[go_sem] def aXZ : List Nat := [0, 1, 3, 4]
theorem aTY (n : Int) {sz : Nat} (hsz : 1 ≤ sz ∧ sz ≤ 1048576) : dV Tryz.prog 187 [I n, .ip 1 [[I ((sz : Int) - 1)]] 0 0] (ints (cF n sz)) := by
 have e1 : IntKind.i64.wrap ((sz : Int) - 1 + 1) = (sz : Int) := by rw [IntWalk.i64_in _ (by omega)]; omega
 have e2 := y9 (x := [aD.int .i64 0]) hsz.1
 refine lO 12 aXZ bT bD mix Tryz.func187 rfl (by kernel_rfl) (by simp) fun h => ?_
 simp -dsimp -implicitDefEqProofs only [go_sem, ↓reduceIte, Tryz.f187, e1, Int.toNat_natCast, e2]
 refine ⟨Nat.zero_lt_one, by omega, by omega, by omega, fun m hm => ⟨by omega, ?_⟩⟩
 rw [aK, show Int.toNat 0 = 0 from rfl, sJ]
 exact iL _ hm (aB.le_refl _) (lH n sz).symm
@[go_sem] def aPU : List Nat := [0, 1, 2, 3, 5, 6, 7, 8, 9, 11, 12, 16, 17, 18, 19, 27, 28, 35, 48, 61, 74, 82, 91]
@[go_sem] def a0C : List Nat := [3, 5, 13, 105]
@[go_sem] def a0D : Marks := fun id => match id with | 11 => ([2, 4, 7, 9], (.op 0 (.op 1 (.op 5 (.op 6 (.op 2 (.op 3 (.op 4 (.op 7 (.op 8 (.op 9 (.op 10 (.op 11 .nil)))))))))))), []) | 13 => ([2, 4, 7, 9], (.op 0 (.op 1 (.op 5 (.op 6 (.op 2 (.op 3 (.op 4 (.op 7 (.op 8 (.op 9 (.op 10 (.op 11 .nil)))))))))))), []) | 15 => ([2, 4, 7, 9], (.op 0 (.op 1 (.op 5 (.op 6 (.op 2 (.op 3 (.op 4 (.op 7 (.op 8 (.op 9 (.op 10 (.op 11 .nil)))))))))))), []) | 21 => ([2, 4, 7, 9], (.op 0 (.op 1 (.op 5 (.op 6 (.op 2 (.op 3 (.op 4 (.op 7 (.op 8 (.op 9 (.op 10 (.op 11 .nil)))))))))))), []) | _ => ([], .nil, [])
theorem aQ7 (t : kL) {sz : Nat} (hsz : 1 ≤ sz ∧ sz ≤ 1048576) (hins : ∀ i c, t.aO[i]? = some c → bE t.jE i c) (hcl : t.aO.length ≤ 3200) (args : List (List Int)) (ha : ∀ s ∈ args, bC sz s) (hal : (args.length : Int) = t.jE)
  (hdiv : ∀ (i : Nat) (c : aZ), t.aO[i]? = some c → c.fM = 6 → ¬ (l6 sz args t.aO c.fB.toNat).getD 0 0 = 0) : dV Tryz.prog 137 [.agg t.c, bI args, I ((sz : Int) - 1)] (.gN [bI (jB sz args t.aO t.aO.length), I 0]) := by
 rw [kL.aN]
 refine lO 109 aPU a0C a0D mix Tryz.func137 rfl (by kernel_rfl) (by simp) fun h => ?_
 simp -dsimp -implicitDefEqProofs only [go_sem, ↓reduceIte, Tryz.f137]
 refine ⟨by decide, fun _ => ?_⟩
 refine bX (keep := aPU) (ib := a0C) (mk := a0D) mix (by kernel_rfl) (fun x : Nat × Option Nat => [(1, bI args), (8, eK 1 x.1 x.2), (9, .fn (.func 187) [] [.ip 1 [[I ((sz : Int) - 1)]] 0 0]), (16, dB 4 aZ.c t.aO), (17, I t.aO.length), (18, I x.1)]) (fun x => gQ h (bZ (jB sz args t.aO x.1)) x.2) (fun x => x.1 ≤ t.aO.length ∧ eP h (jB sz args t.aO x.1) x.2) (fun x => t.aO.length - x.1) (0, none) ⟨by simp [b8, bJ, eK], aB.le_refl _, Nat.zero_le _, rfl⟩ ?_
 rintro ⟨k, o⟩ ⟨hk, hos⟩
 simp only at hk hos ⊢
 have hml := jR sz args t.aO k
 rcases Nat.lt_or_ge k t.aO.length with hlt | hge
 ·have ek : t.aO[k]? = some t.aO[k] := List.getElem?_eq_getElem hlt
  have hin := hins k _ ek
  have hdk := hdiv k _ ek
  have hst : jB sz args t.aO (k + 1) = jB sz args t.aO k ++ [uN sz args (jB sz args t.aO k) t.aO[k]] := by
   rw [jB, show t.aO.getD k ⟨0, 0, 0, 0⟩ = t.aO[k] by rw [List.getD_eq_getElem?_getD, ek]; rfl]
  generalize hc : t.aO[k] = c at *
  have hconst := aTY c.aW hsz
  generalize hR : jB sz args t.aO k = R at *
  have hgR : ∀ i : Int, 0 ≤ i ∧ i < k → R[i.toNat]? = some (R.getD i.toNat []) ∧ bC sz (R.getD i.toNat []) := fun i hi => by
   refine ⟨fO (by omega), ?_⟩
   have h1 := rJ (sz := sz) hins ha hal i.toNat (by omega)
   rwa [l6, oZ sz args t.aO (k := k) (by omega) _ (by omega), hR] at h1
  cases o with
  |none =>
   rw [a9] at hos
   subst hos
   obtain rfl : k = 0 := hml.symm
   simp -dsimp -implicitDefEqProofs only [go_sem, ↓reduceIte, Tryz.f137, a7, aR, hlt, ek, aZ.aN]
   intro m hm
   rw [aK]
   first | refine aG.mk (hconst) ?_ | refine aE.mk (hconst) ?_ | refine aG.a8 (hconst) ?_ | refine aE.mk (a6.cK (hconst)) ?_
   simp -dsimp -implicitDefEqProofs only [go_sem, ↓reduceIte, Tryz.f137]
   have hnext : ∀ (g : aB) (b : Nat) (s : List Int), s = uN sz args [] c → h b = none → (a5 h b (bZ [s])).le g → ∃ x' : Nat × Option Nat, (aD.os b 1 0 1 = eK 1 x'.1 x'.2 ∧ IntKind.i64.wrap (((0 : Nat) : Int) + 1) = (x'.1 : Int)) ∧ (gQ h (bZ (jB sz args t.aO x'.1)) x'.2).le g ∧ (x'.1 ≤ t.aO.length ∧ eP h (jB sz args t.aO x'.1) x'.2) ∧ t.aO.length - x'.1 < t.aO.length - 0 := fun g b s e z l => by
    subst e
    exact ⟨(1, some b), ⟨rfl, IntWalk.i64_in _ (by omega)⟩, by simp only [aL, hst]; exact l, ⟨hlt, z⟩, by simp only; omega⟩
   rcases (show c.fM = 1 ∨ c.fM = 2 by unfold bE at hin; omega) with h1 | h1
   ·have hn : 0 ≤ c.aW ∧ c.aW < args.length := by unfold bE at hin; omega
    have ea : args[c.aW.toNat]? = some (args.getD c.aW.toNat []) := fO (by omega)
    simp -dsimp -implicitDefEqProofs only [go_sem, ↓reduceIte, Tryz.f137, h1, ea]
    refine ⟨hn.1, hn.2, by decide, by decide, by decide, fun b ⟨b1, b2⟩ => hnext _ b _ (by rw [uN, if_pos h1]) b2 (aB.fD (aB.bF hm (aB.le_refl _)))⟩
   ·simp -dsimp -implicitDefEqProofs only [go_sem, ↓reduceIte, Tryz.f137, h1]
    refine ⟨by decide, by decide, by decide, fun b ⟨b1, b2⟩ => hnext _ b _ (by rw [uN, if_neg (by omega), if_pos h1]) b2 (aB.fD (aB.bF hm (aB.le_refl _)))⟩
  |some n =>
   rw [aU] at hos
   simp -dsimp -implicitDefEqProofs only [go_sem, ↓reduceIte, Tryz.f137, aT, aL, hlt, ek, aZ.aN]
   refine fun m ⟨dm, zm⟩ => ?_
   have gX : ¬ m = n := dm
   have nK : ¬ n = m := Ne.symm gX
   have cY : (m = n) = False := eq_false gX
   have cZ : (n = m) = False := eq_false nK
   rw [aK]
   first | refine aG.mk (hconst) ?_ | refine aE.mk (hconst) ?_ | refine aG.a8 (hconst) ?_ | refine aE.mk (a6.cK (hconst)) ?_
   simp -dsimp -implicitDefEqProofs only [go_sem, ↓reduceIte, Tryz.f137]
   have hnext : ∀ (g : aB) (b : Nat) (s : List Int), s = uN sz args R c → h b = none → (a5 h b (bZ (R ++ [s]))).le g → ∃ x' : Nat × Option Nat, (aD.os b 1 0 (k + 1) = eK 1 x'.1 x'.2 ∧ IntKind.i64.wrap ((k : Int) + 1) = (x'.1 : Int)) ∧ (gQ h (bZ (jB sz args t.aO x'.1)) x'.2).le g ∧ (x'.1 ≤ t.aO.length ∧ eP h (jB sz args t.aO x'.1) x'.2) ∧ t.aO.length - x'.1 < t.aO.length - k := fun g b s e z l => by
    subst e
    exact ⟨(k + 1, some b), ⟨rfl, IntWalk.i64_in _ (by omega)⟩, by simp only [aL, hst]; exact l, ⟨hlt, z⟩, by simp only; omega⟩
   have qL : ∀ X Y, h.le (a5 (a5 (a5 h n X) m Y) n .gone) := fun X Y q => by
    by_cases e1 : q = n
    ·subst e1; exact .inl hos
    by_cases e2 : q = m
    ·subst e2; exact .inl zm
    rw [aF _ _ _ _ e1, aF _ _ _ _ e2, aF _ _ _ _ e1]; exact .inr rfl
   rcases (show c.fM = 1 ∨ c.fM = 2 ∨ c.fM = 3 ∨ c.fM = 4 ∨ c.fM = 5 ∨ c.fM = 6 ∨ c.fM = 7 by unfold bE at hin; omega) with h1 | h1 | h1 | h1 | h1 | h1 | h1
   ·have hn : 0 ≤ c.aW ∧ c.aW < args.length := by unfold bE at hin; omega
    have ea : args[c.aW.toNat]? = some (args.getD c.aW.toNat []) := fO (by omega)
    simp -dsimp -implicitDefEqProofs only [go_sem, ↓reduceIte, Tryz.f137, h1, ea, cY, cZ, aF, bZ]
    refine ⟨hn.1, hn.2, by decide, by decide, by decide, by omega, by omega, by omega, fun b ⟨b1, b2, b3⟩ => hnext _ b _ (by rw [uN, if_pos h1]) b3 ?_⟩
    rw [dQ R hml]
    exact aB.fD (qL _ _)
   ·simp -dsimp -implicitDefEqProofs only [go_sem, ↓reduceIte, Tryz.f137, h1, cY, cZ, aF, bZ]
    refine ⟨by decide, by decide, by decide, by omega, by omega, by omega, fun b ⟨b1, b2, b3⟩ => hnext _ b _ (by rw [uN, if_neg (by omega), if_pos h1]) b3 ?_⟩
    rw [dQ R hml]
    exact aB.fD (qL _ _)
   ·have na := hgR c.fA (by unfold bE at hin; omega)
    have nb := hgR c.fB (by unfold bE at hin; omega)
    have i0 : (0 ≤ c.fA ∧ c.fA < k) ∧ 0 ≤ c.fB ∧ c.fB < k := by unfold bE at hin; omega
    have hop : 3 ≤ c.fM → uN sz args R c = opW c.fM (R.getD c.fA.toNat []) (R.getD c.fB.toNat []) := fun q => by rw [uN, if_neg (by omega), if_neg (by omega)]
    have hcall := sI (added (R.getD c.fA.toNat []) (R.getD c.fB.toNat []) (by rw [nb.2.1, na.2.1]) (by rw [na.2.1]; omega) (oK na.2.2) (oK nb.2.2))
    simp -dsimp -implicitDefEqProofs only [go_sem, ↓reduceIte, Tryz.f137, h1, bZ, na.1, nb.1, cY, cZ, aF]
    refine ⟨by omega, by omega, by omega, by omega, aE.mk hcall ?_⟩
    simp -dsimp -implicitDefEqProofs only [go_sem, ↓reduceIte, Tryz.f137, h1, bZ, cY, cZ, aF]
    refine ⟨by decide, by decide, by decide, by omega, by omega, by omega, fun b ⟨b1, b2, b3⟩ => hnext _ b _ (by rw [hop (by omega), h1]) b3 ?_⟩
    rw [dQ R hml]
    exact aB.fD (qL _ _)
   ·have na := hgR c.fA (by unfold bE at hin; omega)
    have nb := hgR c.fB (by unfold bE at hin; omega)
    have i0 : (0 ≤ c.fA ∧ c.fA < k) ∧ 0 ≤ c.fB ∧ c.fB < k := by unfold bE at hin; omega
    have hop : 3 ≤ c.fM → uN sz args R c = opW c.fM (R.getD c.fA.toNat []) (R.getD c.fB.toNat []) := fun q => by rw [uN, if_neg (by omega), if_neg (by omega)]
    have hcall := reduced (R.getD c.fA.toNat []) (R.getD c.fB.toNat []) (by rw [nb.2.1, na.2.1]) (by rw [na.2.1]; omega) na.2.2 nb.2.2
    simp -dsimp -implicitDefEqProofs only [go_sem, ↓reduceIte, Tryz.f137, h1, bZ, na.1, nb.1, cY, cZ, aF]
    refine ⟨by omega, by omega, by omega, by omega, aE.mk hcall ?_⟩
    simp -dsimp -implicitDefEqProofs only [go_sem, ↓reduceIte, Tryz.f137, h1, bZ, cY, cZ, aF]
    refine ⟨by decide, by decide, by decide, by omega, by omega, by omega, fun b ⟨b1, b2, b3⟩ => hnext _ b _ (by rw [hop (by omega), h1]) b3 ?_⟩
    rw [dQ R hml]
    exact aB.fD (qL _ _)
   ·have na := hgR c.fA (by unfold bE at hin; omega)
    have nb := hgR c.fB (by unfold bE at hin; omega)
    have i0 : (0 ≤ c.fA ∧ c.fA < k) ∧ 0 ≤ c.fB ∧ c.fB < k := by unfold bE at hin; omega
    have hop : 3 ≤ c.fM → uN sz args R c = opW c.fM (R.getD c.fA.toNat []) (R.getD c.fB.toNat []) := fun q => by rw [uN, if_neg (by omega), if_neg (by omega)]
    have hcall := product (R.getD c.fA.toNat []) (R.getD c.fB.toNat []) (by rw [nb.2.1, na.2.1]) (by rw [na.2.1]; omega) na.2.2 nb.2.2
    simp -dsimp -implicitDefEqProofs only [go_sem, ↓reduceIte, Tryz.f137, h1, bZ, na.1, nb.1, cY, cZ, aF]
    refine ⟨by omega, by omega, by omega, by omega, aE.mk hcall ?_⟩
    simp -dsimp -implicitDefEqProofs only [go_sem, ↓reduceIte, Tryz.f137, h1, bZ, cY, cZ, aF]
    refine ⟨by decide, by decide, by decide, by omega, by omega, by omega, fun b ⟨b1, b2, b3⟩ => hnext _ b _ (by rw [hop (by omega), h1]) b3 ?_⟩
    rw [dQ R hml]
    exact aB.fD (qL _ _)
   ·have na := hgR c.fA (by unfold bE at hin; omega)
    have nb := hgR c.fB (by unfold bE at hin; omega)
    have i0 : (0 ≤ c.fA ∧ c.fA < k) ∧ 0 ≤ c.fB ∧ c.fB < k := by unfold bE at hin; omega
    have hop : 3 ≤ c.fM → uN sz args R c = opW c.fM (R.getD c.fA.toNat []) (R.getD c.fB.toNat []) := fun q => by rw [uN, if_neg (by omega), if_neg (by omega)]
    have hcall := quotient (R.getD c.fA.toNat []) (R.getD c.fB.toNat []) (by rw [nb.2.1, na.2.1]) (by rw [na.2.1]; omega) (by rw [na.2.1]; omega) na.2.2 nb.2.2
    have hz : ¬ (R.getD c.fB.toNat []).getD 0 0 = 0 := by
     have h2 := hdk h1
     rwa [l6, oZ sz args t.aO (k := k) (by omega) _ (by omega), hR] at h2
    have gz : (R.getD c.fB.toNat [])[Int.toNat 0]? = some ((R.getD c.fB.toNat []).getD 0 0) := bR (by rw [nb.2.1]; exact hsz.1)
    have lz := nb.2.1
    simp -dsimp -implicitDefEqProofs only [go_sem, ↓reduceIte, Tryz.f137, h1, bZ, na.1, nb.1, gz, hz, cY, cZ, aF]
    refine ⟨by omega, by omega, by rw [lz]; omega, by omega, by omega, by omega, by omega, aE.mk hcall ?_⟩
    simp -dsimp -implicitDefEqProofs only [go_sem, ↓reduceIte, Tryz.f137, h1, bZ, cY, cZ, aF]
    refine ⟨by decide, by decide, by decide, by omega, by omega, by omega, fun b ⟨b1, b2, b3⟩ => hnext _ b _ (by rw [hop (by omega), h1]) b3 ?_⟩
    rw [dQ R hml]
    exact aB.fD (qL _ _)
   ·have na := hgR c.fA (by unfold bE at hin; omega)
    have hop : 3 ≤ c.fM → uN sz args R c = opW c.fM (R.getD c.fA.toNat []) (R.getD c.fB.toNat []) := fun q => by rw [uN, if_neg (by omega), if_neg (by omega)]
    have i0 : 0 ≤ c.fA ∧ c.fA < k := by unfold bE at hin; omega
    have hcall := scaled (R.getD c.fA.toNat []) 1000002 (by unfold iI; omega) (by rw [na.2.1]; omega) na.2.2
    simp -dsimp -implicitDefEqProofs only [go_sem, ↓reduceIte, Tryz.f137, h1, bZ, na.1, cY, cZ, aF]
    refine ⟨by omega, by omega, aG.mk hcall ?_⟩
    simp -dsimp -implicitDefEqProofs only [go_sem, ↓reduceIte, Tryz.f137, h1, bZ, cY, cZ, aF]
    refine ⟨by decide, by decide, by decide, by omega, by omega, by omega, fun b ⟨b1, b2, b3⟩ => hnext _ b _ (by rw [hop (by omega), h1]) b3 ?_⟩
    rw [dQ R hml]
    exact aB.fD (qL _ _)
 ·have hk' : k = t.aO.length := by omega
  subst hk'
  cases o with
  |none =>
   rw [a9] at hos
   simp -dsimp -implicitDefEqProofs only [go_sem, ↓reduceIte, Tryz.f137, a7, aR, Nat.lt_irrefl, Int.lt_irrefl]
   rw [hos]
   exact Shift.of (Sub.gN (.cons (Sub.loose _ _ _) (.cons (.refl _) .nil))) (aB.le_refl _)
  |some n =>
   rw [aU] at hos
   simp -dsimp -implicitDefEqProofs only [go_sem, ↓reduceIte, Tryz.f137, aT, aL, Nat.lt_irrefl, Int.lt_irrefl]
   have h1 := lK (jB sz args t.aO t.aO.length) hos (aB.le_refl _) hml.symm
   exact h1.a8R 0
def rU (sz : Nat) : List Int := List.replicate sz 0
def rV (r : Int) (s : List Int) (A : List (List Int)) : List (List Int) := A.set r.toNat (iC (A.getD r.toNat []) s)
def lL (c : aZ) (rg : List (List Int)) (k : Nat) (A : List (List Int)) : List (List Int) :=
 if c.fM = 3 then rV c.fB (A.getD k []) (rV c.fA (A.getD k []) A)
 else if c.fM = 4 then rV c.fB (iP (A.getD k []) 1000002) (rV c.fA (A.getD k []) A)
 else if c.fM = 5 then rV c.fB (mulL (A.getD k []) (rg.getD c.fA.toNat [])) (rV c.fA (mulL (A.getD k []) (rg.getD c.fB.toNat [])) A)
 else if c.fM = 6 then rV c.fB (iP (mulL (iK (A.getD k []) (rg.getD c.fB.toNat [])) (rg.getD k [])) 1000002) (rV c.fA (iK (A.getD k []) (rg.getD c.fB.toNat [])) A)
 else if c.fM = 7 then rV c.fA (iP (A.getD k []) 1000002) A
 else A
def pK (code : List aZ) (rg A : List (List Int)) : Nat → Nat → List (List Int)
 |0, _ => A
 |n + 1, j => lL (code.getD j ⟨0, 0, 0, 0⟩) rg j (pK code rg A n (j + 1))
def qM (outs ws : List Int) (A : List (List Int)) : Nat → List (List Int)
 |0 => A
 |k + 1 => (qM outs ws A k).set (outs.getD k 0).toNat (((qM outs ws A k).getD (outs.getD k 0).toNat []).set 0 ((((qM outs ws A k).getD (outs.getD k 0).toNat []).getD 0 0 + ws.getD k 0) % 1000003))
def eS (sz n : Nat) (A : List (List Int)) : Prop := A.length = n ∧ ∀ s ∈ A, bC sz s
theorem eS.get {sz n : Nat} {A : List (List Int)} (h : eS sz n A) {i : Nat} (hi : i < n) : A[i]? = some (A.getD i []) ∧ bC sz (A.getD i []) := by
 have h1 := fO (env := A) (i := i) (by rw [h.1]; exact hi)
 exact ⟨h1, h.2 _ (List.mem_of_getElem? h1)⟩
theorem eS.set {sz n : Nat} {A : List (List Int)} (h : eS sz n A) {s : List Int} (hs : bC sz s) (i : Nat) : eS sz n (A.set i s) := ⟨by rw [List.length_set]; exact h.1, fun x hx => by
 rcases List.mem_or_eq_of_mem_set hx with hx | rfl
 ·exact h.2 x hx
 ·exact hs⟩
theorem eS.put {sz n : Nat} {A : List (List Int)} (h : eS sz n A) {r : Int} (hr : r.toNat < n) {s : List Int} (hs : bC sz s) : eS sz n (rV r s A) := h.set (lP (h.get hr).2 hs) _
theorem aGC (A : List (List Int)) (k : Nat) (s : List Int) : bL.row 1 (((A.map fun s => [ints s]).map (List.map Cell.v)).set k [.v (ints s)]) = bZ (A.set k s) := by
 rw [bZ, List.map_set, List.map_set]; rfl
@[go_sem] def aX0 : List Nat := [0, 1, 2]
@[go_sem] def a8S : Marks := fun id => match id with | 0 => ([0, 2, 5, 9], (.op 1 (.op 3 (.op 6 (.op 0 (.op 2 (.op 4 (.op 5 (.op 7 (.op 8 (.op 9 .nil)))))))))), []) | _ => ([], .nil, [])
theorem aIG {sz n : Nat} (hsz : 1 ≤ sz ∧ sz ≤ 1048576) {A : List (List Int)} (hA : eS sz n A) {r : Int} (hr : 0 ≤ r ∧ r < n) {s : List Int} (hs : bC sz s) {g : aB} {nb b : Nat} (hb : g nb = some (.row 1 [[.v (.os b 1 0 n)]])) (hg : g b = some (bZ A)) :
  eH Tryz.prog 188 [I r, ints s, .op nb 1 0 0] g fun r_ h' => h' = a5 g b (bZ (rV r s A)) := by
 have hq := hA.get (i := r.toNat) (by omega)
 have hcall := sI (added (A.getD r.toNat []) s (by rw [hs.1, hq.2.1]) (by rw [hq.2.1]; omega) (oK hq.2.2) (oK hs.2))
 unfold bZ at hg
 refine aAF 14 aX0 bT a8S mix Tryz.func188 rfl (by kernel_rfl) (by simp) ?_
 simp -dsimp -implicitDefEqProofs only [go_sem, ↓reduceIte, Tryz.f188, hb, hg, hq.1]
 refine ⟨hr.1, hr.2, aE.mk hcall ?_⟩
 simp -dsimp -implicitDefEqProofs only [go_sem, ↓reduceIte, Tryz.f188, hb, hg, hq.1]
 exact ⟨hr.1, hr.2, _, by have h1 := aGC A r.toNat (iC (A.getD r.toNat []) s); rw [h1]; exact aB.le_refl _, rfl⟩
theorem aTZ {b sz : Nat} : ∀ (N : List Nat) (A pre : List (List Int)) (g : aB), N.length = A.length → N.Nodup → (∀ k n, N[k]? = some n → g n = some (l7 (A.getD k [])) ∧ ¬ n = b) → (∀ s ∈ A, s.length = sz) → g b = some (.row 1 ((pre.map fun s => [ints s]).map (List.map .v) ++ (N.map fun n => [aD.os n 1 0 sz]).map (List.map .v))) →
  ∃ g' : aB, g'.wk g ∧ g' b = some (bZ (pre ++ A)) ∧ ∀ q, ¬ q = b → q ∉ N → g' q = g q
 | [], [], pre, g, _, _, _, _, hb => ⟨g, aB.iX (aB.le_refl _), by rw [hb, List.append_nil, List.map_nil, List.map_nil, List.append_nil]; rfl, fun _ _ _ => rfl⟩
 | [], _ :: _, _, _, h, _, _, _, _ => by simp at h
 | _ :: _, [], _, _, h, _, _, _, _ => by simp at h
 |n :: N, s :: A, pre, g, hl, hnd, hN, hs, hb => by
  obtain ⟨hn, hnb⟩ := hN 0 n rfl
  rw [show (s :: A).getD 0 [] = s from rfl] at hn
  have hsl := hs s (.head _)
  have hnn : n ∉ N := (List.nodup_cons.1 hnd).1
  have hat : ∀ (es : List (List Cell)) i j x, gO es i j = some x → ∃ e ∈ es, x ∈ e := fun es i j x hx => by
   obtain ⟨e, h1, h2⟩ := jH hx
   exact ⟨e, List.mem_of_getElem? h1, List.mem_of_getElem? h2⟩
  have hw := aB.aPJ (m := n) (b := b) hn hb (Ne.symm hnb) (fun i j x hx => by
   obtain ⟨e, he, hxe⟩ := hat _ i j _ hx
   rcases List.mem_append.1 he with he | he
   ·obtain ⟨e1, h1, rfl⟩ := List.mem_map.1 he
    obtain ⟨r, _, rfl⟩ := List.mem_map.1 h1
    simp only [List.map_cons, List.map_nil, List.mem_singleton, Cell.v.injEq] at hxe
    subst hxe; rfl
   ·obtain ⟨e1, h1, rfl⟩ := List.mem_map.1 he
    obtain ⟨r, _, rfl⟩ := List.mem_map.1 h1
    simp only [List.map_cons, List.map_nil, List.mem_singleton, Cell.v.injEq] at hxe
    subst hxe
    simp [eF, hsl])
  have hrow : (((pre.map fun s => [ints s]).map (List.map Cell.v) ++ ((n :: N).map fun n => [aD.os n 1 0 sz]).map (List.map Cell.v))).map (List.map (Cell.uM n (dR ((s.map fun n => [I n]).map (List.map Cell.v))))) = ((pre ++ [s]).map fun s => [ints s]).map (List.map .v) ++ (N.map fun n => [aD.os n 1 0 sz]).map (List.map .v) := by
   rw [aKT, List.map_append, List.map_append, List.map_append, List.append_assoc]
   congr 1
   ·simp only [List.map_map]
    exact List.map_congr_left fun r _ => rfl
   ·rw [List.map_cons, List.map_cons, List.map_cons]
    show _ :: _ = [_] ++ _
    rw [List.singleton_append]
    congr 1
    ·simp only [List.map_cons, List.map_nil, Cell.uM, aD.c9, if_true, List.drop_zero]
     rw [List.take_of_length_le (by rw [List.length_map, hsl]; exact Nat.le_refl _)]
    ·simp only [List.map_map]
     refine List.map_congr_left fun r hr => ?_
     have h1 : ¬ r = n := fun e => hnn (e ▸ hr)
     simp [Cell.uM, aD.c9, h1]
  rw [hrow] at hw
  obtain ⟨g', w1, w2, w3⟩ := aTZ N A (pre ++ [s]) (a5 (a5 g n .gone) b (.row 1 (((pre ++ [s]).map fun s => [ints s]).map (List.map Cell.v) ++ (N.map fun n => [aD.os n 1 0 sz]).map (List.map Cell.v)))) (by simpa using hl) (List.nodup_cons.1 hnd).2 (fun k m hm => by
   have h1 := hN (k + 1) m (by simpa using hm)
   have h2 : ¬ m = n := fun e => hnn (e ▸ List.mem_of_getElem? hm)
   refine ⟨?_, h1.2⟩
   rw [aF _ _ _ _ h1.2, aF _ _ _ _ h2]
   simpa using h1.1) (fun x hx => hs x (.tail _ hx)) (aH _ _ _)
  refine ⟨g', w1.trans hw, by rw [w2, List.append_assoc]; rfl, fun q h1 h2 => ?_⟩
  have h3 : ¬ q = n := fun e => h2 (e ▸ .head _)
  rw [w3 q h1 fun h => h2 (.tail _ h), aF _ _ _ _ h1, aF _ _ _ _ h3]
theorem aQ8 {sz n : Nat} (hsz : 1 ≤ sz) {inp : Int} {k : Nat} (hk : k < n) {c : aZ} (hc : bE inp k c) {rg : List (List Int)} (hrg : eS sz n rg) {A : List (List Int)} (hA : eS sz n A) : eS sz n (lL c rg k A) := by
 have h0 := (hA.get hk).2
 unfold bE at hc
 unfold lL
 have hr : ∀ x : Int, 0 ≤ x ∧ x < k → bC sz (rg.getD x.toNat []) := fun x hx => (hrg.get (by omega)).2
 by_cases h3 : c.fM = 3
 ·rw [if_pos h3]; exact (hA.put (by omega) h0).put (by omega) h0
 rw [if_neg h3]
 by_cases h4 : c.fM = 4
 ·rw [if_pos h4]; exact (hA.put (by omega) h0).put (by omega) (eQ _ h0)
 rw [if_neg h4]
 by_cases h5 : c.fM = 5
 ·rw [if_pos h5]; exact (hA.put (by omega) (cW _ h0)).put (by omega) (cW _ h0)
 rw [if_neg h5]
 by_cases h6 : c.fM = 6
 ·rw [if_pos h6]; exact (hA.put (by omega) (mX _ h0)).put (by omega) (eQ _ (cW _ (mX _ h0)))
 rw [if_neg h6]
 by_cases h7 : c.fM = 7
 ·rw [if_pos h7]; exact hA.put (by omega) (eQ _ h0)
 ·rw [if_neg h7]; exact hA
theorem qN {sz : Nat} (hsz : 1 ≤ sz ∧ sz ≤ 1048576) {inp : Int} {code : List aZ} (hins : ∀ i c, code[i]? = some c → bE inp i c) {rg : List (List Int)} (hrg : eS sz code.length rg) {A : List (List Int)} (hA : eS sz code.length A) : ∀ n j, n + j = code.length → eS sz code.length (pK code rg A n j)
 |0, _, _ => hA
 |n + 1, j, h => by
  have ec : code[j]? = some code[j] := List.getElem?_eq_getElem (by omega)
  rw [pK, show code.getD j ⟨0, 0, 0, 0⟩ = code[j] by rw [List.getD_eq_getElem?_getD, ec]; rfl]
  exact aQ8 hsz.1 (by omega) (hins j _ ec) hrg (qN hsz hins hrg hA n (j + 1) (by omega))
structure xL (h : aB) (nb b sz : Nat) (N : List Nat) (A : List (List Int)) (g : aB) : Prop where
 ser : eS sz N.length A
 nodup : N.Nodup
 out : ∀ n ∈ N, ¬ n = nb ∧ ¬ n = b ∧ h n = none
 get : ∀ k n, N[k]? = some n → g n = some (l7 (A.getD k []))
 bk : g b = some (.row 1 ((N.map fun n => [aD.os n 1 0 sz]).map (List.map .v)))
 nbk : g nb = some (.row 1 [[.v (.os b 1 0 N.length)]])
 keep : ∀ q o, h q = some o → g q = some o
 bn : h b = none ∧ h nb = none ∧ ¬ b = nb
theorem xM (sz : Nat) : bC sz (rU sz) := ⟨by simp [rU], fun x hx => by rw [(List.mem_replicate.1 hx).2]; unfold iI; omega⟩
theorem aIH (sz : Nat) : bL.row 1 ((List.replicate sz [aD.int IntKind.i64 0]).map (List.map .v)) = l7 (rU sz) := by rw [l7, rU]; simp [List.map_replicate]
theorem xL.first {h : aB} {nb n b sz : Nat} (hn : h nb = none) (n1 : ¬ n = nb) (n2 : h n = none) (b1 : ¬ b = n) (b2 : ¬ b = nb) (b3 : h b = none) {X : bL} :
  xL h nb b sz [n] [rU sz] (a5 (a5 (a5 (a5 h nb X) n (l7 (rU sz))) b (.row 1 [[.v (.os n 1 0 sz)]])) nb (.row 1 [[.v (.os b 1 0 1)]])) := by
 refine ⟨⟨rfl, fun s hs => by rw [List.mem_singleton.1 hs]; exact xM sz⟩, by simp, fun m hm => by rw [List.mem_singleton.1 hm]; exact ⟨n1, Ne.symm b1, n2⟩, fun k m hk => ?_, ?_, aH _ _ _, fun q o hq => ?_, b3, hn, b2⟩
 ·match k with
  |0 =>
   cases hk
   rw [aF _ _ _ _ n1, aF _ _ _ _ (Ne.symm b1), aH]; rfl
  |k + 1 => cases hk
 ·rw [aF _ _ _ _ b2, aH]; rfl
 ·rw [aF _ _ _ _ (fun e => by rw [e, hn] at hq; cases hq), aF _ _ _ _ (fun e => by rw [e, b3] at hq; cases hq), aF _ _ _ _ (fun e => by rw [e, n2] at hq; cases hq), aF _ _ _ _ (fun e => by rw [e, hn] at hq; cases hq)]; exact hq
theorem xL.free {h g : aB} {nb b sz : Nat} {N : List Nat} {A : List (List Int)} (H : xL h nb b sz N A g) {n : Nat} (hn : g n = none) : ¬ n = nb ∧ ¬ n = b ∧ n ∉ N ∧ h n = none := by
 refine ⟨(fun e => by rw [e, H.nbk] at hn; cases hn), (fun e => by rw [e, H.bk] at hn; cases hn), fun e => ?_, ?_⟩
 ·obtain ⟨k, hk, ek⟩ := List.mem_iff_getElem.1 e
  have := H.get k n (by rw [List.getElem?_eq_getElem hk, ek])
  rw [this] at hn; cases hn
 ·cases hq : h n with
  |none => rfl
  |some o => rw [H.keep n o hq] at hn; cases hn
theorem xL.more {h g : aB} {nb b sz : Nat} {N : List Nat} {A : List (List Int)} (H : xL h nb b sz N A g) {n b' : Nat} (hn : g n = none) (b1 : ¬ b' = n) (hb : g b' = none) :
  xL h nb b' sz (N ++ [n]) (A ++ [rU sz]) (a5 (a5 (a5 (a5 g n (l7 (rU sz))) b .gone) b' (.row 1 ((N.map fun n => [aD.os n 1 0 sz]).map (List.map .v) ++ [[.v (.os n 1 0 sz)]]))) nb (.row 1 [[.v (.os b' 1 0 (N.length + 1))]])) := by
 obtain ⟨f1, f2, f3, f4⟩ := H.free hn
 obtain ⟨e1, e2, e3, e4⟩ := H.free hb
 obtain ⟨g1, g2, g3⟩ := H.bn
 have hl := H.ser.1
 refine ⟨⟨by simp [hl], fun s hs => ?_⟩, ?_, fun m hm => ?_, fun k m hk => ?_, ?_, ?_, fun q o hq => ?_, e4, g2, e1⟩
 ·rcases List.mem_append.1 hs with hs | hs
  ·exact H.ser.2 s hs
  ·rw [List.mem_singleton.1 hs]; exact xM sz
 ·rw [List.nodup_append]
  exact ⟨H.nodup, by simp, fun x hx y hy e => by rw [List.mem_singleton.1 hy] at e; exact f3 (e ▸ hx)⟩
 ·rcases List.mem_append.1 hm with hm | hm
  ·have := H.out m hm
   exact ⟨this.1, fun e => e3 (e ▸ hm), this.2.2⟩
  ·rw [List.mem_singleton.1 hm]
   exact ⟨f1, Ne.symm b1, f4⟩
 ·rcases Nat.lt_or_ge k N.length with h1 | h1
  ·rw [List.getElem?_append_left h1] at hk
   have hmem := List.mem_of_getElem? hk
   have ho := H.out m hmem
   rw [aF _ _ _ _ ho.1, aF _ _ _ _ (fun e => e3 (by rw [← e]; exact hmem)), aF _ _ _ _ ho.2.1, aF _ _ _ _ (fun e => f3 (by rw [← e]; exact hmem)), H.get k m hk, List.getD_eq_getElem?_getD, List.getD_eq_getElem?_getD, List.getElem?_append_left (by omega)]
  ·rw [List.getElem?_append_right h1] at hk
   have h2 : k - N.length = 0 := by
    rcases Nat.eq_zero_or_pos (k - N.length) with q | q
    ·exact q
    ·rw [List.getElem?_eq_none (by rw [List.length_singleton]; exact q)] at hk; cases hk
   rw [h2] at hk
   cases hk
   rw [aF _ _ _ _ f1, aF _ _ _ _ (Ne.symm b1), aF _ _ _ _ f2, aH, List.getD_eq_getElem?_getD, List.getElem?_append_right (by omega), show k - A.length = 0 by omega]; rfl
 ·rw [aF _ _ _ _ e1, aH, List.map_append, List.map_append]; rfl
 ·rw [aH, List.length_append]; rfl
 ·have hgq := H.keep q o hq
  rw [aF _ _ _ _ (fun e => by rw [e, g2] at hq; cases hq), aF _ _ _ _ (fun e => by rw [e, e4] at hq; cases hq), aF _ _ _ _ (fun e => by rw [e, g1] at hq; cases hq), aF _ _ _ _ (fun e => by rw [e, f4] at hq; cases hq)]; exact hgq
theorem xL.set {h g : aB} {nb b sz : Nat} {N : List Nat} {A : List (List Int)} (H : xL h nb b sz N A g) {r n : Nat} (hr : N[r]? = some n) {s : List Int} (hs : bC sz s) : xL h nb b sz N (A.set r s) (a5 g n (l7 s)) := by
 have hrl : r < N.length := (List.getElem?_eq_some_iff.1 hr).1
 have hl := H.ser.1
 have ho := H.out n (List.mem_of_getElem? hr)
 refine ⟨H.ser.set hs r, H.nodup, H.out, fun k m hk => ?_, ?_, ?_, fun q o hq => ?_, H.bn⟩
 ·by_cases e : k = r
  ·subst e
   rw [hr] at hk
   cases hk
   rw [aH, List.getD_eq_getElem?_getD, List.getElem?_set_self (by omega)]; rfl
  ·have hne : ¬ m = n := fun q => by
    subst q
    have hkl : k < N.length := (List.getElem?_eq_some_iff.1 hk).1
    exact e ((List.getElem?_inj hkl H.nodup).1 (hk.trans hr.symm))
   rw [aF _ _ _ _ hne, H.get k m hk, List.getD_eq_getElem?_getD, List.getD_eq_getElem?_getD, List.getElem?_set_ne (Ne.symm e)]
 ·rw [aF _ _ _ _ (Ne.symm ho.2.1)]; exact H.bk
 ·rw [aF _ _ _ _ (Ne.symm ho.1)]; exact H.nbk
 ·rw [aF _ _ _ _ (fun e => by rw [e, ho.2.2] at hq; cases hq)]; exact H.keep q o hq
theorem xL.seal {h g : aB} {nb b sz : Nat} {N : List Nat} {A : List (List Int)} (H : xL h nb b sz N A g) : (a5 (a5 h nb (.row 1 [[.v (.os b 1 0 N.length)]])) b (bZ A)).wk g := by
 obtain ⟨g', w1, w2, w3⟩ := aTZ (b := b) (sz := sz) N A [] g H.ser.1.symm H.nodup (fun k n hk => ⟨H.get k n hk, (H.out n (List.mem_of_getElem? hk)).2.1⟩) (fun s hs => (H.ser.2 s hs).1) H.bk
 refine aB.wk.trans (aB.iX fun q => ?_) w1
 by_cases e : q = b
 ·subst e; rw [aH]; exact .inr w2.symm
 rw [aF _ _ _ _ e]
 by_cases e2 : q = nb
 ·subst e2
  rw [aH, w3 q e fun hq => (H.out q hq).1 rfl]; exact .inr H.nbk.symm
 rw [aF _ _ _ _ e2]
 cases hq : h q with
 |none => exact .inl rfl
 |some o =>
  right
  rw [w3 q e fun hn => by rw [(H.out q hn).2.2] at hq; cases hq]
  exact (H.keep q o hq).symm
@[go_sem] def aCD : List Nat := [0, 1, 2, 3, 6, 7, 9, 10, 11, 12, 13, 14, 15, 16, 18, 19, 20, 21, 32, 33, 34, 35, 61, 75, 76, 88, 101, 125, 150]
@[go_sem] def aPV : List Nat := [3, 17, 28]
@[go_sem] def aPW : Marks := fun id => match id with | 5 => ([0, 2, 3, 5, 6], (.op 1 (.op 0 (.op 2 (.op 3 (.op 4 (.op 5 (.op 6 .nil))))))), [(0, 2), (0, 3)]) | 10 => ([0, 3, 4, 7, 9, 13, 14, 16], (.op 1 (.op 5 (.op 10 (.op 11 (.op 12 (.op 0 (.op 2 (.op 3 (.op 4 (.op 6 (.op 7 (.op 8 (.op 9 (.op 13 (.op 14 (.op 15 (.op 16 .nil))))))))))))))))), [(0, 14), (3, 14)]) | 15 => ([1, 4, 5, 8, 9, 10], (.op 0 (.op 2 (.op 6 (.op 1 (.op 3 (.op 4 (.op 5 (.op 7 (.op 8 (.op 9 (.op 10 (.op 11 .nil)))))))))))), [(1, 9), (4, 9), (5, 9), (5, 10), (8, 9), (8, 10)]) | 23 => ([2, 4, 5], (.op 0 (.op 1 (.op 3 (.op 2 (.op 4 (.op 5 .nil)))))), [(2, 4)]) | 25 => ([2, 6, 8, 9, 10], (.op 0 (.op 1 (.op 3 (.op 4 (.op 5 (.op 2 (.op 6 (.op 7 (.op 8 (.op 9 (.op 10 .nil))))))))))), [(2, 9)]) | 26 => ([2, 6, 8, 9, 10], (.op 0 (.op 1 (.op 3 (.op 4 (.op 5 (.op 2 (.op 6 (.op 7 (.op 8 (.op 9 (.op 10 .nil))))))))))), [(2, 9)]) | 30 => ([2, 7, 8, 9, 10], (.op 0 (.op 1 (.op 3 (.op 4 (.op 5 (.op 6 (.op 2 (.op 7 (.op 8 (.op 9 (.op 10 .nil))))))))))), [(2, 8), (2, 9)]) | 32 => ([2, 4, 5], (.op 0 (.op 1 (.op 3 (.op 2 (.op 4 (.op 5 .nil)))))), [(2, 4)]) | _ => ([], .nil, [])
set_option maxHeartbeats 4000000 in
theorem aT0 (t : kL) {sz : Nat} (hsz : 1 ≤ sz ∧ sz ≤ 1048576) (hins : ∀ i c, t.aO[i]? = some c → bE t.jE i c) (hcl : 1 ≤ t.aO.length ∧ t.aO.length ≤ 3200) (rg : List (List Int)) (hrg : eS sz t.aO.length rg) (ws : List Int) (hws : ws.length = t.aM.length) (hwn : dP ws) (hol : t.aM.length ≤ 100) (ho : ∀ r ∈ t.aM, 0 ≤ r ∧ r < t.aO.length) :
  dV Tryz.prog 138 [.agg t.c, bI rg, ints ws] (bI (pK t.aO rg (qM t.aM ws (List.replicate t.aO.length (rU sz)) t.aM.length) t.aO.length 0)) := by
 rw [kL.aN]
 refine lO 159 aCD aPV aPW mix Tryz.func138 rfl (by kernel_rfl) (by simp) fun h => ?_
 simp -dsimp -implicitDefEqProofs only [go_sem, ↓reduceIte, Tryz.f138]
 refine ⟨by decide, fun nb hnb hlc => ?_⟩
 rw [aK]
 have hrl : rg.length = t.aO.length := hrg.1
 refine bX (keep := aCD) (ib := aPV) (mk := aPW) mix (by kernel_rfl) (fun x : Nat × aB => [(1, bI rg), (2, ints ws), (3, .ip 4 [[I t.jE, dB 4 aZ.c t.aO, dB 2 dX.c t.nJ, ints t.aM]] 0 0), (7, .op nb 1 0 0), (18, bI rg), (19, I rg.length), (20, I x.1)]) (fun x => x.2) (fun x => x.1 ≤ t.aO.length ∧ ((x.1 = 0 ∧ x.2 = a5 h nb (.row 1 [[.v (.sl 1 [] true)]])) ∨ ∃ b N, N.length = x.1 ∧ xL h nb b sz N (List.replicate x.1 (rU sz)) x.2)) (fun x => t.aO.length - x.1) (0, a5 h nb (.row 1 [[.v (.sl 1 [] true)]])) ⟨by simp [b8, bJ], aB.le_refl _, Nat.zero_le _, .inl ⟨rfl, rfl⟩⟩ ?_
 rintro ⟨k, g⟩ ⟨hk, hg⟩
 simp only at hk hg ⊢
 rcases Nat.lt_or_ge k t.aO.length with hlt | hge
 ·have er := hrg.get hlt
  have lr := er.2.1
  rcases hg with ⟨rfl, rfl⟩ | ⟨b, N, hN, H⟩
  ·simp -dsimp -implicitDefEqProofs only [go_sem, ↓reduceIte, Tryz.f138, er.1, hrl, hlt, lr]
   refine fun _ => ⟨by decide, Nat.le_refl _, by omega, by omega, fun n ⟨n1, n2⟩ => ?_⟩
   have iA : ¬ n = nb := n1
   have jA : ¬ nb = n := Ne.symm iA
   have fP : (n = nb) = False := eq_false iA
   have fQ : (nb = n) = False := eq_false jA
   refine ⟨by rw [aF _ _ _ _ jA, aH], by decide, by decide, by decide, fun b ⟨b1, b2, b3⟩ => ?_⟩
   have bS : ¬ b = nb := b2
   have dO : ¬ nb = b := Ne.symm bS
   have cI : (b = nb) = False := eq_false bS
   have cJ : (nb = b) = False := eq_false dO
   have sU : ¬ b = n := b1
   have sV : ¬ n = b := Ne.symm sU
   have mY : (b = n) = False := eq_false sU
   have mZ : (n = b) = False := eq_false sV
   simp -dsimp -implicitDefEqProofs only [go_sem, ↓reduceIte, Tryz.f138, fP, mZ, fQ, cJ, mY, cI, aF, cB, aIH]
   exact ⟨(1, _), ⟨hrl.symm, IntWalk.i64_in _ (by omega)⟩, aB.le_refl _, ⟨hlt, .inr ⟨b, [n], rfl, xL.first hnb n1 n2 b1 b2 b3⟩⟩, by simp only; omega⟩
  ·have hb := H.bk
   have hnb := H.nbk
   simp -dsimp -implicitDefEqProofs only [go_sem, ↓reduceIte, Tryz.f138, er.1, hrl, hlt, lr, hnb, hb]
   refine fun _ => ⟨by decide, Nat.le_refl _, by omega, by omega, fun n n2 => ?_⟩
   obtain ⟨f1, f2, f3, f4⟩ := H.free n2
   have iA : ¬ n = nb := f1
   have jA : ¬ nb = n := Ne.symm iA
   have fP : (n = nb) = False := eq_false iA
   have fQ : (nb = n) = False := eq_false jA
   have sV : ¬ n = b := f2
   have sU : ¬ b = n := Ne.symm sV
   have mZ : (n = b) = False := eq_false sV
   have mY : (b = n) = False := eq_false sU
   refine ⟨by rw [aF _ _ _ _ jA]; exact hnb, by decide, by decide, by decide, ?_⟩
   have bS : ¬ b = nb := H.bn.2.2
   have dO : ¬ nb = b := Ne.symm bS
   have cI : (b = nb) = False := eq_false bS
   have cJ : (nb = b) = False := eq_false dO
   simp -dsimp -implicitDefEqProofs only [go_sem, ↓reduceIte, Tryz.f138, fP, mZ, fQ, cJ, mY, cI, aF, hnb, hb]
   refine ⟨Nat.le_refl _, by omega, by omega, fun c ⟨c1, c2⟩ => ?_⟩
   obtain ⟨x1, x2, x3, x4⟩ := H.free c2
   have aT1 : ¬ c = nb := x1
   have a25 : ¬ nb = c := Ne.symm aT1
   have a26 : (c = nb) = False := eq_false aT1
   have a27 : (nb = c) = False := eq_false a25
   have aK7 : ¬ c = b := x2
   have aT2 : ¬ b = c := Ne.symm aK7
   have a0E : (c = b) = False := eq_false aK7
   have a0F : (b = c) = False := eq_false aT2
   have a0G : ¬ c = n := c1
   have a8U : ¬ n = c := Ne.symm a0G
   have a8V : (c = n) = False := eq_false a0G
   have a8W : (n = c) = False := eq_false a8U
   simp -dsimp -implicitDefEqProofs only [go_sem, ↓reduceIte, Tryz.f138, fP, mZ, a8W, fQ, cJ, a27, mY, cI, a0F, a8V, a26, a0E, aF, hnb, hb, aIH]
   rw [List.take_of_length_le (by simp)]
   exact ⟨(k + 1, _), ⟨hrl.symm, IntWalk.i64_in _ (by omega)⟩, aB.le_refl _, ⟨hlt, .inr ⟨c, N ++ [n], by rw [List.length_append, hN]; rfl, by rw [List.replicate_succ']; exact H.more n2 c1 c2⟩⟩, by simp only; omega⟩
 ·have hk' : k = t.aO.length := by omega
  subst hk'
  rcases hg with ⟨h0, _⟩ | ⟨b, N, hN, H⟩
  ·omega
  simp -dsimp -implicitDefEqProofs only [go_sem, ↓reduceIte, Tryz.f138, hrl, Nat.lt_irrefl, Int.lt_irrefl]
  refine fun _ => ?_
  clear hk hge
  have hsw : ∀ k, k ≤ t.aM.length → eS sz t.aO.length (qM t.aM ws (List.replicate t.aO.length (rU sz)) k) := fun k => by
   induction k with
   |zero => exact fun _ => hN ▸ H.ser
   |succ k ih =>
    intro hk
    have h1 := ih (by omega)
    have hr := ho (t.aM.getD k 0) (by rw [List.getD_eq_getElem?_getD, List.getElem?_eq_getElem (by omega)]; exact List.getElem_mem _)
    have h2 := (h1.get (i := (t.aM.getD k 0).toNat) (by omega)).2
    refine h1.set ⟨by rw [List.length_set]; exact h2.1, fun x hx => ?_⟩ _
    rcases List.mem_or_eq_of_mem_set hx with hx | rfl
    ·exact h2.2 x hx
    ·exact j4 _
  refine bX (keep := aCD) (ib := aPV) (mk := aPW) mix (by kernel_rfl) (fun x : Nat × aB => [(1, bI rg), (2, ints ws), (3, .ip 4 [[I t.jE, dB 4 aZ.c t.aO, dB 2 dX.c t.nJ, ints t.aM]] 0 0), (7, .op nb 1 0 0), (32, ints t.aM), (33, I t.aM.length), (34, I x.1)]) (fun x => x.2) (fun x => x.1 ≤ t.aM.length ∧ xL h nb b sz N (qM t.aM ws (List.replicate t.aO.length (rU sz)) x.1) x.2) (fun x => t.aM.length - x.1) (0, g) ⟨by simp [b8, bJ], aB.le_refl _, Nat.zero_le _, H⟩ ?_
  clear H g
  rintro ⟨k, g⟩ ⟨hk, H⟩
  simp only at hk H ⊢
  have hb := H.bk
  have a28 := H.nbk
  rcases Nat.lt_or_ge k t.aM.length with hlt | hge
  ·have eo : t.aM[k]? = some (t.aM.getD k 0) := bR hlt
   have ew : ws[k]? = some (ws.getD k 0) := bR (by omega)
   have hr := ho _ (List.mem_of_getElem? eo)
   have hsn := hsw (k + 1) hlt
   have xV := hsw k (by omega)
   have hst : qM t.aM ws (List.replicate t.aO.length (rU sz)) (k + 1) = (qM t.aM ws (List.replicate t.aO.length (rU sz)) k).set (t.aM.getD k 0).toNat (((qM t.aM ws (List.replicate t.aO.length (rU sz)) k).getD (t.aM.getD k 0).toNat []).set 0 ((((qM t.aM ws (List.replicate t.aO.length (rU sz)) k).getD (t.aM.getD k 0).toNat []).getD 0 0 + ws.getD k 0) % 1000003)) := rfl
   generalize hA1 : qM t.aM ws (List.replicate t.aO.length (rU sz)) (k + 1) = A1 at *
   generalize qM t.aM ws (List.replicate t.aO.length (rU sz)) k = A at *
   generalize t.aM.getD k 0 = r at *
   have er : N[r.toNat]? = some (N[r.toNat]'(by omega)) := List.getElem?_eq_getElem (by omega)
   generalize N[r.toNat]'(by omega) = n at er
   have hgn := H.get _ _ er
   have hq := xV.get (i := r.toNat) (by omega)
   have e0 : (A.getD r.toNat [])[Int.toNat 0]? = some ((A.getD r.toNat []).getD 0 0) := bR (by rw [hq.2.1]; exact hsz.1)
   have hout := H.out n (List.mem_of_getElem? er)
   have iA : ¬ n = nb := hout.1
   have jA : ¬ nb = n := Ne.symm iA
   have fP : (n = nb) = False := eq_false iA
   have fQ : (nb = n) = False := eq_false jA
   have sV : ¬ n = b := hout.2.1
   have sU : ¬ b = n := Ne.symm sV
   have mZ : (n = b) = False := eq_false sV
   have mY : (b = n) = False := eq_false sU
   have bS : ¬ b = nb := H.bn.2.2
   have dO : ¬ nb = b := Ne.symm bS
   have cI : (b = nb) = False := eq_false bS
   have cJ : (nb = b) = False := eq_false dO
   unfold l7 at hgn
   simp -dsimp -implicitDefEqProofs only [go_sem, ↓reduceIte, Tryz.f138, eo, ew, hlt, a28, hb, er, hgn, e0, fP, mZ, fQ, cJ, mY, cI, aF]
   have n1 := hq.2.2.get 0
   have n2 := hwn.get k
   refine ⟨by omega, hr.1, by omega, hr.1, by omega, by omega, aG.mk (aHO _ _) ?_⟩
   simp -dsimp -implicitDefEqProofs only [go_sem, ↓reduceIte, Tryz.f138, eo, ew, hlt, a28, hb, er, hgn, e0, fP, mZ, fQ, cJ, mY, cI, aF]
   have hrow : bL.row 1 ((((A.getD r.toNat []).map fun n => [I n]).map (List.map Cell.v)).set (Int.toNat 0) [Cell.v (I (((A.getD r.toNat []).getD 0 0 + ws.getD k 0) % 1000003))]) = l7 ((A.getD r.toNat []).set 0 (((A.getD r.toNat []).getD 0 0 + ws.getD k 0) % 1000003)) := by
    rw [show Int.toNat 0 = 0 from rfl, pC I]; rfl
   have hset := H.set er (s := (A.getD r.toNat []).set 0 (((A.getD r.toNat []).getD 0 0 + ws.getD k 0) % 1000003)) ⟨by rw [List.length_set]; exact hq.2.1, fun x hx => by
    rcases List.mem_or_eq_of_mem_set hx with hx | rfl
    ·exact hq.2.2 x hx
    ·exact j4 _⟩
   rw [← hst] at hset
   refine ⟨by omega, (k + 1, _), IntWalk.i64_in _ (by omega), by rw [hrow]; exact aB.le_refl _, ⟨hlt, ?_⟩, by simp only; omega⟩
   simp only [hA1]
   exact hset
  ·have hk' : k = t.aM.length := by omega
   subst hk'
   simp -dsimp -implicitDefEqProofs only [go_sem, ↓reduceIte, Tryz.f138, Nat.lt_irrefl, Int.lt_irrefl]
   refine fun _ => ?_
   have xV := hsw _ (Nat.le_refl _)
   have hsl := H.seal
   generalize qM t.aM ws (List.replicate t.aO.length (rU sz)) t.aM.length = A0 at *
   clear hb a28
   rw [hN] at hsl
   refine aKH (keep := aCD) (ib := aPV) (mk := aPW) mix (by kernel_rfl) (fun x : Nat => [(1, bI rg), (3, .ip 4 [[I t.jE, dB 4 aZ.c t.aO, dB 2 dX.c t.nJ, ints t.aM]] 0 0), (7, .op nb 1 0 0), (12, I ((x : Int) - 1))]) (fun x => a5 (a5 h nb (.row 1 [[.v (.os b 1 0 t.aO.length)]])) b (bZ (pK t.aO rg A0 (t.aO.length - x) x))) (fun x => x ≤ t.aO.length) (fun x => x) t.aO.length ⟨?_, ?_, Nat.le_refl _⟩ ?_
   ·have wl : IntKind.i64.wrap ((t.aO.length : Int) - 1) = t.aO.length - 1 := IntWalk.i64_in _ (by omega)
    simp [b8, bJ, wl]
   ·rw [Nat.sub_self]; exact hsl
   obtain ⟨bn1, bn2, bn3⟩ := H.bn
   have bS : ¬ b = nb := bn3
   have dO : ¬ nb = b := Ne.symm bS
   have cI : (b = nb) = False := eq_false bS
   have cJ : (nb = b) = False := eq_false dO
   intro x hx
   cases x with
   |zero =>
    simp -dsimp -implicitDefEqProofs only [go_sem, ↓reduceIte, Tryz.f138, cI, cJ, aF]
    refine ⟨fun q => absurd q (by omega), fun _ => ?_⟩
    exact lK _ bn1 (by
     intro q_
     simp only [cB, Nat.sub_zero]
     by_cases e1 : q_ = b
     ·rw [if_pos e1, if_pos e1]; exact .inr rfl
     ·rw [if_neg e1, if_neg e1]
      by_cases e2 : q_ = nb
      ·subst e2; exact .inl hnb
      ·rw [if_neg e2]; exact .inr rfl) (qN hsz hins hrg xV t.aO.length 0 rfl).1.symm
   |succ y =>
    have hst : pK t.aO rg A0 (t.aO.length - y) y = lL (t.aO.getD y ⟨0, 0, 0, 0⟩) rg y (pK t.aO rg A0 (t.aO.length - (y + 1)) (y + 1)) := by
     rw [show t.aO.length - y = (t.aO.length - (y + 1)) + 1 by omega, pK]
    have hA := qN hsz hins hrg xV (t.aO.length - (y + 1)) (y + 1) (by omega)
    generalize pK t.aO rg A0 (t.aO.length - (y + 1)) (y + 1) = A at *
    have ec : t.aO[y]? = some t.aO[y] := List.getElem?_eq_getElem (by omega)
    have hin := hins y _ ec
    rw [show t.aO.getD y ⟨0, 0, 0, 0⟩ = t.aO[y] by rw [List.getD_eq_getElem?_getD, ec]; rfl] at hst
    generalize t.aO[y] = c at *
    have eA := hA.get (i := y) (by omega)
    have wy : ((y + 1 : Nat) : Int) - 1 = (y : Int) := by omega
    have wy2 : IntKind.i64.wrap ((y : Int) - 1) = (y : Int) - 1 := IntWalk.i64_in _ (by omega)
    rw [wy]
    simp -dsimp -implicitDefEqProofs only [go_sem, ↓reduceIte, Tryz.f138, ec, bZ, eA.1, cI, cJ, aF, wy2, aZ.aN]
    refine ⟨by omega, by omega, fun n ⟨n1, n2, n3⟩ => ?_⟩
    have sV : ¬ n = b := n1
    have sU : ¬ b = n := Ne.symm sV
    have mZ : (n = b) = False := eq_false sV
    have mY : (b = n) = False := eq_false sU
    have iA : ¬ n = nb := n2
    have jA : ¬ nb = n := Ne.symm iA
    have fP : (n = nb) = False := eq_false iA
    have fQ : (nb = n) = False := eq_false jA
    refine ⟨⟨by rw [aF _ _ _ _ sU, aH], by rw [aF _ _ _ _ jA, aF _ _ _ _ dO, aH]⟩, ⟨by rw [aF _ _ _ _ sU], by rw [aF _ _ _ _ jA]⟩, ?_⟩
    simp only [aK]
    have hnext : ∀ g : aB, (a5 (a5 h nb (.row 1 [[.v (.os b 1 0 t.aO.length)]])) b (bZ (lL c rg y A))).le g → ∃ x' : Nat, (y : Int) - 1 = (x' : Int) - 1 ∧ (a5 (a5 h nb (.row 1 [[.v (.os b 1 0 t.aO.length)]])) b (bZ (pK t.aO rg A0 (t.aO.length - x') x'))).wk g ∧ x' ≤ t.aO.length ∧ x' < y + 1 := fun g l => ⟨y, rfl, by rw [hst]; exact aB.iX l, by omega, Nat.lt_succ_self _⟩
    have aT3 : ∀ (X Y R Z : bL), (a5 (a5 h nb X) b Y).le (a5 (a5 (a5 (a5 h nb X) b Z) n R) b Y) := fun X Y R Z q_ => by
     by_cases e1 : q_ = b
     ·rw [e1, aH, aH]; exact .inr rfl
     rw [aF _ _ _ _ e1, aF _ _ _ _ e1]
     by_cases e2 : q_ = n
     ·rw [e2, aF _ _ _ _ n2]; exact .inl n3
     ·rw [aF _ _ _ _ e2, aF _ _ _ _ e1]; exact .inr rfl
    have a8X : ∀ (X Y R : bL), (a5 (a5 h nb X) b Y).le (a5 (a5 (a5 h nb X) b Y) n R) := fun X Y R => aB.bF (by rw [aF _ _ _ _ n1, aF _ _ _ _ n2]; exact n3) (aB.le_refl _)
    have hown := eA.2
    have gnb : ∀ (X Y R : bL), (a5 (a5 (a5 h nb X) b Y) n R) nb = some X := fun X Y R => by rw [aF _ _ _ _ jA, aF _ _ _ _ dO, aH]
    have aX1 : ∀ (X Y R W : bL), (a5 (a5 (a5 (a5 h nb X) b Y) n R) b W) nb = some X := fun X Y R W => by rw [aF _ _ _ _ dO, aF _ _ _ _ jA, aF _ _ _ _ dO, aH]
    have gb1 : ∀ (X Y R : bL), (a5 (a5 (a5 h nb X) b Y) n R) b = some Y := fun X Y R => by rw [aF _ _ _ _ sU, aH]
    rcases (show c.fM = 1 ∨ c.fM = 2 ∨ c.fM = 3 ∨ c.fM = 4 ∨ c.fM = 5 ∨ c.fM = 6 ∨ c.fM = 7 by unfold bE at hin; omega) with h1 | h1 | h1 | h1 | h1 | h1 | h1
    ·simp -dsimp -implicitDefEqProofs only [go_sem, ↓reduceIte, Tryz.f138, h1]
     refine hnext _ ?_
     rw [lL, if_neg (by omega), if_neg (by omega), if_neg (by omega), if_neg (by omega), if_neg (by omega)]
     exact a8X _ _ _
    ·simp -dsimp -implicitDefEqProofs only [go_sem, ↓reduceIte, Tryz.f138, h1]
     refine hnext _ ?_
     rw [lL, if_neg (by omega), if_neg (by omega), if_neg (by omega), if_neg (by omega), if_neg (by omega)]
     exact a8X _ _ _
    ·have i0 : (0 ≤ c.fA ∧ c.fA < y) ∧ 0 ≤ c.fB ∧ c.fB < y := by unfold bE at hin; omega
     have era := hrg.get (i := c.fA.toNat) (by omega)
     have erb := hrg.get (i := c.fB.toNat) (by omega)
     have ery := hrg.get (i := y) (by omega)
     simp -dsimp -implicitDefEqProofs only [go_sem, ↓reduceIte, Tryz.f138, h1]
     refine aG.fF (aIG hsz hA (r := c.fA) ⟨i0.1.1, by omega⟩ hown (gnb _ _ _) (gb1 _ _ _)) ?_
     rintro r_ h' rfl
     simp -dsimp -implicitDefEqProofs only [go_sem, ↓reduceIte, Tryz.f138, h1, mZ, fP, mY, cI, fQ, cJ, aF]
     refine aG.fF (aIG hsz (hA.put (r := c.fA) (by omega) hown) (r := c.fB) ⟨i0.2.1, by omega⟩ hown (aX1 _ _ _ _) (aH _ _ _)) ?_
     rintro r_ h' rfl
     rw [aK]
     simp -dsimp -implicitDefEqProofs only [go_sem, ↓reduceIte, Tryz.f138, wy2]
     refine hnext _ ?_
     rw [lL, if_pos h1]
     exact aT3 _ _ _ _
    ·have i0 : (0 ≤ c.fA ∧ c.fA < y) ∧ 0 ≤ c.fB ∧ c.fB < y := by unfold bE at hin; omega
     have era := hrg.get (i := c.fA.toNat) (by omega)
     have erb := hrg.get (i := c.fB.toNat) (by omega)
     have ery := hrg.get (i := y) (by omega)
     simp -dsimp -implicitDefEqProofs only [go_sem, ↓reduceIte, Tryz.f138, h1]
     refine aG.fF (aIG hsz hA (r := c.fA) ⟨i0.1.1, by omega⟩ hown (gnb _ _ _) (gb1 _ _ _)) ?_
     rintro r_ h' rfl
     simp -dsimp -implicitDefEqProofs only [go_sem, ↓reduceIte, Tryz.f138, h1, mZ, fP, mY, cI, fQ, cJ, aF]
     refine aG.mk (scaled _ 1000002 (by unfold iI; omega) (by rw [hown.1]; omega) hown.2) ?_
     simp -dsimp -implicitDefEqProofs only [go_sem, ↓reduceIte, Tryz.f138, h1, mZ, fP, mY, cI, fQ, cJ, aF]
     refine aG.fF (aIG hsz (hA.put (r := c.fA) (by omega) hown) (r := c.fB) ⟨i0.2.1, by omega⟩ (eQ _ hown) (aX1 _ _ _ _) (aH _ _ _)) ?_
     rintro r_ h' rfl
     rw [aK]
     simp -dsimp -implicitDefEqProofs only [go_sem, ↓reduceIte, Tryz.f138, wy2]
     refine hnext _ ?_
     rw [lL, if_neg (by omega), if_pos h1]
     exact aT3 _ _ _ _
    ·have i0 : (0 ≤ c.fA ∧ c.fA < y) ∧ 0 ≤ c.fB ∧ c.fB < y := by unfold bE at hin; omega
     have era := hrg.get (i := c.fA.toNat) (by omega)
     have erb := hrg.get (i := c.fB.toNat) (by omega)
     have ery := hrg.get (i := y) (by omega)
     simp -dsimp -implicitDefEqProofs only [go_sem, ↓reduceIte, Tryz.f138, h1, era.1, erb.1, hrl]
     simp only [aK]
     refine ⟨i0.2.1, by omega, aG.mk (product _ _ (by rw [erb.2.1, hown.1]) (by rw [hown.1]; omega) hown.2 erb.2.2) ?_⟩
     simp -dsimp -implicitDefEqProofs only [go_sem, ↓reduceIte, Tryz.f138, h1]
     refine aG.fF (aIG hsz hA (r := c.fA) ⟨i0.1.1, by omega⟩ (cW _ hown) (gnb _ _ _) (gb1 _ _ _)) ?_
     rintro r_ h' rfl
     simp -dsimp -implicitDefEqProofs only [go_sem, ↓reduceIte, Tryz.f138, h1, mZ, fP, mY, cI, fQ, cJ, aF, era.1, hrl]
     refine ⟨i0.1.1, by omega, aG.mk (product _ _ (by rw [era.2.1, hown.1]) (by rw [hown.1]; omega) hown.2 era.2.2) ?_⟩
     simp -dsimp -implicitDefEqProofs only [go_sem, ↓reduceIte, Tryz.f138, h1, mZ, fP, mY, cI, fQ, cJ, aF]
     refine aG.fF (aIG hsz (hA.put (r := c.fA) (by omega) (cW _ hown)) (r := c.fB) ⟨i0.2.1, by omega⟩ (cW _ hown) (aX1 _ _ _ _) (aH _ _ _)) ?_
     rintro r_ h' rfl
     rw [aK]
     simp -dsimp -implicitDefEqProofs only [go_sem, ↓reduceIte, Tryz.f138, wy2]
     refine hnext _ ?_
     rw [lL, if_neg (by omega), if_neg (by omega), if_pos h1]
     exact aT3 _ _ _ _
    ·have i0 : (0 ≤ c.fA ∧ c.fA < y) ∧ 0 ≤ c.fB ∧ c.fB < y := by unfold bE at hin; omega
     have era := hrg.get (i := c.fA.toNat) (by omega)
     have erb := hrg.get (i := c.fB.toNat) (by omega)
     have ery := hrg.get (i := y) (by omega)
     simp -dsimp -implicitDefEqProofs only [go_sem, ↓reduceIte, Tryz.f138, h1, era.1, erb.1, hrl]
     simp only [aK]
     have hpart := mX (rg.getD c.fB.toNat []) hown
     refine ⟨i0.2.1, by omega, aG.mk (quotient _ _ (by rw [erb.2.1, hown.1]) (by rw [hown.1]; omega) (by rw [hown.1]; omega) hown.2 erb.2.2) ?_⟩
     simp -dsimp -implicitDefEqProofs only [go_sem, ↓reduceIte, Tryz.f138, h1]
     refine aG.fF (aIG hsz hA (r := c.fA) ⟨i0.1.1, by omega⟩ hpart (gnb _ _ _) (gb1 _ _ _)) ?_
     rintro r_ h' rfl
     simp -dsimp -implicitDefEqProofs only [go_sem, ↓reduceIte, Tryz.f138, h1, mZ, fP, mY, cI, fQ, cJ, aF, ery.1, hrl]
     refine ⟨by omega, aG.mk (product _ _ (by rw [ery.2.1, hpart.1]) (by rw [hpart.1]; omega) hpart.2 ery.2.2) ?_⟩
     simp -dsimp -implicitDefEqProofs only [go_sem, ↓reduceIte, Tryz.f138, h1, mZ, fP, mY, cI, fQ, cJ, aF]
     refine aG.mk (scaled _ 1000002 (by unfold iI; omega) (by rw [(cW _ hpart).1]; omega) (cW _ hpart).2) ?_
     simp -dsimp -implicitDefEqProofs only [go_sem, ↓reduceIte, Tryz.f138, h1, mZ, fP, mY, cI, fQ, cJ, aF]
     refine aG.fF (aIG hsz (hA.put (r := c.fA) (by omega) hpart) (r := c.fB) ⟨i0.2.1, by omega⟩ (eQ _ (cW _ hpart)) (aX1 _ _ _ _) (aH _ _ _)) ?_
     rintro r_ h' rfl
     rw [aK]
     simp -dsimp -implicitDefEqProofs only [go_sem, ↓reduceIte, Tryz.f138, wy2]
     refine hnext _ ?_
     rw [lL, if_neg (by omega), if_neg (by omega), if_neg (by omega), if_pos h1]
     exact aT3 _ _ _ _
    ·have i0 : 0 ≤ c.fA ∧ c.fA < y := by unfold bE at hin; omega
     simp -dsimp -implicitDefEqProofs only [go_sem, ↓reduceIte, Tryz.f138, h1]
     refine aG.mk (scaled _ 1000002 (by unfold iI; omega) (by rw [hown.1]; omega) hown.2) ?_
     simp -dsimp -implicitDefEqProofs only [go_sem, ↓reduceIte, Tryz.f138, h1, mZ, fP, mY, cI, fQ, cJ, aF]
     refine aG.fF (aIG hsz hA (r := c.fA) ⟨i0.1, by omega⟩ (eQ _ hown) (gnb _ _ _) (gb1 _ _ _)) ?_
     rintro r_ h' rfl
     simp -dsimp -implicitDefEqProofs only [go_sem, ↓reduceIte, Tryz.f138, wy2]
     refine hnext _ ?_
     rw [lL, if_neg (by omega), if_neg (by omega), if_neg (by omega), if_neg (by omega), if_pos h1]
     exact aT3 _ _ _ _
def byK (code : List aZ) (L : List (List Int)) (sz inp : Nat) : Nat → List (List Int)
 |0 => List.replicate inp (rU sz)
 |k + 1 => if (code.getD k ⟨0, 0, 0, 0⟩).fM = 1 then (byK code L sz inp k).set (code.getD k ⟨0, 0, 0, 0⟩).aW.toNat (iC ((byK code L sz inp k).getD (code.getD k ⟨0, 0, 0, 0⟩).aW.toNat []) (L.getD k [])) else byK code L sz inp k
theorem zJ {sz : Nat} {code : List aZ} {inp : Nat} (hins : ∀ i c, code[i]? = some c → bE inp i c) {L : List (List Int)} (hL : eS sz code.length L) : ∀ k, k ≤ code.length → eS sz inp (byK code L sz inp k)
 |0, _ => ⟨by simp [byK], fun s hs => by rw [(List.mem_replicate.1 hs).2]; exact xM sz⟩
 |k + 1, h => by
  have ih := zJ hins hL k (by omega)
  have ec : code[k]? = some code[k] := List.getElem?_eq_getElem (by omega)
  have hc := hins k _ ec
  rw [byK, show code.getD k ⟨0, 0, 0, 0⟩ = code[k] by rw [List.getD_eq_getElem?_getD, ec]; rfl]
  split
  ·rename_i h1
   unfold bE at hc
   exact ih.set (lP (ih.get (by omega)).2 (hL.get (by omega)).2) _
  ·exact ih
@[go_sem] def aII : List Nat := [0, 1, 2, 4, 5, 6, 7, 8, 12, 18, 19, 20, 28, 29, 30, 31, 37]
@[go_sem] def aT4 : List Nat := [2, 24]
@[go_sem] def aT5 : Marks := fun id => match id with | 12 => ([2, 5, 7, 14], (.op 0 (.op 1 (.op 3 (.op 4 (.op 8 (.op 9 (.op 10 (.op 11 (.op 2 (.op 5 (.op 6 (.op 7 (.op 12 (.op 13 (.op 14 .nil))))))))))))))), []) | _ => ([], .nil, [])
set_option maxHeartbeats 4000000 in
theorem aT6 (t : kL) {sz inp : Nat} (hsz : 1 ≤ sz ∧ sz ≤ 1048576) (hinp : t.jE = inp) (bFV : inp ≤ 12) (hins : ∀ i c, t.aO[i]? = some c → bE inp i c) (hcl : 1 ≤ t.aO.length ∧ t.aO.length ≤ 3200) (L : List (List Int)) (hL : eS sz t.aO.length L) :
  dV Tryz.prog 104 [.agg t.c, bI L] (bI (byK t.aO L sz inp t.aO.length)) := by
 rw [kL.aN, hinp]
 have e0 := hL.get (i := 0) (by omega)
 have ll := hL.1
 have e00 : L[Int.toNat 0]? = some (L.getD 0 []) := e0.1
 have l0 := e0.2.1
 refine lO 54 aII aT4 aT5 mix Tryz.func104 rfl (by kernel_rfl) (by simp) fun h => ?_
 simp -dsimp -implicitDefEqProofs only [go_sem, ↓reduceIte, Tryz.f104, e00, ll, l0]
 refine ⟨by decide, fun b0 hb0 _ => ⟨fun _ => ⟨by omega, fun _ => ?_⟩, fun q => absurd (by omega) q⟩⟩
 refine aKH (keep := aII) (ib := aT4) (mk := aT5) mix (by kernel_rfl) (fun x : Nat × Nat => [(1, bI L), (2, .ip 4 [[I inp, dB 4 aZ.c t.aO, dB 2 dX.c t.nJ, ints t.aM]] 0 0), (5, .os x.2 1 0 x.1), (6, I sz), (18, I inp), (19, I x.1)]) (fun x => a5 h x.2 (bZ (List.replicate x.1 (rU sz)))) (fun x => x.1 ≤ inp ∧ h x.2 = none) (fun x => inp - x.1) (0, b0) ⟨by simp [b8, bJ], aB.iX (aB.le_refl _), Nat.zero_le _, hb0⟩ ?_
 rintro ⟨k, b⟩ ⟨hk, hb⟩
 simp only at hk hb ⊢
 rcases Nat.lt_or_ge k inp with hlt | hge
 ·simp -dsimp -implicitDefEqProofs only [go_sem, ↓reduceIte, Tryz.f104, hlt, bZ, List.length_replicate]
  refine ⟨by decide, Nat.le_refl _, by omega, by omega, fun m ⟨m1, m2⟩ => ?_⟩
  have kV : ¬ m = b := m1
  have gJ : ¬ b = m := Ne.symm kV
  have lC : (m = b) = False := eq_false kV
  have lB : (b = m) = False := eq_false gJ
  refine ⟨by decide, by decide, by decide, ?_⟩
  simp -dsimp -implicitDefEqProofs only [go_sem, ↓reduceIte, Tryz.f104, lC, lB, aF]
  rw [List.length_replicate]
  refine ⟨Nat.le_refl _, by omega, by omega, fun c ⟨c1, c2, c3⟩ => ?_⟩
  have aT7 : ¬ c = m := c1
  have a0H : ¬ m = c := Ne.symm aT7
  have bEO : (c = m) = False := eq_false aT7
  have bEP : (m = c) = False := eq_false a0H
  have aK7 : ¬ c = b := c2
  have aT2 : ¬ b = c := Ne.symm aK7
  have a0E : (c = b) = False := eq_false aK7
  have a0F : (b = c) = False := eq_false aT2
  have hzl : (rU sz).length = sz := (xM sz).1
  refine ⟨(k + 1, c), ⟨rfl, IntWalk.i64_in _ (by omega)⟩, ?_, ⟨hlt, c3⟩, by simp only; omega⟩
  refine aXG (m := m) (b := c) (List.replicate k (rU sz)) (rU sz) ?_ ?_ aT7 ?_
  ·rw [aF _ _ _ _ a0H, aF _ _ _ _ kV, aH]; exact congrArg some (aIH sz)
  ·rw [aH, List.take_of_length_le (by simp), hzl]
  ·rw [List.replicate_succ']
   intro q_
   by_cases e1 : q_ = c
   ·rw [e1, aH, aH]; exact .inr rfl
   rw [aF _ _ _ _ e1, aF _ _ _ _ e1]
   by_cases e2 : q_ = m
   ·rw [e2]; exact .inl m2
   by_cases e3 : q_ = b
   ·rw [e3]; exact .inl hb
   rw [aF _ _ _ _ e2, aF _ _ _ _ e1, aF _ _ _ _ e3, aF _ _ _ _ e2, aF _ _ _ _ e3]; exact .inr rfl
 ·have hk' : k = inp := by omega
  subst hk'
  simp -dsimp -implicitDefEqProofs only [go_sem, ↓reduceIte, Tryz.f104, Int.lt_irrefl, Nat.lt_irrefl]
  refine fun _ => ?_
  refine bX (keep := aII) (ib := aT4) (mk := aT5) mix (by kernel_rfl) (fun x : Nat => [(1, bI L), (5, .os b 1 0 k), (28, dB 4 aZ.c t.aO), (29, I t.aO.length), (30, I x)]) (fun x => a5 h b (bZ (byK t.aO L sz k x))) (fun x => x ≤ t.aO.length) (fun x => t.aO.length - x) 0 ⟨by simp [b8, bJ], aB.le_refl _, Nat.zero_le _⟩ ?_
  intro x hx
  have hB := zJ hins hL x hx
  rcases Nat.lt_or_ge x t.aO.length with hlt | aFF
  ·have ec : t.aO[x]? = some t.aO[x] := List.getElem?_eq_getElem hlt
   have hc := hins x _ ec
   have hst : byK t.aO L sz k (x + 1) = if t.aO[x].fM = 1 then (byK t.aO L sz k x).set t.aO[x].aW.toNat (iC ((byK t.aO L sz k x).getD t.aO[x].aW.toNat []) (L.getD x [])) else byK t.aO L sz k x := by
    rw [byK, show t.aO.getD x ⟨0, 0, 0, 0⟩ = t.aO[x] by rw [List.getD_eq_getElem?_getD, ec]; rfl]
   generalize byK t.aO L sz k x = A at *
   generalize t.aO[x] = c at *
   have eL := hL.get hlt
   simp -dsimp -implicitDefEqProofs only [go_sem, ↓reduceIte, Tryz.f104, hlt, ec, aZ.aN]
   refine fun n ⟨n1, n2⟩ => ?_
   have sV : ¬ n = b := n1
   have sU : ¬ b = n := Ne.symm sV
   have mZ : (n = b) = False := eq_false sV
   have mY : (b = n) = False := eq_false sU
   simp only [aK]
   refine ⟨fun h1 => ?_, fun h1 => ⟨x + 1, IntWalk.i64_in _ (by omega), ?_, hlt, by omega⟩⟩
   ·have hn : 0 ≤ c.aW ∧ c.aW < k := by unfold bE at hc; omega
    have eA := hB.get (i := c.aW.toNat) (by omega)
    have hcall := sI (added (A.getD c.aW.toNat []) (L.getD x []) (by rw [eL.2.1, eA.2.1]) (by rw [eA.2.1]; omega) (oK eA.2.2) (oK eL.2.2))
    simp -dsimp -implicitDefEqProofs only [go_sem, ↓reduceIte, Tryz.f104, bZ, mZ, mY, aF, eA.1, eL.1, ll]
    refine ⟨hlt, hn.1, hn.2, aE.mk hcall ?_⟩
    simp -dsimp -implicitDefEqProofs only [go_sem, ↓reduceIte, Tryz.f104, bZ, mZ, mY, aF, eA.1, eL.1, ll]
    refine ⟨hn.1, hn.2, x + 1, IntWalk.i64_in _ (by omega), ?_, hlt, by omega⟩
    rw [hst, if_pos h1]
    have hr := aGC A c.aW.toNat (iC (A.getD c.aW.toNat []) (L.getD x []))
    intro q_
    by_cases e1 : q_ = b
    ·rw [e1, aH, aH]; exact .inr (congrArg some hr.symm)
    rw [aF _ _ _ _ e1, aF _ _ _ _ e1]
    by_cases e2 : q_ = n
    ·rw [e2]; exact .inl n2
    rw [aF _ _ _ _ e2, aF _ _ _ _ e2, aF _ _ _ _ e1]; exact .inr rfl
   ·rw [hst, if_neg h1]
    exact aB.bF (by rw [aF _ _ _ _ n1]; exact n2) (aB.le_refl _)
  ·have hx' : x = t.aO.length := by omega
   subst hx'
   simp -dsimp -implicitDefEqProofs only [go_sem, ↓reduceIte, Tryz.f104, Int.lt_irrefl, Nat.lt_irrefl]
   exact lK _ hb (aB.le_refl _) hB.1.symm
theorem vV {sz n : Nat} (hsz : 1 ≤ sz) {outs ws : List Int} (ho : ∀ r ∈ outs, 0 ≤ r ∧ r < n) (hwn : dP ws) : ∀ k, k ≤ outs.length → eS sz n (qM outs ws (List.replicate n (rU sz)) k)
 |0, _ => ⟨by simp [qM], fun s hs => by rw [(List.mem_replicate.1 hs).2]; exact xM sz⟩
 |k + 1, hk => by
  have h1 := vV hsz ho hwn k (by omega)
  have hr := ho (outs.getD k 0) (by rw [List.getD_eq_getElem?_getD, List.getElem?_eq_getElem (by omega)]; exact List.getElem_mem _)
  have h2 := (h1.get (i := (outs.getD k 0).toNat) (by omega)).2
  refine h1.set ⟨by rw [List.length_set]; exact h2.1, fun x hx => ?_⟩ _
  rcases List.mem_or_eq_of_mem_set hx with hx | rfl
  ·exact h2.2 x hx
  ·exact j4 _
def Cg (x y : Int) : Prop := ∃ q : Int, x = y + 1000003 * q
theorem Cg.refl (x : Int) : Cg x x := ⟨0, by omega⟩
theorem Cg.symm {x y : Int} (h : Cg x y) : Cg y x := by obtain ⟨q, h⟩ := h; exact ⟨-q, by omega⟩
theorem Cg.trans {x y z : Int} (h : Cg x y) (k : Cg y z) : Cg x z := by obtain ⟨q, h⟩ := h; obtain ⟨r, k⟩ := k; exact ⟨q + r, by omega⟩
theorem Cg.add {a b c d : Int} (h : Cg a b) (k : Cg c d) : Cg (a + c) (b + d) := by obtain ⟨q, h⟩ := h; obtain ⟨r, k⟩ := k; exact ⟨q + r, by omega⟩
theorem Cg.mul {a b c d : Int} (h : Cg a b) (k : Cg c d) : Cg (a * c) (b * d) := by
 obtain ⟨q, rfl⟩ := h; obtain ⟨r, rfl⟩ := k; exact ⟨q * d + b * r + 1000003 * q * r, by grind⟩
theorem Cg.mod (x : Int) : Cg (x % 1000003) x := ⟨-(x / 1000003), by omega⟩
theorem Cg.of_eq {x y : Int} (h : x = y) : Cg x y := h ▸ Cg.refl x
theorem Cg.num {x y : Int} (h : Cg x y) (hx : iI x) (hy : iI y) : x = y := by
 obtain ⟨q, h⟩ := h
 unfold iI at hx hy
 omega
theorem aNJ {x y : Int} (h : Cg x y) : Cg (-x) (-y) := by obtain ⟨q, h⟩ := h; exact ⟨-q, by omega⟩
theorem wL {code : List aZ} {j : Nat} {c : aZ} (e : code[j]? = some c) : code.getD j ⟨0, 0, 0, 0⟩ = c := by rw [List.getD_eq_getElem?_getD, e]; rfl
def gS : (Nat → Int) → (Nat → Int) → Nat → Int
 |f, g, 0 => f 0 * g 0
 |f, g, k + 1 => f 0 * g (k + 1) + gS (fun i => f (i + 1)) g k
theorem aAR : ∀ (k : Nat) (f g : Nat → Int), gS f g (k + 1) = gS f (fun i => g (i + 1)) k + f (k + 1) * g 0
 |0, f, g => rfl
 |k + 1, f, g => by
  show f 0 * g (k + 2) + gS (fun i => f (i + 1)) g (k + 1) = (f 0 * g (k + 2) + gS (fun i => f (i + 1)) (fun i => g (i + 1)) k) + f (k + 2) * g 0
  have := aAR k (fun i => f (i + 1)) g
  simp only [Nat.add_assoc, Nat.reduceAdd] at this ⊢
  omega
theorem mC : ∀ (k : Nat) (f g : Nat → Int), gS f g k = gS g f k
 |0, f, g => Int.mul_comm _ _
 |k + 1, f, g => by
  rw [aAR k g f, gS, mC k (fun i => f (i + 1)) g, Int.mul_comm (f 0)]; omega
theorem zK : ∀ (k : Nat) (f g h : Nat → Int), gS (fun i => f i + g i) h k = gS f h k + gS g h k
 |0, f, g, h => Int.add_mul _ _ _
 |k + 1, f, g, h => by
  rw [gS, gS, gS, zK k (fun i => f (i + 1)) (fun i => g (i + 1)) h]; grind
theorem uF (c : Int) : ∀ (k : Nat) (f h : Nat → Int), gS (fun i => c * f i) h k = c * gS f h k
 |0, f, h => Int.mul_assoc _ _ _
 |k + 1, f, h => by
  rw [gS, gS, uF c k (fun i => f (i + 1)) h]; grind
theorem zL (k : Nat) (f h : Nat → Int) : gS (fun i => -(f i)) h k = -(gS f h k) := by
 have := uF (-1) k f h
 simp only [Int.neg_mul, Int.one_mul] at this
 exact this
theorem vW (k : Nat) (f g h : Nat → Int) : gS h (fun i => f i + g i) k = gS h f k + gS h g k := by rw [mC, zK, mC k f, mC k g]
theorem zM (k : Nat) (f h : Nat → Int) : gS h (fun i => -(f i)) k = -(gS h f k) := by rw [mC, zL, mC k f]
theorem aK8 (c : Int) (k : Nat) (f h : Nat → Int) : gS h (fun i => c * f i) k = c * gS h f k := by rw [mC, uF, mC k f]
theorem oG : ∀ (k : Nat) (f g h : Nat → Int), gS (gS f g) h k = gS f (gS g h) k
 |0, f, g, h => Int.mul_assoc _ _ _
 |k + 1, f, g, h => by
  have e : (fun i => gS f g (i + 1)) = fun i => f 0 * g (i + 1) + gS (fun i => f (i + 1)) g i := rfl
  rw [gS, e, zK k (fun i => f 0 * g (i + 1)) (gS (fun i => f (i + 1)) g), uF, oG k (fun i => f (i + 1)) g h, gS, gS, gS]
  grind
theorem lM : ∀ (k : Nat) (f f' g g' : Nat → Int), (∀ i, i ≤ k → Cg (f i) (f' i)) → (∀ i, i ≤ k → Cg (g i) (g' i)) → Cg (gS f g k) (gS f' g' k)
 |0, f, f', g, g', a, b => (a 0 (Nat.le_refl _)).mul (b 0 (Nat.le_refl _))
 |k + 1, f, f', g, g', a, b => ((a 0 (by omega)).mul (b (k + 1) (Nat.le_refl _))).add (lM k _ _ g g' (fun i hi => a (i + 1) (by omega)) fun i hi => b i (by omega))
theorem aPX : ∀ (k : Nat) (f : Nat → Int), gS f (fun i => if i = 0 then 1 else 0) k = f k
 |0, f => by simp [gS]
 |k + 1, f => by rw [aAR]; simp only [Nat.add_one_ne_zero, if_false, if_true]; rw [mC]; have := uF 0 k (fun _ => 0) f; simp only [Int.zero_mul] at this; rw [this]; omega
def gZ (F : Nat → Int) : Nat → Int
 |0 => 0
 |m + 1 => gZ F m + F m
theorem aGE (F : Nat → Int) : ∀ m, gZ F (m + 1) = F 0 + gZ (fun i => F (i + 1)) m
 |0 => by simp [gZ]
 |m + 1 => by rw [gZ, aGE F m, gZ]; omega
theorem qO {F G : Nat → Int} : ∀ m, (∀ i, i < m → F i = G i) → gZ F m = gZ G m
 |0, _ => rfl
 |m + 1, h => by rw [gZ, gZ, qO m fun i hi => h i (by omega), h m (by omega)]
theorem aPY {F G : Nat → Int} : ∀ m, (∀ i, i < m → Cg (F i) (G i)) → Cg (gZ F m) (gZ G m)
 |0, _ => Cg.refl _
 |m + 1, h => (aPY m fun i hi => h i (by omega)).add (h m (by omega))
theorem aIJ : ∀ (k : Nat) (f g : Nat → Int), gS f g k = gZ (fun i => f i * g (k - i)) (k + 1)
 |0, f, g => by simp [gS, gZ]
 |k + 1, f, g => by
  have h : gZ (fun i => f (i + 1) * g (k - i)) (k + 1) = gZ (fun i => f (i + 1) * g (k + 1 - (i + 1))) (k + 1) := qO _ fun i hi => by rw [show k + 1 - (i + 1) = k - i by omega]
  rw [gS, aIJ k, h, aGE (fun i => f i * g (k + 1 - i)) (k + 1)]; rfl
def sF (s : List Int) : Nat → Int := fun i => s.getD i 0
theorem aT8 (a b : List Int) (k : Nat) : ∀ m, Cg (tS a b k m) (gZ (fun i => sF a i * sF b (k - i)) m)
 |0 => Cg.refl _
 |m + 1 => (Cg.mod _).trans ((aT8 a b k m).add (Cg.refl _))
theorem aT9 (o b : List Int) (k : Nat) (r : Int) : ∀ m, Cg (y5 o b k r m) (r - gZ (fun i => sF o i * sF b (k - i)) m)
 |0 => Cg.of_eq (by simp [y5, gZ])
 |m + 1 => (Cg.mod _).trans (((aT9 o b k r m).add (Cg.refl (-(o.getD m 0 * b.getD (k - m) 0)))).trans (Cg.of_eq (by rw [gZ]; simp only [sF]; omega)))
theorem aEO {sz : Nat} {a b : List Int} (ha : bC sz a) (hb : bC sz b) {k : Nat} (hk : k < sz) : Cg (sF (iC a b) k) (sF a k + sF b k) := by
 have h : (iC a b)[k]? = some ((a.getD k 0 + b.getD k 0) % 1000003) := by
  rw [iC, List.getElem?_zipWith, bR (l := a) (by rw [ha.1]; exact hk), bR (l := b) (by rw [hb.1]; exact hk)]
 rw [sF, List.getD_eq_getElem?_getD, h]; exact Cg.mod _
theorem a29 {sz : Nat} {a : List Int} (ha : bC sz a) (n : Int) {k : Nat} (hk : k < sz) : Cg (sF (iP a n) k) (sF a k * n) := by
 have h : (iP a n)[k]? = some (a.getD k 0 * n % 1000003) := by
  rw [iP, List.getElem?_map, bR (l := a) (by rw [ha.1]; exact hk)]; rfl
 rw [sF, List.getD_eq_getElem?_getD, h]; exact Cg.mod _
theorem aEP {sz : Nat} {a : List Int} (ha : bC sz a) {k : Nat} (hk : k < sz) : Cg (sF (iP a 1000002) k) (-(sF a k)) := (a29 ha _ hk).trans ⟨sF a k, by omega⟩
theorem aUA {sz : Nat} {a b : List Int} (ha : bC sz a) (hb : bC sz b) {k : Nat} (hk : k < sz) : Cg (sF (y3 a b) k) (sF a k + -(sF b k)) := (aEO ha (eQ _ hb) hk).trans ((Cg.refl _).add (aEP hb hk))
theorem xN {sz : Nat} {a : List Int} (b : List Int) (ha : bC sz a) {k : Nat} (hk : k < sz) : Cg (sF (mulL a b) k) (gS (sF a) (sF b) k) := by
 have h : (mulL a b)[k]? = some (tS a b k (k + 1)) := by
  rw [mulL, List.getElem?_map, List.getElem?_range (by rw [ha.1]; exact hk)]; rfl
 rw [sF, List.getD_eq_getElem?_getD, h, aIJ]; exact aT8 a b k _
theorem vX {sz : Nat} (n : Int) (k : Nat) (hk : k < sz) : sF (cF n sz) k = if k = 0 then n else 0 := by
 rw [sF, cF, List.getD_eq_getElem?_getD]
 split
 ·rename_i e; subst e
  rw [List.getElem?_set_self (by rw [List.length_replicate]; exact hk)]; rfl
 ·rename_i e
  rw [List.getElem?_set_ne (Ne.symm e), List.getElem?_replicate, if_pos hk]; rfl
theorem aK9 {sz : Nat} {a : List Int} (b : List Int) (ha : bC sz a) {k : Nat} (hk : k < sz) : Cg (sF (iK a b) k) ((sF a k - gZ (fun i => sF (iK a b) i * sF b (k - i)) k) * iQ (b.getD 0 0)) := by
 have hl : k < a.length := by rw [ha.1]; exact hk
 have h : sF (iK a b) k = y5 (iD a b k) b k (a.getD k 0) k * iQ (b.getD 0 0) % 1000003 := by
  rw [sF, List.getD_eq_getElem?_getD, List.getElem?_eq_getElem (by rw [nG]; exact hl)]
  exact aD0 hl
 rw [h]
 refine (Cg.mod _).trans (Cg.mul ((aT9 _ b k _ k).trans (Cg.of_eq ?_)) (Cg.refl _))
 congr 1
 refine qO k fun i hi => ?_
 congr 1
 rw [sF, sF, iK, ← pY a b (k := k) a.length (by omega), List.getD_eq_getElem?_getD, List.getElem?_take_of_lt hi, ← List.getD_eq_getElem?_getD]
def ivL (b : List Int) (sz : Nat) : List Int := iK (cF 1 sz) b
theorem aLA (f g : Nat → Int) (k : Nat) : gS f (fun i => if i = 0 then 0 else g i) k = gZ (fun i => f i * g (k - i)) k := by
 rw [aIJ, gZ, Nat.sub_self, if_pos rfl, Int.mul_zero, Int.add_zero]
 exact qO k fun i hi => by rw [if_neg (by omega)]
theorem aIK {sz : Nat} {a b : List Int} (ha : bC sz a) : ∀ (m k : Nat), k < m → k < sz → Cg (sF (iK a b) k) (gS (sF a) (sF (ivL b sz)) k)
 |0, k, h, _ => by omega
 |m + 1, k, h, hk => by
  have ih := fun i hi hi2 => aIK (b := b) ha m i hi hi2
  have hc : bC sz (cF 1 sz) := dF (by unfold iI; omega)
  have h1 := aK9 b ha hk
  refine h1.trans ?_
  have h2 : ∀ i, i ≤ k → Cg (sF (ivL b sz) i) (iQ (b.getD 0 0) * ((if i = 0 then 1 else 0) + -(gS (sF (ivL b sz)) (fun i => if i = 0 then 0 else sF b i) i))) := fun i hi => by
   have := aK9 b hc (k := i) (by omega)
   rw [vX _ _ (by omega)] at this
   rw [aLA, Int.mul_comm]
   exact this
  have h3 : Cg (gS (sF a) (sF (ivL b sz)) k) (iQ (b.getD 0 0) * (sF a k + -(gS (gS (sF a) (sF (ivL b sz))) (fun i => if i = 0 then 0 else sF b i) k))) := by
   refine (lM k _ _ _ _ (fun i _ => Cg.refl _) h2).trans (Cg.of_eq ?_)
   rw [aK8 (iQ (b.getD 0 0)) k (fun i => (if i = 0 then 1 else 0) + -(gS (sF (ivL b sz)) (fun i => if i = 0 then 0 else sF b i) i)) (sF a), vW k (fun i => if i = 0 then 1 else 0), aPX, zM k (gS (sF (ivL b sz)) fun i => if i = 0 then 0 else sF b i), oG]
  refine Cg.trans ?_ h3.symm
  rw [aLA, Int.mul_comm]
  exact (Cg.refl _).mul ((Cg.refl _).add (aNJ (aPY k fun i hi => (ih i (by omega) (by omega)).mul (Cg.refl _))))
structure aUB (R : List Int → List Int → Prop) (sz sz' : Nat) : Prop where
 nil : R [] []
 hd : ∀ {s s'}, R s s' → s.getD 0 0 = s'.getD 0 0
 add : ∀ {a a' b b'}, R a a' → R b b' → R (iC a b) (iC a' b')
 scl : ∀ {a a'} (n : Int), R a a' → R (iP a n) (iP a' n)
 mul : ∀ {a a' b b'}, R a a' → R b b' → R (mulL a b) (mulL a' b')
 div : ∀ {a a' b b'}, R a a' → R b b' → R (iK a b) (iK a' b')
 const : ∀ n, R (cF n sz) (cF n sz')
theorem aUB.sub {R : List Int → List Int → Prop} {sz sz' : Nat} (H : aUB R sz sz') {a a' b b' : List Int} (ha : R a a') (hb : R b b') : R (y3 a b) (y3 a' b') := H.add ha (H.scl _ hb)
def eG (R : List Int → List Int → Prop) : List (List Int) → List (List Int) → Prop
 | [], [] => True
 |s :: l, s' :: l' => R s s' ∧ eG R l l'
 | _, _ => False
theorem eG.get {R : List Int → List Int → Prop} (hn : R [] []) : ∀ {l l' : List (List Int)}, eG R l l' → ∀ i, R (l.getD i []) (l'.getD i [])
 | [], [], _, i => by simp [hn]
 |s :: l, s' :: l', h, 0 => h.1
 |s :: l, s' :: l', h, i + 1 => by simpa using eG.get hn h.2 i
 | [], _ :: _, h, _ => h.elim
 | _ :: _, [], h, _ => h.elim
theorem eG.len {R : List Int → List Int → Prop} : ∀ {l l' : List (List Int)}, eG R l l' → l.length = l'.length
 | [], [], _ => rfl
 |s :: l, s' :: l', h => by simp [eG.len h.2]
 | [], _ :: _, h => h.elim
 | _ :: _, [], h => h.elim
theorem eG.of {R : List Int → List Int → Prop} : ∀ {l l' : List (List Int)}, l.length = l'.length → (∀ i, i < l.length → R (l.getD i []) (l'.getD i [])) → eG R l l'
 | [], [], _, _ => trivial
 |s :: l, s' :: l', hl, h => ⟨h 0 (by simp), eG.of (by simpa using hl) fun i hi => by simpa using h (i + 1) (by simp; omega)⟩
 | [], _ :: _, h, _ => by simp at h
 | _ :: _, [], h, _ => by simp at h
def pR (m : Nat) (s s' : List Int) : Prop := (s = [] ∧ s' = []) ∨ (m ≤ s.length ∧ m ≤ s'.length ∧ ∀ i, i < m → sF s i = sF s' i)
theorem pR.get {m : Nat} {s s' : List Int} (h : pR m s s') {i : Nat} (hi : i < m) : sF s i = sF s' i := by
 rcases h with ⟨rfl, rfl⟩ | ⟨_, _, h⟩
 ·rfl
 ·exact h i hi
theorem aGG {a a' b b' : List Int} {k m : Nat} (hk : k < m) (ha : ∀ i, i < m → sF a i = sF a' i) (hb : ∀ i, i < m → sF b i = sF b' i) : ∀ n, n ≤ k + 1 → tS a b k n = tS a' b' k n
 |0, _ => rfl
 |n + 1, h => by
  have h1 := ha n (by omega)
  have h2 := hb (k - n) (by omega)
  simp only [sF] at h1 h2
  rw [tS, tS, aGG hk ha hb n (by omega), h1, h2]
theorem aGH {o b b' : List Int} {k m : Nat} (hk : k < m) (hb : ∀ i, i < m → sF b i = sF b' i) (r : Int) : ∀ n, y5 o b k r n = y5 o b' k r n
 |0 => rfl
 |n + 1 => by
  have h2 := hb (k - n) (by omega)
  simp only [sF] at h2
  rw [y5, y5, aGH hk hb r n, h2]
theorem aEQ {a a' b b' : List Int} {m : Nat} (hm : 0 < m) (ha : ∀ i, i < m → sF a i = sF a' i) (hb : ∀ i, i < m → sF b i = sF b' i) : ∀ k, k ≤ m → iD a b k = iD a' b' k
 |0, _ => rfl
 |k + 1, h => by
  have h1 := ha k (by omega)
  have h2 := hb 0 hm
  simp only [sF] at h1 h2
  rw [iD, iD, aEQ hm ha hb k (by omega), h1, h2, aGH (m := m) (by omega) hb]
theorem aGI {s : List Int} {i : Nat} {x : Int} (h : s[i]? = some x) : sF s i = x := by rw [sF, List.getD_eq_getElem?_getD, h]; rfl
theorem a3A {m sz sz' : Nat} (hm : 0 < m) (h1 : m ≤ sz) (h2 : m ≤ sz') : aUB (pR m) sz sz' where
 nil := .inl ⟨rfl, rfl⟩
 hd h := h.get hm
 add {a a' b b'} ha hb := by
  rcases ha with ⟨rfl, rfl⟩ | ⟨a1, a2, a3⟩
  ·exact .inl ⟨rfl, rfl⟩
  rcases hb with ⟨rfl, rfl⟩ | ⟨b1, b2, b3⟩
  ·exact .inl ⟨by simp [iC], by simp [iC]⟩
  ·refine .inr ⟨by simp [iC]; omega, by simp [iC]; omega, fun i hi => ?_⟩
   have e1 := a3 i hi
   have e2 := b3 i hi
   simp only [sF] at e1 e2
   rw [aGI (s := iC a b) (x := (a.getD i 0 + b.getD i 0) % 1000003) (by rw [iC, List.getElem?_zipWith, bR (l := a) (by omega), bR (l := b) (by omega)]),
    aGI (s := iC a' b') (x := (a'.getD i 0 + b'.getD i 0) % 1000003) (by rw [iC, List.getElem?_zipWith, bR (l := a') (by omega), bR (l := b') (by omega)]), e1, e2]
 scl {a a'} n ha := by
  rcases ha with ⟨rfl, rfl⟩ | ⟨a1, a2, a3⟩
  ·exact .inl ⟨rfl, rfl⟩
  ·refine .inr ⟨by rw [nH]; exact a1, by rw [nH]; exact a2, fun i hi => ?_⟩
   have e1 := a3 i hi
   simp only [sF] at e1
   rw [aGI (s := iP a n) (x := a.getD i 0 * n % 1000003) (by rw [iP, List.getElem?_map, bR (l := a) (by omega)]; rfl),
    aGI (s := iP a' n) (x := a'.getD i 0 * n % 1000003) (by rw [iP, List.getElem?_map, bR (l := a') (by omega)]; rfl), e1]
 mul {a a' b b'} ha hb := by
  have hb' := fun i hi => hb.get (i := i) hi
  rcases ha with ⟨rfl, rfl⟩ | ⟨a1, a2, a3⟩
  ·exact .inl ⟨rfl, rfl⟩
  ·refine .inr ⟨by rw [y6]; exact a1, by rw [y6]; exact a2, fun i hi => ?_⟩
   rw [aGI (s := mulL a b) (x := tS a b i (i + 1)) (by rw [mulL, List.getElem?_map, List.getElem?_range (by omega)]; rfl),
    aGI (s := mulL a' b') (x := tS a' b' i (i + 1)) (by rw [mulL, List.getElem?_map, List.getElem?_range (by omega)]; rfl), aGG hi a3 hb' _ (Nat.le_refl _)]
 div {a a' b b'} ha hb := by
  have hb' := fun i hi => hb.get (i := i) hi
  rcases ha with ⟨rfl, rfl⟩ | ⟨a1, a2, a3⟩
  ·exact .inl ⟨rfl, rfl⟩
  ·refine .inr ⟨by rw [nG]; exact a1, by rw [nG]; exact a2, fun i hi => ?_⟩
   have e : ∀ x : List Int, sF x i = sF (x.take m) i := fun x => by rw [sF, sF, List.getD_eq_getElem?_getD, List.getD_eq_getElem?_getD, List.getElem?_take_of_lt hi]
   rw [e (iK a b), e (iK a' b'), iK, iK, pY a b _ a1, pY a' b' _ a2, aEQ hm a3 hb' m (Nat.le_refl _)]
 const n := .inr ⟨by simp [cF]; exact h1, by simp [cF]; exact h2, fun i hi => by rw [vX _ _ (by omega), vX _ _ (by omega)]⟩
def pL (sz : Nat) (dirs : List (List Int)) (D rg : Nat → List Int) (k : Nat) (c : aZ) : List Int :=
 if c.fM = 1 then dirs.getD c.aW.toNat []
 else if c.fM = 2 then cF 0 sz
 else if c.fM = 3 then iC (D c.fA.toNat) (D c.fB.toNat)
 else if c.fM = 4 then y3 (D c.fA.toNat) (D c.fB.toNat)
 else if c.fM = 5 then iC (mulL (D c.fA.toNat) (rg c.fB.toNat)) (mulL (rg c.fA.toNat) (D c.fB.toNat))
 else if c.fM = 7 then iP (D c.fA.toNat) 1000002
 else iK (y3 (D c.fA.toNat) (mulL (rg k) (D c.fB.toNat))) (rg c.fB.toNat)
def zV (sz : Nat) (dirs : List (List Int)) (rg : Nat → List Int) (code : List aZ) : Nat → List (List Int)
 |0 => []
 |k + 1 => zV sz dirs rg code k ++ [pL sz dirs (fun i => (zV sz dirs rg code k).getD i []) rg k (code.getD k ⟨0, 0, 0, 0⟩)]
theorem zN (sz : Nat) (dirs : List (List Int)) (rg : Nat → List Int) (code : List aZ) : ∀ k, (zV sz dirs rg code k).length = k
 |0 => rfl
 |k + 1 => by rw [zV, List.length_append, zN sz dirs rg code k]; rfl
theorem zO (sz : Nat) (dirs : List (List Int)) (rg : Nat → List Int) (code : List aZ) {r k : Nat} (hr : r < k) : ∀ n, k ≤ n → (zV sz dirs rg code n).getD r [] = (zV sz dirs rg code k).getD r []
 |0, h => by omega
 |n + 1, h => by
  rcases Nat.lt_or_ge n k with h1 | h1
  ·have : k = n + 1 := by omega
   rw [this]
  ·rw [← zO sz dirs rg code hr n h1, zV, List.getD_eq_getElem?_getD, List.getElem?_append_left (by rw [zN]; omega), List.getD_eq_getElem?_getD]
def xO (sz : Nat) (dirs : List (List Int)) (rg : Nat → List Int) (code : List aZ) (k : Nat) : List Int := (zV sz dirs rg code code.length).getD k []
theorem xP {sz : Nat} {dirs : List (List Int)} {rg : Nat → List Int} {code : List aZ} {inp : Int} {k : Nat} {c : aZ} (e : code[k]? = some c) (hi : bE inp k c) : xO sz dirs rg code k = pL sz dirs (xO sz dirs rg code) rg k c := by
 have h := (List.getElem?_eq_some_iff.1 e).1
 have h1 : xO sz dirs rg code k = pL sz dirs (fun i => (zV sz dirs rg code k).getD i []) rg k c := by
  rw [xO, zO sz dirs rg code (Nat.lt_succ_self k) code.length h, zV, List.getD_eq_getElem?_getD, List.getElem?_append_right (by rw [zN]; exact Nat.le_refl _), zN, Nat.sub_self, wL e]; rfl
 have h2 : ∀ i, i < k → (zV sz dirs rg code k).getD i [] = xO sz dirs rg code i := fun i hi => (zO sz dirs rg code hi code.length (by omega)).symm
 rw [h1]
 unfold bE at hi
 unfold pL
 split
 ·rfl
 split
 ·rfl
 dsimp only
 rw [h2 c.fA.toNat (by omega)]
 by_cases h7 : c.fM = 7
 ·rw [if_neg (by omega), if_neg (by omega), if_neg (by omega), if_pos h7, if_neg (by omega), if_neg (by omega), if_neg (by omega), if_pos h7]
 ·rw [h2 c.fB.toNat (by omega)]
theorem aCE {sz : Nat} (hsz : 1 ≤ sz) {dirs : List (List Int)} {rg : Nat → List Int} {code : List aZ} {inp : Int} (hins : ∀ i c, code[i]? = some c → bE inp i c) (hd : ∀ s ∈ dirs, bC sz s) (hl : (dirs.length : Int) = inp) (hrg : ∀ k, k < code.length → bC sz (rg k)) : ∀ n k, k < n → k < code.length → bC sz (xO sz dirs rg code k)
 |0, k, h, _ => by omega
 |n + 1, k, hn, hk => by
  have ih := fun i hi => aCE hsz hins hd hl hrg n i hi
  have e : code[k]? = some code[k] := List.getElem?_eq_getElem hk
  have hc := hins k _ e
  rw [xP e hc]
  generalize code[k] = c at *
  unfold bE at hc
  unfold pL
  by_cases h1 : c.fM = 1
  ·rw [if_pos h1]; exact gM hd (by omega)
  rw [if_neg h1]
  by_cases h2 : c.fM = 2
  ·rw [if_pos h2]; exact dF (by unfold iI; omega)
  rw [if_neg h2]
  have da := ih c.fA.toNat (by omega) (by omega)
  by_cases h3 : c.fM = 3
  ·rw [if_pos h3]; exact lP da (ih _ (by omega) (by omega))
  rw [if_neg h3]
  by_cases h4 : c.fM = 4
  ·rw [if_pos h4]; exact oD da (ih _ (by omega) (by omega))
  rw [if_neg h4]
  by_cases h5 : c.fM = 5
  ·rw [if_pos h5]; exact lP (cW _ da) (cW _ (hrg _ (by omega)))
  rw [if_neg h5]
  by_cases h7 : c.fM = 7
  ·rw [if_pos h7]; exact eQ _ da
  ·rw [if_neg h7]; exact mX _ (oD da (cW _ (hrg _ (by omega))))
def fA (A : List (List Int)) (i : Nat) : Nat → Int := sF (A.getD i [])
theorem aRA {a a' : Nat → Nat → Int} (d : Nat → Nat → Int) (j : Nat) (m : Nat) (h : ∀ k, k < m → a' k = a k) : gZ (fun i => gS (a' i) (d i) j) m = gZ (fun i => gS (a i) (d i) j) m := qO m fun i hi => by rw [h i hi]
theorem aIL {a a' : Nat → Nat → Int} {d : Nat → Nat → Int} {r j : Nat} {s : Nat → Int} (h : ∀ k, ¬ k = r → a' k = a k) (hr : ∀ q, q ≤ j → Cg (a' r q) (a r q + s q)) : ∀ m, r < m → Cg (gZ (fun i => gS (a' i) (d i) j) m) (gZ (fun i => gS (a i) (d i) j) m + gS s (d r) j)
 |0, q => by omega
 |m + 1, q => by
  rw [gZ, gZ]
  by_cases e : m = r
  ·subst e
   rw [aRA d j m fun k hk => h k (by omega)]
   exact ((Cg.refl _).add ((lM j _ _ _ _ hr fun i _ => Cg.refl _).trans (Cg.of_eq (zK j _ _ _)))).trans (Cg.of_eq (by omega))
  ·rw [h m e]
   exact ((aIL h hr m (by omega)).add (Cg.refl _)).trans (Cg.of_eq (by omega))
theorem aUC {sz n : Nat} {A : List (List Int)} (hA : eS sz n A) {r : Int} (hr : r.toNat < n) {s : List Int} (hs : bC sz s) : (∀ k, ¬ k = r.toNat → fA (rV r s A) k = fA A k) ∧ ∀ q, q < sz → Cg (fA (rV r s A) r.toNat q) (fA A r.toNat q + sF s q) := by
 refine ⟨fun k hk => ?_, fun q hq => ?_⟩
 ·rw [fA, fA, rV, List.getD_eq_getElem?_getD (l := A.set _ _), List.getElem?_set_ne (Ne.symm hk), ← List.getD_eq_getElem?_getD]
 ·rw [fA, rV, List.getD_eq_getElem?_getD (l := A.set _ _), List.getElem?_set_self (by rw [hA.1]; exact hr)]
  exact aEO (hA.get hr).2 hs hq
theorem aIM {sz n : Nat} {A : List (List Int)} (hA : eS sz n A) {r : Int} {s : List Int} (hs : bC sz s) {d : Nat → Nat → Int} {j m : Nat} (hj : j < sz) (hr : r.toNat < m) (hm : m ≤ n) : Cg (gZ (fun i => gS (fA (rV r s A) i) (d i) j) m) (gZ (fun i => gS (fA A i) (d i) j) m + gS (sF s) (d r.toNat) j) :=
 aIL (aUC hA (by omega) hs).1 (fun q hq => (aUC hA (by omega) hs).2 q (by omega)) m hr
theorem wM (f g : Nat → Int) : gS f g = gS g f := funext fun k => mC k f g
theorem a3B {sz n y j : Nat} (hj : j < sz) (hy : y < n) {c : aZ} {inp : Int} (hc : bE inp y c) {rg : List (List Int)} (hrg : eS sz n rg) {A : List (List Int)} (hA : eS sz n A) {D : Nat → List Int} (hD : ∀ k, k < n → bC sz (D k)) {dirs : List (List Int)} (hop : D y = pL sz dirs D (fun i => rg.getD i []) y c) :
  Cg (gZ (fun i => gS (fA A i) (sF (D i)) j) y + gS (fA A y) (sF (D y)) j) (gZ (fun i => gS (fA (lL c rg y A) i) (sF (D i)) j) y + if c.fM = 1 then gS (fA A y) (sF (D y)) j else 0) := by
 have h0 := (hA.get hy).2
 have hc' := hc
 unfold bE at hc
 have dy := hD y hy
 unfold pL at hop
 dsimp only at hop
 by_cases e1 : c.fM = 1
 ·rw [if_pos e1, lL, if_neg (by omega), if_neg (by omega), if_neg (by omega), if_neg (by omega), if_neg (by omega)]; exact Cg.refl _
 rw [if_neg e1] at hop ⊢
 by_cases e2 : c.fM = 2
 ·rw [if_pos e2] at hop
  rw [lL, if_neg (by omega), if_neg (by omega), if_neg (by omega), if_neg (by omega), if_neg (by omega)]
  refine (Cg.refl _).add ((lM j _ _ _ (fun _ => 0) (fun i _ => Cg.refl _) fun i hi => Cg.of_eq ?_).trans (Cg.of_eq ?_))
  ·rw [hop, vX _ _ (by omega)]; split <;> rfl
  ·have := aK8 0 j (fun _ => 0) (fA A y)
   simp only [Int.zero_mul] at this
   exact this
 rw [if_neg e2] at hop
 have ia : 0 ≤ c.fA ∧ c.fA < y := by omega
 have da := hD c.fA.toNat (by omega)
 have fin : ∀ {T e : Int}, Cg T (gZ (fun i => gS (fA A i) (sF (D i)) j) y + e) → Cg (gS (fA A y) (sF (D y)) j) e → Cg (gZ (fun i => gS (fA A i) (sF (D i)) j) y + gS (fA A y) (sF (D y)) j) (T + 0) := fun hB h =>
  ((Cg.refl _).add h).trans (hB.symm.trans (Cg.of_eq (by omega)))
 have one : ∀ s1, bC sz s1 → Cg (gZ (fun i => gS (fA (rV c.fA s1 A) i) (sF (D i)) j) y) (gZ (fun i => gS (fA A i) (sF (D i)) j) y + gS (sF s1) (sF (D c.fA.toNat)) j) := fun s1 z1 => aIM hA z1 (d := fun i => sF (D i)) hj (by omega) (by omega)
 by_cases e7 : c.fM = 7
 ·rw [if_neg (by omega), if_neg (by omega), if_neg (by omega), if_pos e7] at hop
  rw [lL, if_neg (by omega), if_neg (by omega), if_neg (by omega), if_neg (by omega), if_pos e7]
  refine fin (one _ (eQ 1000002 h0)) ?_
  refine (lM j _ _ _ (fun i => -(sF (D c.fA.toNat) i)) (fun i _ => Cg.refl _) fun i hi => by rw [hop]; exact aEP da (by omega)).trans ?_
  refine Cg.trans (Cg.of_eq ?_) (lM j _ (fun i => -(fA A y i)) _ _ (fun i hi => aEP h0 (by omega)) fun i _ => Cg.refl _).symm
  rw [zM j (sF (D c.fA.toNat)), zL j (fA A y)]
 have ib : 0 ≤ c.fB ∧ c.fB < y := by omega
 have db := hD c.fB.toNat (by omega)
 have two : ∀ s1 s2, bC sz s1 → bC sz s2 → Cg (gZ (fun i => gS (fA (rV c.fB s2 (rV c.fA s1 A)) i) (sF (D i)) j) y) (gZ (fun i => gS (fA A i) (sF (D i)) j) y + (gS (sF s1) (sF (D c.fA.toNat)) j + gS (sF s2) (sF (D c.fB.toNat)) j)) := fun s1 s2 z1 z2 =>
  (aIM (hA.put (by omega) z1) z2 (d := fun i => sF (D i)) hj (by omega) (by omega)).trans (((one s1 z1).add (Cg.refl _)).trans (Cg.of_eq (by omega)))
 by_cases e3 : c.fM = 3
 ·rw [if_pos e3] at hop
  rw [lL, if_pos e3]
  refine fin (two _ _ h0 h0) ?_
  refine (lM j _ _ _ (fun i => sF (D c.fA.toNat) i + sF (D c.fB.toNat) i) (fun i _ => Cg.refl _) fun i hi => by rw [hop]; exact aEO da db (by omega)).trans (Cg.of_eq ?_)
  rw [vW j (sF (D c.fA.toNat))]; rfl
 rw [if_neg e3] at hop
 by_cases e4 : c.fM = 4
 ·rw [if_pos e4] at hop
  rw [lL, if_neg e3, if_pos e4]
  refine fin (two _ _ h0 (eQ 1000002 h0)) ?_
  refine (lM j _ _ _ (fun i => sF (D c.fA.toNat) i + -(sF (D c.fB.toNat) i)) (fun i _ => Cg.refl _) fun i hi => by rw [hop]; exact aUA da db (by omega)).trans ?_
  refine Cg.trans (Cg.of_eq ?_) ((Cg.refl (gS (sF (A.getD y [])) (sF (D c.fA.toNat)) j)).add (lM j _ (fun i => -(fA A y i)) _ _ (fun i hi => aEP h0 (by omega)) fun i _ => Cg.refl _).symm)
  rw [vW j (sF (D c.fA.toNat)) (fun i => -(sF (D c.fB.toNat) i)), zM j (sF (D c.fB.toNat)), zL j (fA A y)]; rfl
 rw [if_neg e4] at hop
 have ra := (hrg.get (i := c.fA.toNat) (by omega)).2
 have rb := (hrg.get (i := c.fB.toNat) (by omega)).2
 have ry := (hrg.get (i := y) hy).2
 by_cases e5 : c.fM = 5
 ·rw [if_pos e5] at hop
  rw [lL, if_neg e3, if_neg e4, if_pos e5]
  refine fin (two _ _ (cW _ h0) (cW _ h0)) ?_
  generalize rg.getD c.fA.toNat [] = ra' at *
  generalize rg.getD c.fB.toNat [] = rb' at *
  refine (lM j _ _ _ (fun i => gS (sF (D c.fA.toNat)) (sF rb') i + gS (sF ra') (sF (D c.fB.toNat)) i) (fun i _ => Cg.refl _) fun i hi => by
   rw [hop]
   exact (aEO (cW _ da) (cW _ ra) (by omega)).trans ((xN _ da (by omega)).add (xN _ ra (by omega)))).trans ?_
  refine Cg.trans (Cg.of_eq ?_) ((lM j _ (gS (fA A y) (sF rb')) _ _ (fun i hi => xN _ h0 (by omega)) fun i _ => Cg.refl _).symm.add (lM j _ (gS (fA A y) (sF ra')) _ _ (fun i hi => xN _ h0 (by omega)) fun i _ => Cg.refl _).symm)
  rw [vW j (gS (sF (D c.fA.toNat)) (sF rb')) (gS (sF ra') (sF (D c.fB.toNat))), oG, oG, wM (sF rb')]
 ·have e6 : c.fM = 6 := by omega
  rw [if_neg e5, if_neg e7] at hop
  rw [lL, if_neg e3, if_neg e4, if_neg e5, if_pos e6]
  have hp := mX (rg.getD c.fB.toNat []) h0
  refine fin (two _ _ hp (eQ 1000002 (cW _ hp))) ?_
  generalize rg.getD c.fB.toNat [] = rb' at *
  generalize rg.getD y [] = ry' at *
  have hm := cW (D c.fB.toNat) ry
  refine (lM j _ _ _ (gS (fun i => sF (D c.fA.toNat) i + -(gS (sF ry') (sF (D c.fB.toNat)) i)) (sF (ivL rb' sz))) (fun i _ => Cg.refl _) fun i hi => by
   rw [hop]
   exact (aIK (oD da hm) (i + 1) i (by omega) (by omega)).trans (lM i _ _ _ _ (fun k hk => (aUA da hm (by omega)).trans ((Cg.refl _).add (aNJ (xN _ ry (by omega))))) fun k _ => Cg.refl _)).trans ?_
  refine Cg.trans (Cg.of_eq ?_) ((lM j _ (gS (fA A y) (sF (ivL rb' sz))) _ _ (fun i hi => aIK h0 (i + 1) i (by omega) (by omega)) fun i _ => Cg.refl _).symm.add (lM j _ (fun i => -(gS (gS (fA A y) (sF (ivL rb' sz))) (sF ry') i)) _ _ (fun i hi =>
   (aEP (cW _ hp) (by omega)).trans (aNJ ((xN _ hp (by omega)).trans (lM i _ _ _ _ (fun k hk => aIK h0 (k + 1) k (by omega) (by omega)) fun k _ => Cg.refl _)))) fun i _ => Cg.refl _).symm)
  have e : gS (fun i => sF (D c.fA.toNat) i + -(gS (sF ry') (sF (D c.fB.toNat)) i)) (sF (ivL rb' sz)) = fun i => gS (sF (D c.fA.toNat)) (sF (ivL rb' sz)) i + -(gS (gS (sF ry') (sF (D c.fB.toNat))) (sF (ivL rb' sz)) i) := funext fun i => by
   rw [zK i (sF (D c.fA.toNat)) (fun i => -(gS (sF ry') (sF (D c.fB.toNat)) i)), zL i (gS (sF ry') (sF (D c.fB.toNat)))]
  rw [e, vW j (gS (sF (D c.fA.toNat)) (sF (ivL rb' sz))) (fun i => -(gS (gS (sF ry') (sF (D c.fB.toNat))) (sF (ivL rb' sz)) i)), zM j (gS (gS (sF ry') (sF (D c.fB.toNat))) (sF (ivL rb' sz))), zL j (gS (gS (fA A y) (sF (ivL rb' sz))) (sF ry')), oG j (gS (fA A y) (sF (ivL rb' sz))), oG j (fA A y), oG j (fA A y), wM (sF (ivL rb' sz)) (sF (D c.fA.toNat)), wM (sF (ivL rb' sz)) (gS (sF ry') (sF (D c.fB.toNat)))]
theorem aNK {y k : Nat} {c : aZ} {inp : Int} (hc : bE inp y c) (hy : y ≤ k) (rg A : List (List Int)) : fA (lL c rg y A) k = fA A k := by
 unfold bE at hc
 have hp : ∀ (r : Int) s B, 0 ≤ r ∧ r < y → fA (rV r s B) k = fA B k := fun r s B hr => by
  rw [fA, fA, rV, List.getD_eq_getElem?_getD (l := B.set _ _), List.getElem?_set_ne (by omega), ← List.getD_eq_getElem?_getD]
 unfold lL
 by_cases h3 : c.fM = 3
 ·rw [if_pos h3, hp _ _ _ (by omega), hp _ _ _ (by omega)]
 rw [if_neg h3]
 by_cases h4 : c.fM = 4
 ·rw [if_pos h4, hp _ _ _ (by omega), hp _ _ _ (by omega)]
 rw [if_neg h4]
 by_cases h5 : c.fM = 5
 ·rw [if_pos h5, hp _ _ _ (by omega), hp _ _ _ (by omega)]
 rw [if_neg h5]
 by_cases h6 : c.fM = 6
 ·rw [if_pos h6, hp _ _ _ (by omega), hp _ _ _ (by omega)]
 rw [if_neg h6]
 by_cases h7 : c.fM = 7
 ·rw [if_pos h7, hp _ _ _ (by omega)]
 ·rw [if_neg h7]
theorem aGJ {code : List aZ} {inp : Int} (hins : ∀ i c, code[i]? = some c → bE inp i c) (rg A0 : List (List Int)) : ∀ j k, j ≤ code.length → j ≤ k + 1 → fA (pK code rg A0 (code.length - j) j) k = fA (pK code rg A0 code.length 0) k
 |0, k, _, _ => rfl
 |j + 1, k, hj, hk => by
  rw [← aGJ hins rg A0 j k (by omega) (by omega)]
  have ec : code[j]? = some code[j] := List.getElem?_eq_getElem (by omega)
  rw [show code.length - j = (code.length - (j + 1)) + 1 by omega, pK, wL ec, aNK (hins j _ ec) (by omega)]
def aX2 (code : List aZ) (L : List (List Int)) (D : Nat → List Int) (j k : Nat) : Int := if (code.getD k ⟨0, 0, 0, 0⟩).fM = 1 then gS (fA L k) (sF (D k)) j else 0
theorem aER {sz : Nat} (hsz : 1 ≤ sz ∧ sz ≤ 1048576) {j : Nat} (hj : j < sz) {code : List aZ} {inp : Int} (hins : ∀ i c, code[i]? = some c → bE inp i c) {rg A0 : List (List Int)} (hrg : eS sz code.length rg) (hA0 : eS sz code.length A0) {D : Nat → List Int} (hD : ∀ k, k < code.length → bC sz (D k)) {dirs : List (List Int)}
  (hop : ∀ y c, code[y]? = some c → D y = pL sz dirs D (fun i => rg.getD i []) y c) :
  ∀ m, m ≤ code.length → Cg (gZ (fun i => gS (fA (pK code rg A0 (code.length - m) m) i) (sF (D i)) j) m) (gZ (aX2 code (pK code rg A0 code.length 0) D j) m)
 |0, _ => Cg.refl _
 |y + 1, hy => by
  have ih := aER hsz hj hins hrg hA0 hD hop y (by omega)
  have ec : code[y]? = some code[y] := List.getElem?_eq_getElem (by omega)
  have hA := qN hsz hins hrg hA0 (code.length - (y + 1)) (y + 1) (by omega)
  have hk := aGJ hins rg A0 (y + 1) y hy (Nat.le_refl _)
  have hs : pK code rg A0 (code.length - y) y = lL code[y] rg y (pK code rg A0 (code.length - (y + 1)) (y + 1)) := by
   rw [show code.length - y = (code.length - (y + 1)) + 1 by omega, pK, wL ec]
  rw [hs] at ih
  generalize pK code rg A0 (code.length - (y + 1)) (y + 1) = A at *
  have hst := a3B hj (by omega) (hins y _ ec) hrg hA hD (hop y _ ec)
  rw [gZ, gZ]
  refine hst.trans (ih.add (Cg.of_eq ?_))
  rw [aX2, wL ec, hk]
theorem aLB (f : Nat → Int) (j : Nat) : gS (fun _ => 0) f j = 0 := by
 have := uF 0 j (fun _ => 0) f
 simp only [Int.zero_mul] at this
 exact this
theorem aPZ (n sz k : Nat) : fA (List.replicate n (rU sz)) k = fun _ => 0 := funext fun q => by
 rw [fA, List.getD_eq_getElem?_getD, List.getElem?_replicate]
 split
 ·rw [sF, Option.getD_some, rU, List.getD_eq_getElem?_getD, List.getElem?_replicate]; split <;> rfl
 ·rfl
theorem aES {F : Nat → Int} (h : ∀ i, F i = 0) : ∀ m, gZ F m = 0
 |0 => rfl
 |m + 1 => by rw [gZ, aES h m, h m]; rfl
theorem aP0 {sz j : Nat} (hj : j < sz) {code : List aZ} {inp : Nat} (hins : ∀ i c, code[i]? = some c → bE inp i c) {L : List (List Int)} (hL : eS sz code.length L) {D : Nat → List Int} {Z : List (List Int)} (hd : ∀ k c, code[k]? = some c → c.fM = 1 → D k = Z.getD c.aW.toNat []) : ∀ k, k ≤ code.length → Cg (gZ (fun i => gS (fA (byK code L sz inp k) i) (fA Z i) j) inp) (gZ (aX2 code L D j) k)
 |0, _ => Cg.of_eq (by rw [aES fun i => by rw [byK, aPZ, aLB]]; rfl)
 |k + 1, hk => by
  have ih := aP0 hj hins hL hd k (by omega)
  have ec : code[k]? = some code[k] := List.getElem?_eq_getElem (by omega)
  have hB := zJ hins hL k (by omega)
  have hc := hins k _ ec
  have hd := hd k _ ec
  rw [gZ, aX2, byK, wL ec]
  generalize code[k] = c at *
  by_cases h1 : c.fM = 1
  ·rw [if_pos h1, if_pos h1, hd h1]
   have hn : 0 ≤ c.aW ∧ c.aW < inp := by unfold bE at hc; omega
   have h2 := aIM hB (hL.get (i := k) (by omega)).2 (d := fun i => fA Z i) (r := c.aW) (m := inp) hj (by omega) (Nat.le_refl _)
   exact h2.trans (ih.add (Cg.refl _))
  ·rw [if_neg h1, if_neg h1]
   exact ih.trans (Cg.of_eq (by omega))
theorem aLC {sz j n : Nat} (hj : j < sz) {outs ws : List Int} (ho : ∀ r ∈ outs, 0 ≤ r ∧ r < n) (hwn : dP ws) {d : Nat → Nat → Int} : ∀ k, k ≤ outs.length → Cg (gZ (fun i => gS (fA (qM outs ws (List.replicate n (rU sz)) k) i) (d i) j) n) (gZ (fun k => ws.getD k 0 * d (outs.getD k 0).toNat j) k)
 |0, _ => Cg.of_eq (by rw [aES fun i => by rw [qM, aPZ, aLB]]; rfl)
 |k + 1, hk => by
  have ih := aLC hj ho hwn (d := d) k (by omega)
  have hr := ho (outs.getD k 0) (by rw [List.getD_eq_getElem?_getD, List.getElem?_eq_getElem (by omega)]; exact List.getElem_mem _)
  have hs := vV (sz := sz) (by omega) ho hwn k (by omega)
  rw [qM, gZ]
  generalize qM outs ws (List.replicate n (rU sz)) k = A at *
  generalize outs.getD k 0 = r at *
  have hq := hs.get (i := r.toNat) (by omega)
  have h1 : ∀ q, ¬ q = r.toNat → fA (A.set r.toNat ((A.getD r.toNat []).set 0 (((A.getD r.toNat []).getD 0 0 + ws.getD k 0) % 1000003))) q = fA A q := fun q hq => by
   rw [fA, fA, List.getD_eq_getElem?_getD (l := List.set A _ _), List.getElem?_set_ne (Ne.symm hq), ← List.getD_eq_getElem?_getD]
  have h2 : ∀ q, q ≤ j → Cg (fA (A.set r.toNat ((A.getD r.toNat []).set 0 (((A.getD r.toNat []).getD 0 0 + ws.getD k 0) % 1000003))) r.toNat q) (fA A r.toNat q + ws.getD k 0 * (if q = 0 then 1 else 0)) := fun q hqj => by
   rw [fA, List.getD_eq_getElem?_getD (l := List.set A _ _), List.getElem?_set_self (by rw [hs.1]; omega), Option.getD_some, sF, List.getD_eq_getElem?_getD (l := List.set _ 0 _)]
   by_cases e : q = 0
   ·subst e
    rw [List.getElem?_set_self (by rw [hq.2.1]; omega), if_pos rfl, Int.mul_one]
    exact Cg.mod _
   ·rw [List.getElem?_set_ne (Ne.symm e), if_neg e, ← List.getD_eq_getElem?_getD]
    exact Cg.of_eq (by rw [fA, sF]; omega)
  refine (aIL h1 h2 n (by omega)).trans (ih.add (Cg.of_eq ?_))
  rw [uF (ws.getD k 0) j (fun q => if q = 0 then 1 else 0), wM, aPX]
def aBT (sz : Nat) (row Z : List (List Int)) : Nat → List Int
 |0 => rU sz
 |k + 1 => iC (aBT sz row Z k) (mulL (row.getD k []) (Z.getD k []))
theorem vY {sz n : Nat} {row Z : List (List Int)} (hr : eS sz n row) : ∀ k, k ≤ n → bC sz (aBT sz row Z k)
 |0, _ => xM sz
 |k + 1, h => lP (vY hr k (by omega)) (cW _ (hr.get (i := k) (by omega)).2)
theorem aLD {sz n j : Nat} (hj : j < sz) {row Z : List (List Int)} (hr : eS sz n row) : ∀ k, k ≤ n → Cg (sF (aBT sz row Z k) j) (gZ (fun i => gS (fA row i) (fA Z i) j) k)
 |0, _ => Cg.of_eq (by rw [aBT, sF, rU, List.getD_eq_getElem?_getD, List.getElem?_replicate, if_pos hj]; rfl)
 |k + 1, h => (aEO (vY hr k (by omega)) (cW _ (hr.get (i := k) (by omega)).2) hj).trans ((aLD hj hr k (by omega)).add (xN _ (hr.get (i := k) (by omega)).2 hj))
theorem aLE {n o : Nat} (ho : o < n) (d : Nat → Int) : ∀ m, m ≤ n → gZ (fun k => (vR n o).getD k 0 * d k) m = if o < m then d o else 0
 |0, _ => rfl
 |m + 1, h => by
  rw [gZ, aLE ho d m (by omega)]
  by_cases e : o = m
  ·subst e
   rw [if_neg (Nat.lt_irrefl _), if_pos (Nat.lt_succ_self _), vR, List.getD_eq_getElem?_getD, List.getElem?_set_self (by rw [List.length_replicate]; exact ho)]; simp
  ·rw [aQ6 e]
   by_cases h2 : o < m
   ·rw [if_pos h2, if_pos (by omega)]; omega
   ·rw [if_neg h2, if_neg (by omega)]; omega
theorem aX3 {sz : Nat} {a b : List Int} (ha : bC sz a) (hb : bC sz b) (h : ∀ j, j < sz → Cg (sF a j) (sF b j)) : a = b := by
 apply List.ext_getElem
 ·rw [ha.1, hb.1]
 ·intro i h1 h2
  have := (h i (by rw [← ha.1]; exact h1)).num (ha.2.get i) (hb.2.get i)
  rw [sF, sF, List.getD_eq_getElem?_getD, List.getElem?_eq_getElem h1, List.getD_eq_getElem?_getD, List.getElem?_eq_getElem h2] at this
  exact this
theorem aX4 {sz : Nat} (hsz : 1 ≤ sz ∧ sz ≤ 1048576) {code : List aZ} {inp : Nat} (hins : ∀ i c, code[i]? = some c → bE inp i c) {outs : List Int} (ho : ∀ r ∈ outs, 0 ≤ r ∧ r < code.length) {rg : List (List Int)} (hrg : eS sz code.length rg) {Z : List (List Int)} (hZ : eS sz inp Z) {o : Nat} (hol : o < outs.length) :
  aBT sz (byK code (pK code rg (qM outs (vR outs.length o) (List.replicate code.length (rU sz)) outs.length) code.length 0) sz inp code.length) Z inp = xO sz Z (fun i => rg.getD i []) code (outs.getD o 0).toNat := by
 have hwn := uE outs.length o
 have hA0 := vV (sz := sz) hsz.1 ho hwn outs.length (Nat.le_refl _)
 have hD : ∀ k, k < code.length → bC sz (xO sz Z (fun i => rg.getD i []) code k) := fun k hk => aCE hsz.1 hins hZ.2 (by rw [hZ.1]) (fun k hk => (hrg.get hk).2) (k + 1) k (by omega) hk
 have hr0 := ho (outs.getD o 0) (by rw [List.getD_eq_getElem?_getD, List.getElem?_eq_getElem hol]; exact List.getElem_mem _)
 have hA := qN hsz hins hrg hA0 code.length 0 rfl
 have hB := zJ hins hA code.length (Nat.le_refl _)
 refine aX3 (vY hB inp (Nat.le_refl _)) (hD _ (by omega)) fun j hj => ?_
 have hps := aLC hj ho hwn (d := fun i => sF (xO sz Z (fun i => rg.getD i []) code i)) outs.length (Nat.le_refl _)
 have h1 := aER hsz hj hins hrg hA0 hD (fun y c ec => xP ec (hins y c ec)) code.length (Nat.le_refl _)
 rw [Nat.sub_self, pK] at h1
 generalize qM outs (vR outs.length o) (List.replicate code.length (rU sz)) outs.length = A0 at *
 generalize pK code rg A0 code.length 0 = A at *
 have h2 := aP0 hj hins hA (D := xO sz Z (fun i => rg.getD i []) code) (Z := Z) (fun k c ec h1 => by rw [xP ec (hins k c ec), pL, if_pos h1]) code.length (Nat.le_refl _)
 rw [aLE hol (fun k => sF (xO sz Z (fun i => rg.getD i []) code (outs.getD k 0).toNat) j) _ (Nat.le_refl _), if_pos hol] at hps
 exact (aLD hj hB inp (Nat.le_refl _)).trans (h2.trans (h1.symm.trans hps))
end Go.Hl

/-
  Contracts of functions and laws of the layer over the walk.
-/
import Derived.Test.YtpnelljgohjjdaaGreatVvA
import Derived.Test.YtpnelljgohjjdaaGreatVvI
import Derived.Test.YtpnelljgohjjdaaGreatVvB
namespace Go.Hl
set_option maxRecDepth 100000
open Go.Proofs
set_option linter.unusedVariables false
set_option linter.unusedSimpArgs false
@[go_sem] def aPZ : List Nat := [0, 1, 4, 5, 10, 14, 26]
@[go_sem] def a3V : List Nat := []
@[go_sem] def a3W : Marks := fun id => match id with | 6 => ([], (.op 0 (.op 1 (.op 2 (.op 3 (.op 4 (.op 5 (.op 6 (.op 7 (.op 8 (.op 9 .nil)))))))))), []) | _ => ([], .nil, [])
theorem aSD (a b : List aA) (hc : ∀ x ∈ a, ∀ y, e8 Tryz.prog 152 [(.agg (aA.c x)), (.agg (aA.c y))] (.bool (decide (x = y)))) : e8 Tryz.prog 128 [(c5 5 aA.c a), (c5 5 aA.c b)] (.bool (decide (a = b))) := by
 refine eI 27 aPZ a3V a3W mix Tryz.func128 rfl (by kernel_rfl) (by simp) fun h => ?_
 simp -dsimp -implicitDefEqProofs only [go_sem, Tryz.f128, ↓reduceIte, aPZ, a3V, a3W]
 refine fun _ _ => ⟨fun hne => ?_, fun heq => ?_⟩
 ·exact (decide_eq_false fun e => hne (by rw [e])).symm
 ·refine cS (keep := aPZ) (ib := a3V) (mk := a3W) mix (by kernel_rfl) (fun k : Nat => [(0, (c5 5 aA.c a)), (1, (c5 5 aA.c b)), (5, I k)]) (fun _ => h) (fun k => k ≤ a.length ∧ a.take k = b.take k) (fun k => a.length - k) 0 (by simp [dA, cH, aB.le_refl]) ?_
  intro k ⟨hk, hp⟩
  rcases Nat.lt_or_ge k a.length with hlt | hge
  ·have hlb : k < b.length := by omega
   have ea : a[k]? = some a[k] := List.getElem?_eq_getElem hlt
   have eb : b[k]? = some b[k] := List.getElem?_eq_getElem hlb
   simp -dsimp -implicitDefEqProofs only [go_sem, ↓reduceIte, Tryz.f128, ea, eb, aA.aN]
   refine fun _ => ⟨fun _ => ⟨hlt, hlb, ?_⟩, fun hn => absurd hlt hn⟩
   have hx := hc a[k] (List.getElem_mem hlt) b[k]
   simp only [aA.aN] at hx
   refine aL.mk hx ?_
   by_cases he : a[k] = b[k]
   ·have d := decide_eq_true he
    simp -dsimp -implicitDefEqProofs only [go_sem, ↓reduceIte, Tryz.f128, d]
    exact ⟨k + 1, by rw [IntWalk.i64_in _ (by omega)]; rfl, ⟨by omega, sS hlt hlb hp he⟩, by omega⟩
   ·have d := decide_eq_false he
    simp -dsimp -implicitDefEqProofs only [go_sem, ↓reduceIte, Tryz.f128, d]
    exact (decide_eq_false fun e => he (getElem_of_eq e hlt)).symm
  ·have hk' : k = a.length := by omega
   subst hk'
   simp -dsimp -implicitDefEqProofs only [go_sem, ↓reduceIte, Tryz.f128, Nat.lt_irrefl]
   exact fun _ => (decide_eq_true (p8 heq hp)).symm
@[go_sem] def aXW : List Nat := [0, 1, 2, 3, 4, 9, 14, 19, 24, 30]
@[go_sem] def bA5 : List Nat := [2, 3]
@[go_sem] def bA6 : Marks := fun _ => ([], .nil, [])
theorem aP0 (a b : aA) (hk : e8 Tryz.prog 128 [(c5 5 aA.c a.aM), (c5 5 aA.c b.aM)] (.bool (decide (a.aM = b.aM)))) : e8 Tryz.prog 152 [.agg a.c, .agg b.c] (.bool (decide (a = b))) := by
 simp only [aA.aN]
 refine eI 31 aXW bA5 bA6 mix Tryz.func152 rfl (by kernel_rfl) (by simp) fun h => ?_
 simp -dsimp -implicitDefEqProofs only [go_sem, Tryz.f152, ↓reduceIte, aXW, bA5, bA6]
 refine ⟨fun hn => (decide_eq_false fun e => hn (by rw [e])).symm, fun efKind => ?_⟩
 refine ⟨fun hn => (decide_eq_false fun e => hn (by rw [e])).symm, fun efNum => ?_⟩
 refine ⟨fun hn => (decide_eq_false fun e => hn (by rw [e])).symm, fun efPick => ?_⟩
 refine ⟨fun hn => (decide_eq_false fun e => hn (by rw [e])).symm, fun efCount => ?_⟩
 refine aJ.mk hk ?_
 by_cases efKids : a.aM = b.aM
 case neg =>
  have d := decide_eq_false efKids
  simp -dsimp -implicitDefEqProofs only [go_sem, ↓reduceIte, Tryz.f152, d]
  exact (decide_eq_false fun e => efKids (by rw [e])).symm
 have dfKids := decide_eq_true efKids
 simp -dsimp -implicitDefEqProofs only [go_sem, ↓reduceIte, Tryz.f152, dfKids]
 exact (decide_eq_true (aA.eq_iff.2 ⟨efKind, efNum, efPick, efCount, efKids⟩)).symm
theorem aXX (a b : aA) : e8 Tryz.prog 152 [.agg a.c, .agg b.c] (.bool (decide (a = b))) :=
 aP0 a b (aSD a.aM b.aM fun x hx y => aXX x y)
termination_by SizeOf.sizeOf a
decreasing_by exact aA.rO hx
@[go_sem] def aXY : List Nat := [0, 1, 2, 3, 4, 9, 14, 20]
@[go_sem] def bA7 : List Nat := [2, 3]
@[go_sem] def bA8 : Marks := fun _ => ([], .nil, [])
theorem a8B (a b : aV) : e8 Tryz.prog 110 [.agg a.c, .agg b.c] (.bool (decide (a = b))) := by
 simp only [aV.aN]
 refine eI 21 aXY bA7 bA8 mix Tryz.func110 rfl (by kernel_rfl) (by simp) fun h => ?_
 simp -dsimp -implicitDefEqProofs only [go_sem, Tryz.f110, ↓reduceIte, aXY, bA7, bA8]
 refine ⟨fun hn => (decide_eq_false fun e => hn (by rw [e])).symm, fun efName => ?_⟩
 refine ⟨fun hn => (decide_eq_false fun e => hn (by rw [e])).symm, fun efParams => ?_⟩
 refine aJ.mk (aSD a.aZ b.aZ (fun x _ y => (aXX x y))) ?_
 by_cases efOuts : a.aZ = b.aZ
 case neg =>
  have d := decide_eq_false efOuts
  simp -dsimp -implicitDefEqProofs only [go_sem, ↓reduceIte, Tryz.f110, d]
  exact (decide_eq_false fun e => efOuts (by rw [e])).symm
 have dfOuts := decide_eq_true efOuts
 simp -dsimp -implicitDefEqProofs only [go_sem, ↓reduceIte, Tryz.f110, dfOuts]
 exact (decide_eq_true (aV.eq_iff.2 ⟨efName, efParams, efOuts⟩)).symm
@[go_sem] def aVH : List Nat := [0, 1, 4, 5, 10, 14, 26]
@[go_sem] def bFN : List Nat := []
@[go_sem] def bFO : Marks := fun id => match id with | 6 => ([], (.op 0 (.op 1 (.op 2 (.op 3 (.op 4 (.op 5 (.op 6 (.op 7 (.op 8 (.op 9 .nil)))))))))), []) | _ => ([], .nil, [])
theorem a3X (a b : List aV) (hc : ∀ x ∈ a, ∀ y, e8 Tryz.prog 110 [(.agg (aV.c x)), (.agg (aV.c y))] (.bool (decide (x = y)))) : e8 Tryz.prog 95 [(c5 3 aV.c a), (c5 3 aV.c b)] (.bool (decide (a = b))) := by
 refine eI 27 aVH bFN bFO mix Tryz.func95 rfl (by kernel_rfl) (by simp) fun h => ?_
 simp -dsimp -implicitDefEqProofs only [go_sem, Tryz.f95, ↓reduceIte, aVH, bFN, bFO]
 refine fun _ _ => ⟨fun hne => ?_, fun heq => ?_⟩
 ·exact (decide_eq_false fun e => hne (by rw [e])).symm
 ·refine cS (keep := aVH) (ib := bFN) (mk := bFO) mix (by kernel_rfl) (fun k : Nat => [(0, (c5 3 aV.c a)), (1, (c5 3 aV.c b)), (5, I k)]) (fun _ => h) (fun k => k ≤ a.length ∧ a.take k = b.take k) (fun k => a.length - k) 0 (by simp [dA, cH, aB.le_refl]) ?_
  intro k ⟨hk, hp⟩
  rcases Nat.lt_or_ge k a.length with hlt | hge
  ·have hlb : k < b.length := by omega
   have ea : a[k]? = some a[k] := List.getElem?_eq_getElem hlt
   have eb : b[k]? = some b[k] := List.getElem?_eq_getElem hlb
   simp -dsimp -implicitDefEqProofs only [go_sem, ↓reduceIte, Tryz.f95, ea, eb, aV.aN]
   refine fun _ => ⟨fun _ => ⟨hlt, hlb, ?_⟩, fun hn => absurd hlt hn⟩
   have hx := hc a[k] (List.getElem_mem hlt) b[k]
   simp only [aV.aN] at hx
   refine aL.mk hx ?_
   by_cases he : a[k] = b[k]
   ·have d := decide_eq_true he
    simp -dsimp -implicitDefEqProofs only [go_sem, ↓reduceIte, Tryz.f95, d]
    exact ⟨k + 1, by rw [IntWalk.i64_in _ (by omega)]; rfl, ⟨by omega, sS hlt hlb hp he⟩, by omega⟩
   ·have d := decide_eq_false he
    simp -dsimp -implicitDefEqProofs only [go_sem, ↓reduceIte, Tryz.f95, d]
    exact (decide_eq_false fun e => he (getElem_of_eq e hlt)).symm
  ·have hk' : k = a.length := by omega
   subst hk'
   simp -dsimp -implicitDefEqProofs only [go_sem, ↓reduceIte, Tryz.f95, Nat.lt_irrefl]
   exact fun _ => (decide_eq_true (p8 heq hp)).symm
@[go_sem] def a3Y : List Nat := [0, 1, 2, 3, 4, 10]
@[go_sem] def bNC : List Nat := [2, 3]
@[go_sem] def bND : Marks := fun _ => ([], .nil, [])
theorem aVI (a b : aI) : e8 Tryz.prog 68 [.agg a.c, .agg b.c] (.bool (decide (a = b))) := by
 simp only [aI.aN]
 refine eI 11 a3Y bNC bND mix Tryz.func68 rfl (by kernel_rfl) (by simp) fun h => ?_
 simp -dsimp -implicitDefEqProofs only [go_sem, Tryz.f68, ↓reduceIte, a3Y, bNC, bND]
 refine aJ.mk (a3X a.aH b.aH (fun x _ y => (a8B x y))) ?_
 by_cases efFuncs : a.aH = b.aH
 case neg =>
  have d := decide_eq_false efFuncs
  simp -dsimp -implicitDefEqProofs only [go_sem, ↓reduceIte, Tryz.f68, d]
  exact (decide_eq_false fun e => efFuncs (by rw [e])).symm
 have dfFuncs := decide_eq_true efFuncs
 simp -dsimp -implicitDefEqProofs only [go_sem, ↓reduceIte, Tryz.f68, dfFuncs]
 exact (decide_eq_true (aI.eq_iff.2 efFuncs)).symm
@[go_sem] def aVJ : List Nat := [0, 1, 4, 5, 10, 14, 25]
@[go_sem] def bFP : List Nat := []
@[go_sem] def bFQ : Marks := fun id => match id with | 6 => ([], (.op 0 (.op 1 (.op 2 (.op 3 (.op 4 (.op 5 (.op 6 (.op 7 (.op 8 .nil))))))))), []) | _ => ([], .nil, [])
theorem uL (a b : List Int) : e8 Tryz.prog 10 [(c5 1 (fun n => [I n]) a), (c5 1 (fun n => [I n]) b)] (.bool (decide (a = b))) := by
 refine eI 26 aVJ bFP bFQ mix Tryz.func10 rfl (by kernel_rfl) (by simp) fun h => ?_
 simp -dsimp -implicitDefEqProofs only [go_sem, Tryz.f10, ↓reduceIte, aVJ, bFP, bFQ]
 refine fun _ _ => ⟨fun hne => ?_, fun heq => ?_⟩
 ·exact (decide_eq_false fun e => hne (by rw [e])).symm
 ·refine cS (keep := aVJ) (ib := bFP) (mk := bFQ) mix (by kernel_rfl) (fun k : Nat => [(0, (c5 1 (fun n => [I n]) a)), (1, (c5 1 (fun n => [I n]) b)), (5, I k)]) (fun _ => h) (fun k => k ≤ a.length ∧ a.take k = b.take k) (fun k => a.length - k) 0 (by simp [dA, cH, aB.le_refl]) ?_
  intro k ⟨hk, hp⟩
  rcases Nat.lt_or_ge k a.length with hlt | hge
  ·have hlb : k < b.length := by omega
   have ea : a[k]? = some a[k] := List.getElem?_eq_getElem hlt
   have eb : b[k]? = some b[k] := List.getElem?_eq_getElem hlb
   simp -dsimp -implicitDefEqProofs only [go_sem, ↓reduceIte, Tryz.f10, ea, eb]
   refine fun _ => ⟨fun _ => ⟨hlt, hlb, fun hne => ?_, fun he => ?_⟩, fun hn => absurd hlt hn⟩
   ·first
     |exact (decide_eq_false fun e => hne (getElem_of_eq e hlt)).symm
     |exact (decide_eq_false fun e => by have := getElem_of_eq e hlt (hb := hlb); rw [this] at hne; simp at hne).symm
   ·exact ⟨k + 1, by rw [IntWalk.i64_in _ (by omega)]; rfl, ⟨by omega, sS hlt hlb hp (by first | exact he | simpa using he)⟩, by omega⟩
  ·have hk' : k = a.length := by omega
   subst hk'
   simp -dsimp -implicitDefEqProofs only [go_sem, ↓reduceIte, Tryz.f10, Nat.lt_irrefl]
   exact fun _ => (decide_eq_true (p8 heq hp)).symm
@[go_sem] def aVK : List Nat := [0, 1, 4, 5, 10, 14, 26]
@[go_sem] def bFR : List Nat := []
@[go_sem] def bFS : Marks := fun id => match id with | 6 => ([], (.op 0 (.op 1 (.op 2 (.op 3 (.op 4 (.op 5 (.op 6 (.op 7 (.op 8 (.op 9 .nil)))))))))), []) | _ => ([], .nil, [])
theorem aVL (a b : List (List Int)) (hc : ∀ x ∈ a, ∀ y, e8 Tryz.prog 10 [(c5 1 (fun n => [I n]) x), (c5 1 (fun n => [I n]) y)] (.bool (decide (x = y)))) : e8 Tryz.prog 69 [(c5 1 (fun x => [c5 1 (fun n => [I n]) x]) a), (c5 1 (fun x => [c5 1 (fun n => [I n]) x]) b)] (.bool (decide (a = b))) := by
 refine eI 27 aVK bFR bFS mix Tryz.func69 rfl (by kernel_rfl) (by simp) fun h => ?_
 simp -dsimp -implicitDefEqProofs only [go_sem, Tryz.f69, ↓reduceIte, aVK, bFR, bFS]
 refine fun _ _ => ⟨fun hne => ?_, fun heq => ?_⟩
 ·exact (decide_eq_false fun e => hne (by rw [e])).symm
 ·refine cS (keep := aVK) (ib := bFR) (mk := bFS) mix (by kernel_rfl) (fun k : Nat => [(0, (c5 1 (fun x => [c5 1 (fun n => [I n]) x]) a)), (1, (c5 1 (fun x => [c5 1 (fun n => [I n]) x]) b)), (5, I k)]) (fun _ => h) (fun k => k ≤ a.length ∧ a.take k = b.take k) (fun k => a.length - k) 0 (by simp [dA, cH, aB.le_refl]) ?_
  intro k ⟨hk, hp⟩
  rcases Nat.lt_or_ge k a.length with hlt | hge
  ·have hlb : k < b.length := by omega
   have ea : a[k]? = some a[k] := List.getElem?_eq_getElem hlt
   have eb : b[k]? = some b[k] := List.getElem?_eq_getElem hlb
   simp -dsimp -implicitDefEqProofs only [go_sem, ↓reduceIte, Tryz.f69, ea, eb]
   refine fun _ => ⟨fun _ => ⟨hlt, hlb, ?_⟩, fun hn => absurd hlt hn⟩
   have hx := hc a[k] (List.getElem_mem hlt) b[k]
   refine aL.mk hx ?_
   by_cases he : a[k] = b[k]
   ·have d := decide_eq_true he
    simp -dsimp -implicitDefEqProofs only [go_sem, ↓reduceIte, Tryz.f69, d]
    exact ⟨k + 1, by rw [IntWalk.i64_in _ (by omega)]; rfl, ⟨by omega, sS hlt hlb hp he⟩, by omega⟩
   ·have d := decide_eq_false he
    simp -dsimp -implicitDefEqProofs only [go_sem, ↓reduceIte, Tryz.f69, d]
    exact (decide_eq_false fun e => he (getElem_of_eq e hlt)).symm
  ·have hk' : k = a.length := by omega
   subst hk'
   simp -dsimp -implicitDefEqProofs only [go_sem, ↓reduceIte, Tryz.f69, Nat.lt_irrefl]
   exact fun _ => (decide_eq_true (p8 heq hp)).symm
@[go_sem] def a3Z : List Nat := [0, 1, 2, 3, 4, 10, 15, 20, 26, 32]
@[go_sem] def bNE : List Nat := [2, 3]
@[go_sem] def bNF : Marks := fun _ => ([], .nil, [])
theorem bFT (a b : e7) : e8 Tryz.prog 30 [.agg a.c, .agg b.c] (.bool (decide (a = b))) := by
 simp only [e7.aN]
 refine eI 33 a3Z bNE bNF mix Tryz.func30 rfl (by kernel_rfl) (by simp) fun h => ?_
 simp -dsimp -implicitDefEqProofs only [go_sem, Tryz.f30, ↓reduceIte, a3Z, bNE, bNF]
 refine aJ.mk (aVI a.bN b.bN) ?_
 by_cases efProgram : a.bN = b.bN
 case neg =>
  have d := decide_eq_false efProgram
  simp -dsimp -implicitDefEqProofs only [go_sem, ↓reduceIte, Tryz.f30, d]
  exact (decide_eq_false fun e => efProgram (by rw [e])).symm
 have dfProgram := decide_eq_true efProgram
 simp -dsimp -implicitDefEqProofs only [go_sem, ↓reduceIte, Tryz.f30, dfProgram]
 refine ⟨fun hn => (decide_eq_false fun e => hn (by rw [e])).symm, fun efFunc => ?_⟩
 refine ⟨fun hn => (decide_eq_false fun e => hn (by rw [e])).symm, fun efShared => ?_⟩
 refine aJ.mk (uL a.cX b.cX) ?_
 by_cases efPoint : a.cX = b.cX
 case neg =>
  have d := decide_eq_false efPoint
  simp -dsimp -implicitDefEqProofs only [go_sem, ↓reduceIte, Tryz.f30, d]
  exact (decide_eq_false fun e => efPoint (by rw [e])).symm
 have dfPoint := decide_eq_true efPoint
 simp -dsimp -implicitDefEqProofs only [go_sem, ↓reduceIte, Tryz.f30, dfPoint]
 refine aJ.mk (aVL a.bO b.bO (fun x _ y => (uL x y))) ?_
 by_cases efTerms : a.bO = b.bO
 case neg =>
  have d := decide_eq_false efTerms
  simp -dsimp -implicitDefEqProofs only [go_sem, ↓reduceIte, Tryz.f30, d]
  exact (decide_eq_false fun e => efTerms (by rw [e])).symm
 have dfTerms := decide_eq_true efTerms
 simp -dsimp -implicitDefEqProofs only [go_sem, ↓reduceIte, Tryz.f30, dfTerms]
 exact (decide_eq_true (e7.eq_iff.2 ⟨efProgram, efFunc, efShared, efPoint, efTerms⟩)).symm
@[go_sem] def aVM : List Nat := [0, 1, 4, 5, 10, 14, 25]
@[go_sem] def bFU : List Nat := []
@[go_sem] def bFV : Marks := fun id => match id with | 6 => ([], (.op 0 (.op 1 (.op 2 (.op 3 (.op 4 (.op 5 (.op 6 (.op 7 (.op 8 .nil))))))))), []) | _ => ([], .nil, [])
theorem a30 (a b : List Bool) : e8 Tryz.prog 31 [(c5 1 (fun b => [.bool b]) a), (c5 1 (fun b => [.bool b]) b)] (.bool (decide (a = b))) := by
 refine eI 26 aVM bFU bFV mix Tryz.func31 rfl (by kernel_rfl) (by simp) fun h => ?_
 simp -dsimp -implicitDefEqProofs only [go_sem, Tryz.f31, ↓reduceIte, aVM, bFU, bFV]
 refine fun _ _ => ⟨fun hne => ?_, fun heq => ?_⟩
 ·exact (decide_eq_false fun e => hne (by rw [e])).symm
 ·refine cS (keep := aVM) (ib := bFU) (mk := bFV) mix (by kernel_rfl) (fun k : Nat => [(0, (c5 1 (fun b => [.bool b]) a)), (1, (c5 1 (fun b => [.bool b]) b)), (5, I k)]) (fun _ => h) (fun k => k ≤ a.length ∧ a.take k = b.take k) (fun k => a.length - k) 0 (by simp [dA, cH, aB.le_refl]) ?_
  intro k ⟨hk, hp⟩
  rcases Nat.lt_or_ge k a.length with hlt | hge
  ·have hlb : k < b.length := by omega
   have ea : a[k]? = some a[k] := List.getElem?_eq_getElem hlt
   have eb : b[k]? = some b[k] := List.getElem?_eq_getElem hlb
   simp -dsimp -implicitDefEqProofs only [go_sem, ↓reduceIte, Tryz.f31, ea, eb]
   refine fun _ => ⟨fun _ => ⟨hlt, hlb, fun hne => ?_, fun he => ?_⟩, fun hn => absurd hlt hn⟩
   ·first
     |exact (decide_eq_false fun e => hne (getElem_of_eq e hlt)).symm
     |exact (decide_eq_false fun e => by have := getElem_of_eq e hlt (hb := hlb); rw [this] at hne; simp at hne).symm
   ·exact ⟨k + 1, by rw [IntWalk.i64_in _ (by omega)]; rfl, ⟨by omega, sS hlt hlb hp (by first | exact he | simpa using he)⟩, by omega⟩
  ·have hk' : k = a.length := by omega
   subst hk'
   simp -dsimp -implicitDefEqProofs only [go_sem, ↓reduceIte, Tryz.f31, Nat.lt_irrefl]
   exact fun _ => (decide_eq_true (p8 heq hp)).symm
@[go_sem] def a31 : List Nat := [0, 1, 2, 3, 4, 9, 14, 20]
@[go_sem] def bNG : List Nat := [2, 3]
@[go_sem] def bNH : Marks := fun _ => ([], .nil, [])
theorem a8C (a b : bI) : e8 Tryz.prog 70 [.agg a.c, .agg b.c] (.bool (decide (a = b))) := by
 simp only [bI.aN]
 refine eI 21 a31 bNG bNH mix Tryz.func70 rfl (by kernel_rfl) (by simp) fun h => ?_
 simp -dsimp -implicitDefEqProofs only [go_sem, Tryz.f70, ↓reduceIte, a31, bNG, bNH]
 refine ⟨fun hn => (decide_eq_false fun e => hn (by rw [e])).symm, fun efCode => ?_⟩
 refine ⟨fun hn => (decide_eq_false fun e => hn (by rw [e])).symm, fun efValue => ?_⟩
 refine aJ.mk (uL a.iJ b.iJ) ?_
 by_cases efGrad : a.iJ = b.iJ
 case neg =>
  have d := decide_eq_false efGrad
  simp -dsimp -implicitDefEqProofs only [go_sem, ↓reduceIte, Tryz.f70, d]
  exact (decide_eq_false fun e => efGrad (by rw [e])).symm
 have dfGrad := decide_eq_true efGrad
 simp -dsimp -implicitDefEqProofs only [go_sem, ↓reduceIte, Tryz.f70, dfGrad]
 exact (decide_eq_true (bI.eq_iff.2 ⟨efCode, efValue, efGrad⟩)).symm
@[go_sem] def aVN : List Nat := [0, 1, 4, 5, 10, 14, 26]
@[go_sem] def bFW : List Nat := []
@[go_sem] def bFX : Marks := fun id => match id with | 6 => ([], (.op 0 (.op 1 (.op 2 (.op 3 (.op 4 (.op 5 (.op 6 (.op 7 (.op 8 (.op 9 .nil)))))))))), []) | _ => ([], .nil, [])
theorem a32 (a b : List bI) (hc : ∀ x ∈ a, ∀ y, e8 Tryz.prog 70 [(.agg (bI.c x)), (.agg (bI.c y))] (.bool (decide (x = y)))) : e8 Tryz.prog 32 [(c5 3 bI.c a), (c5 3 bI.c b)] (.bool (decide (a = b))) := by
 refine eI 27 aVN bFW bFX mix Tryz.func32 rfl (by kernel_rfl) (by simp) fun h => ?_
 simp -dsimp -implicitDefEqProofs only [go_sem, Tryz.f32, ↓reduceIte, aVN, bFW, bFX]
 refine fun _ _ => ⟨fun hne => ?_, fun heq => ?_⟩
 ·exact (decide_eq_false fun e => hne (by rw [e])).symm
 ·refine cS (keep := aVN) (ib := bFW) (mk := bFX) mix (by kernel_rfl) (fun k : Nat => [(0, (c5 3 bI.c a)), (1, (c5 3 bI.c b)), (5, I k)]) (fun _ => h) (fun k => k ≤ a.length ∧ a.take k = b.take k) (fun k => a.length - k) 0 (by simp [dA, cH, aB.le_refl]) ?_
  intro k ⟨hk, hp⟩
  rcases Nat.lt_or_ge k a.length with hlt | hge
  ·have hlb : k < b.length := by omega
   have ea : a[k]? = some a[k] := List.getElem?_eq_getElem hlt
   have eb : b[k]? = some b[k] := List.getElem?_eq_getElem hlb
   simp -dsimp -implicitDefEqProofs only [go_sem, ↓reduceIte, Tryz.f32, ea, eb, bI.aN]
   refine fun _ => ⟨fun _ => ⟨hlt, hlb, ?_⟩, fun hn => absurd hlt hn⟩
   have hx := hc a[k] (List.getElem_mem hlt) b[k]
   simp only [bI.aN] at hx
   refine aL.mk hx ?_
   by_cases he : a[k] = b[k]
   ·have d := decide_eq_true he
    simp -dsimp -implicitDefEqProofs only [go_sem, ↓reduceIte, Tryz.f32, d]
    exact ⟨k + 1, by rw [IntWalk.i64_in _ (by omega)]; rfl, ⟨by omega, sS hlt hlb hp he⟩, by omega⟩
   ·have d := decide_eq_false he
    simp -dsimp -implicitDefEqProofs only [go_sem, ↓reduceIte, Tryz.f32, d]
    exact (decide_eq_false fun e => he (getElem_of_eq e hlt)).symm
  ·have hk' : k = a.length := by omega
   subst hk'
   simp -dsimp -implicitDefEqProofs only [go_sem, ↓reduceIte, Tryz.f32, Nat.lt_irrefl]
   exact fun _ => (decide_eq_true (p8 heq hp)).symm
@[go_sem] def bA9 : List Nat := [0, 1, 2, 3, 4, 10, 16, 22, 28, 34]
@[go_sem] def ib9 : List Nat := [2, 3]
@[go_sem] def mk9 : Marks := fun _ => ([], .nil, [])
theorem zD (a b : aR) : e8 Tryz.prog 9 [.agg a.c, .agg b.c] (.bool (decide (a = b))) := by
 simp only [aR.aN]
 refine eI 35 bA9 ib9 mk9 mix Tryz.func9 rfl (by kernel_rfl) (by simp) fun h => ?_
 simp -dsimp -implicitDefEqProofs only [go_sem, Tryz.f9, ↓reduceIte, bA9, ib9, mk9]
 refine aJ.mk (bFT a.bF b.bF) ?_
 by_cases efJob : a.bF = b.bF
 case neg =>
  have d := decide_eq_false efJob
  simp -dsimp -implicitDefEqProofs only [go_sem, ↓reduceIte, Tryz.f9, d]
  exact (decide_eq_false fun e => efJob (by rw [e])).symm
 have dfJob := decide_eq_true efJob
 simp -dsimp -implicitDefEqProofs only [go_sem, ↓reduceIte, Tryz.f9, dfJob]
 refine aJ.mk (uL a.aY b.aY) ?_
 by_cases efStamps : a.aY = b.aY
 case neg =>
  have d := decide_eq_false efStamps
  simp -dsimp -implicitDefEqProofs only [go_sem, ↓reduceIte, Tryz.f9, d]
  exact (decide_eq_false fun e => efStamps (by rw [e])).symm
 have dfStamps := decide_eq_true efStamps
 simp -dsimp -implicitDefEqProofs only [go_sem, ↓reduceIte, Tryz.f9, dfStamps]
 refine aJ.mk (a30 a.cB b.cB) ?_
 by_cases efKnown : a.cB = b.cB
 case neg =>
  have d := decide_eq_false efKnown
  simp -dsimp -implicitDefEqProofs only [go_sem, ↓reduceIte, Tryz.f9, d]
  exact (decide_eq_false fun e => efKnown (by rw [e])).symm
 have dfKnown := decide_eq_true efKnown
 simp -dsimp -implicitDefEqProofs only [go_sem, ↓reduceIte, Tryz.f9, dfKnown]
 refine aJ.mk (a32 a.b7 b.b7 (fun x _ y => (a8C x y))) ?_
 by_cases efParts : a.b7 = b.b7
 case neg =>
  have d := decide_eq_false efParts
  simp -dsimp -implicitDefEqProofs only [go_sem, ↓reduceIte, Tryz.f9, d]
  exact (decide_eq_false fun e => efParts (by rw [e])).symm
 have dfParts := decide_eq_true efParts
 simp -dsimp -implicitDefEqProofs only [go_sem, ↓reduceIte, Tryz.f9, dfParts]
 refine aJ.mk (uL a.b9 b.b9) ?_
 by_cases efOwners : a.b9 = b.b9
 case neg =>
  have d := decide_eq_false efOwners
  simp -dsimp -implicitDefEqProofs only [go_sem, ↓reduceIte, Tryz.f9, d]
  exact (decide_eq_false fun e => efOwners (by rw [e])).symm
 have dfOwners := decide_eq_true efOwners
 simp -dsimp -implicitDefEqProofs only [go_sem, ↓reduceIte, Tryz.f9, dfOwners]
 exact (decide_eq_true (aR.eq_iff.2 ⟨efJob, efStamps, efKnown, efParts, efOwners⟩)).symm
set_option maxRecDepth 100000
open Go.Proofs
set_option linter.unusedVariables false
set_option linter.unusedSimpArgs false
@[go_sem] def bNI : List Nat := [0, 1, 2, 4, 5, 6, 7, 8, 9, 10, 11, 12, 13, 14, 15, 16, 19, 24, 51, 56, 61, 80, 88, 91, 108, 113, 116]
@[go_sem] def ib3 : List Nat := [2]
@[go_sem] def mk3 : Marks := fun id => match id with | 13 => ([0, 2, 3], (.op 1 (.op 0 (.op 2 (.op 3 (.op 4 .nil))))), [(0, 2)]) | _ => ([], .nil, [])
set_option maxHeartbeats 4000000 in
theorem zE (a : aR) (ns : (List Int)) (h : aB) : fO Tryz.prog 3 [.agg a.c, (c5 1 (fun n => [I n]) ns)] h fun r _ => r = .bool true := by
 simp only [aR.aN]
 refine wJ 117 bNI ib3 mk3 mix Tryz.func3 rfl (by kernel_rfl) (by simp) ?_
 simp -dsimp -implicitDefEqProofs only [go_sem, ↓reduceIte, Tryz.f3, Bool.true_or, Bool.or_true, Bool.false_or, Bool.or_false, jO, eq_self, decide_true, Bool.not_true, bne_self_eq_false, aF, a7, OV.aO, OV.aE, OV.aS, aR.aN]
 repeat' (with_reducible first | intro _ | refine And.intro ?_ ?_)
 all_goals try (first | exact ⟨_, aB.le_refl _, rfl⟩ | exact ⟨_, aB.le_refl _⟩)
 all_goals try omega
 have aM3 : ns.length ≤ 1048576 := by omega
 refine aJ.mk (aVG a 1048576 (by omega) (by omega)) ?_
 generalize hL0 : wL 1048576 (aR.s a) = L0
 have zO := pQ hL0
 simp -dsimp -implicitDefEqProofs only [go_sem, ↓reduceIte, Tryz.f3, Bool.true_or, Bool.or_true, Bool.false_or, Bool.or_false, jO, eq_self, decide_true, Bool.not_true, bne_self_eq_false, aF, a7, OV.aO, OV.aE, OV.aS, aR.aN]
 repeat' (with_reducible first | intro _ | refine And.intro ?_ ?_)
 all_goals try (first | exact ⟨_, aB.le_refl _, rfl⟩ | exact ⟨_, aB.le_refl _⟩)
 all_goals try omega
 have hn0 := zO.2 (by omega)
 clear zO hL0
 have aZD : (aR.s a) ≤ 1048576 := by omega
 have hseal := QA.bCM (aHK a ns (by omega) (by omega)) (fun e he => aR.tX he) (aJG [] [I (dG a ns).2])
 first | refine aJ.mk (uY a aZD) ?_ | refine aL.mk (uY a aZD) ?_
 simp -dsimp -implicitDefEqProofs only [go_sem, ↓reduceIte, Tryz.f3, Bool.true_or, Bool.or_true, Bool.false_or, Bool.or_false, jO, eq_self, decide_true, Bool.not_true, bne_self_eq_false, aF, a7, OV.aO, OV.aE, OV.aS, aR.aN]
 repeat' (with_reducible first | intro _ | refine And.intro ?_ ?_)
 all_goals try trivial
 first | refine aJ.mk (nJ ns aM3) ?_ | refine aL.mk (nJ ns aM3) ?_
 simp -dsimp -implicitDefEqProofs only [go_sem, ↓reduceIte, Tryz.f3, Bool.true_or, Bool.or_true, Bool.false_or, Bool.or_false, jO, eq_self, decide_true, Bool.not_true, bne_self_eq_false, aF, a7, OV.aO, OV.aE, OV.aS, aR.aN]
 repeat' (with_reducible first | intro _ | refine And.intro ?_ ?_)
 all_goals try trivial
 first | refine aJ.mk (QA.bCM (zK a ns (by omega) (by omega)) (fun e he => aR.tX he) (aJG [] [I (dG a ns).2])) ?_ | refine aL.mk (QA.bCM (zK a ns (by omega) (by omega)) (fun e he => aR.tX he) (aJG [] [I (dG a ns).2])) ?_
 simp -dsimp -implicitDefEqProofs only [go_sem, ↓reduceIte, Tryz.f3, Bool.true_or, Bool.or_true, Bool.false_or, Bool.or_false, jO, eq_self, decide_true, Bool.not_true, bne_self_eq_false, aF, a7, OV.aO, OV.aE, OV.aS, aR.aN]
 intro nw0 bNJ
 have bFY := bNJ
 clear bNJ
 try simp -dsimp -implicitDefEqProofs only [go_sem, ↓reduceIte, Tryz.f3, Bool.true_or, Bool.or_true, Bool.false_or, Bool.or_false, jO, eq_self, decide_true, Bool.not_true, bne_self_eq_false, aF, a7, OV.aO, OV.aE, OV.aS, aR.aN]
 refine aJ.wn1 (aRG a aZD) bFY ?_
 rintro r l1 g1 ⟨e0_, oe0, rfl, rfl⟩ w1 bFZ
 have oo0 := oe0
 obtain ⟨aFB, aFC, aFD, aFE, aFF, aFG, aFH, rfl, gN, gO, gP, gQ, gR, gS, gT⟩ := oo0
 have bBA : fJ g1 (OV.bZ [aFB, .v (.int .i64 a.bF.b8), .v (.int .i64 a.bF.aX), aFC, aFD, aFE, aFF, aFG, aFH]) := w1.fI
 simp -dsimp -implicitDefEqProofs only [go_sem, ↓reduceIte, Tryz.f3, Bool.true_or, Bool.or_true, Bool.false_or, Bool.or_false, jO, eq_self, decide_true, Bool.not_true, bne_self_eq_false, aF, a7, OV.aO, OV.aE, OV.aS, aR.aN, gN.flat, gN.one, gO.flat, gO.one, gP.flat, gP.one, gQ.flat, gQ.one, gR.flat, gR.one, gS.flat, gS.one, gT.flat, gT.one]
 intro nx0 aSE
 have iQ : nx0 ≠ nw0 := fun e => by
  first
   |exact aSE.1 e
   |(rw [if_pos e] at aSE; cases aSE)
 have hZ : (nx0 = nw0) = False := eq_false iQ
 have iA : (nw0 = nx0) = False := eq_false (fun e => iQ e.symm)
 first
  |(rw [if_neg iQ] at aSE)
  |(replace aSE := aSE.2)
 have bF0 := aSE
 clear aSE
 try simp -dsimp -implicitDefEqProofs only [go_sem, ↓reduceIte, Tryz.f3, Bool.true_or, Bool.or_true, Bool.false_or, Bool.or_false, jO, eq_self, decide_true, Bool.not_true, bne_self_eq_false, aF, a7, OV.aO, OV.aE, OV.aS, aR.aN, hZ, iA, gN.flat, gN.one, gO.flat, gO.one, gP.flat, gP.one, gQ.flat, gQ.one, gR.flat, gR.one, gS.flat, gS.one, gT.flat, gT.one]
 refine aJ.tM (sW ns aM3) bFZ ⟨iQ, bF0⟩ ?_
 rintro r l2 g2 ⟨aBZ, gU, rfl, rfl⟩ w2 aVO aVP
 have a33 : fJ g2 (OV.bZ [aFB, .v (.int .i64 a.bF.b8), .v (.int .i64 a.bF.aX), aFC, aFD, aFE, aFF, aFG, aFH]) := fun p hp => w2.keep (bBA p hp)
 have a34 : fJ g2 aBZ.rows := w2.fI
 simp -dsimp -implicitDefEqProofs only [go_sem, ↓reduceIte, Tryz.f3, Bool.true_or, Bool.or_true, Bool.false_or, Bool.or_false, jO, eq_self, decide_true, Bool.not_true, bne_self_eq_false, aF, a7, OV.aO, OV.aE, OV.aS, aR.aN, hZ, iA, gN.flat, gN.one, gO.flat, gO.one, gP.flat, gP.one, gQ.flat, gQ.one, gR.flat, gR.one, gS.flat, gS.one, gT.flat, gT.one, gU.flat, gU.one]
 refine aJ.wl2 (aHK a ns (by omega) (by omega)) (hH.cons (View.a5L [aFB, .v (.int .i64 a.bF.b8), .v (.int .i64 a.bF.aX), aFC, aFD, aFE, aFF, aFG, aFH] (aR.tX oe0) (fJ.up2 aVO ⟨iQ, aVP⟩ a33)) (hH.cons (View.ovD aBZ (OS.mK (c := (fun n => [I n])) (fun _ _ q => aAG q) gU) (fJ.up2 aVO ⟨iQ, aVP⟩ a34)) hH.nil)) (QA.fN (fun e he => aR.aHA _ e he) (fun x hx => by simp [aD.fN, aD.wK, hx])) aVO ⟨iQ, aVP⟩ ?_
 rintro r l3 g3 ⟨eg_, oeg, rfl, rfl⟩ w3 aK7 aK8
 have oog := oeg
 obtain ⟨aBL, aBM, aBN, aBO, aBP, aBQ, aBR, rfl, nS, nT, nU, nV, nW, nX, nY⟩ := oog
 have a35 : fJ g3 (OV.bZ [aFB, .v (.int .i64 a.bF.b8), .v (.int .i64 a.bF.aX), aFC, aFD, aFE, aFF, aFG, aFH]) := fun p hp => w3.keep (a33 p hp)
 have bBB : fJ g3 aBZ.rows := fun p hp => w3.keep (a34 p hp)
 have bNL : fJ g3 (OV.bZ [aBL, .v (.int .i64 (dG a ns).1.bF.b8), .v (.int .i64 (dG a ns).1.bF.aX), aBM, aBN, aBO, aBP, aBQ, aBR]) := w3.fI
 have bNM : ∀ m ∈ bR (OV.bZ [aFB, .v (.int .i64 a.bF.b8), .v (.int .i64 a.bF.aX), aFC, aFD, aFE, aFF, aFG, aFH]), m ∉ bR (OV.bZ [aBL, .v (.int .i64 (dG a ns).1.bF.b8), .v (.int .i64 (dG a ns).1.bF.aX), aBM, aBN, aBO, aBP, aBQ, aBR]) := fun m hm hq => by
  obtain ⟨x, hx⟩ := dH.1 hm
  have h1 := w3.fresh m hq
  have h2 := a33 (m, x) hx
  rw [h1] at h2; cases h2
 have bNN : ∀ m ∈ bR aBZ.rows, m ∉ bR (OV.bZ [aBL, .v (.int .i64 (dG a ns).1.bF.b8), .v (.int .i64 (dG a ns).1.bF.aX), aBM, aBN, aBO, aBP, aBQ, aBR]) := fun m hm hq => by
  obtain ⟨x, hx⟩ := dH.1 hm
  have h1 := w3.fresh m hq
  have h2 := a34 (m, x) hx
  rw [h1] at h2; cases h2
 have bF1 : ∀ m ∈ bR (OV.bZ [aFB, .v (.int .i64 a.bF.b8), .v (.int .i64 a.bF.aX), aFC, aFD, aFE, aFF, aFG, aFH]), m ∉ bR aBZ.rows := fun m hm hq => by
  obtain ⟨x, hx⟩ := dH.1 hm
  have h1 := w2.fresh m hq
  have h2 := bBA (m, x) hx
  rw [h1] at h2; cases h2
 have nd0 := w1.nodup
 have nd1 := w2.nodup
 have ndg := w3.nodup
 simp -dsimp -implicitDefEqProofs only [go_sem, ↓reduceIte, Tryz.f3, Bool.true_or, Bool.or_true, Bool.false_or, Bool.or_false, jO, eq_self, decide_true, Bool.not_true, bne_self_eq_false, aF, a7, OV.aO, OV.aE, OV.aS, aR.aN, hZ, iA, gN.flat, gN.one, gO.flat, gO.one, gP.flat, gP.one, gQ.flat, gQ.one, gR.flat, gR.one, gS.flat, gS.one, gT.flat, gT.one, gU.flat, gU.one, nS.flat, nS.one, nT.flat, nT.one, nU.flat, nU.one, nV.flat, nV.one, nW.flat, nW.one, nX.flat, nX.one, nY.flat, nY.one]
 intro ng qng
 have m3 : ng ≠ nx0 := fun e => by
  first
   |exact qng.1 e
   |(rw [if_pos e] at qng; cases qng)
 have lH : (ng = nx0) = False := eq_false m3
 have lI : (nx0 = ng) = False := eq_false (fun e => m3 e.symm)
 first
  |(rw [if_neg m3] at qng)
  |(replace qng := qng.2)
 have m4 : ng ≠ nw0 := fun e => by
  first
   |exact qng.1 e
   |(rw [if_pos e] at qng; cases qng)
 have lJ : (ng = nw0) = False := eq_false m4
 have lK : (nw0 = ng) = False := eq_false (fun e => m4 e.symm)
 first
  |(rw [if_neg m4] at qng)
  |(replace qng := qng.2)
 have aSF := qng
 clear qng
 try simp -dsimp -implicitDefEqProofs only [go_sem, ↓reduceIte, Tryz.f3, Bool.true_or, Bool.or_true, Bool.false_or, Bool.or_false, jO, eq_self, decide_true, Bool.not_true, bne_self_eq_false, aF, a7, OV.aO, OV.aE, OV.aS, aR.aN, hZ, iA, lH, lI, lJ, lK, gN.flat, gN.one, gO.flat, gO.one, gP.flat, gP.one, gQ.flat, gQ.one, gR.flat, gR.one, gS.flat, gS.one, gT.flat, gT.one, gU.flat, gU.one, nS.flat, nS.one, nT.flat, nT.one, nU.flat, nU.one, nV.flat, nV.one, nW.flat, nW.one, nX.flat, nX.one, nY.flat, nY.one]
 refine aJ.aG5 (zD (dG a ns).1 (dG a ns).1) (hH.cons (View.a5L [aBL, .v (.int .i64 (dG a ns).1.bF.b8), .v (.int .i64 (dG a ns).1.bF.aX), aBM, aBN, aBO, aBP, aBQ, aBR] (aR.tX oeg) (fJ.up3 aK7 ⟨iQ, aK8⟩ ⟨m3, m4, aSF⟩ bNL)) (hH.cons (by first | exact View.same _ _ | (simp only [aR.aN]; exact View.same _ _)) hH.nil)) rfl ?_
 simp -dsimp -implicitDefEqProofs only [go_sem, ↓reduceIte, Tryz.f3, Bool.true_or, Bool.or_true, Bool.false_or, Bool.or_false, jO, eq_self, decide_true, Bool.not_true, bne_self_eq_false, aF, a7, OV.aO, OV.aE, OV.aS, aR.aN, hZ, iA, lH, lI, lJ, lK, gN.flat, gN.one, gO.flat, gO.one, gP.flat, gP.one, gQ.flat, gQ.one, gR.flat, gR.one, gS.flat, gS.one, gT.flat, gT.one, gU.flat, gU.one, nS.flat, nS.one, nT.flat, nT.one, nU.flat, nU.one, nV.flat, nV.one, nW.flat, nW.one, nX.flat, nX.one, nY.flat, nY.one]
 repeat' (with_reducible first | intro _ | refine And.intro ?_ ?_)
 all_goals try (first | exact ⟨_, aB.le_refl _, rfl⟩ | exact ⟨_, aB.le_refl _⟩)
 all_goals try omega
 refine aJ.mk (uY a aZD) ?_
 simp -dsimp -implicitDefEqProofs only [go_sem, ↓reduceIte, Tryz.f3, Bool.true_or, Bool.or_true, Bool.false_or, Bool.or_false, jO, eq_self, decide_true, Bool.not_true, bne_self_eq_false, aF, a7, OV.aO, OV.aE, OV.aS, aR.aN, hZ, iA, lH, lI, lJ, lK, gN.flat, gN.one, gO.flat, gO.one, gP.flat, gP.one, gQ.flat, gQ.one, gR.flat, gR.one, gS.flat, gS.one, gT.flat, gT.one, gU.flat, gU.one, nS.flat, nS.one, nT.flat, nT.one, nU.flat, nU.one, nV.flat, nV.one, nW.flat, nW.one, nX.flat, nX.one, nY.flat, nY.one]
 repeat' (with_reducible first | intro _ | refine And.intro ?_ ?_)
 all_goals try trivial
 refine aJ.aG5 (zD a a) (hH.cons (View.a5L [aFB, .v (.int .i64 a.bF.b8), .v (.int .i64 a.bF.aX), aFC, aFD, aFE, aFF, aFG, aFH] (aR.tX oe0) (fJ.up3 aK7 ⟨iQ, aK8⟩ ⟨m3, m4, aSF⟩ a35)) (hH.cons (by first | exact View.same _ _ | (simp only [aR.aN]; exact View.same _ _)) hH.nil)) rfl ?_
 simp -dsimp -implicitDefEqProofs only [go_sem, ↓reduceIte, Tryz.f3, Bool.true_or, Bool.or_true, Bool.false_or, Bool.or_false, jO, eq_self, decide_true, Bool.not_true, bne_self_eq_false, aF, a7, OV.aO, OV.aE, OV.aS, aR.aN, hZ, iA, lH, lI, lJ, lK, gN.flat, gN.one, gO.flat, gO.one, gP.flat, gP.one, gQ.flat, gQ.one, gR.flat, gR.one, gS.flat, gS.one, gT.flat, gT.one, gU.flat, gU.one, nS.flat, nS.one, nT.flat, nT.one, nU.flat, nU.one, nV.flat, nV.one, nW.flat, nW.one, nX.flat, nX.one, nY.flat, nY.one]
 repeat' (with_reducible first | intro _ | refine And.intro ?_ ?_)
 all_goals try (first | exact ⟨_, aB.le_refl _, rfl⟩ | exact ⟨_, aB.le_refl _⟩)
 all_goals try omega
 refine aJ.mk (nJ ns aM3) ?_
 simp -dsimp -implicitDefEqProofs only [go_sem, ↓reduceIte, Tryz.f3, Bool.true_or, Bool.or_true, Bool.false_or, Bool.or_false, jO, eq_self, decide_true, Bool.not_true, bne_self_eq_false, aF, a7, OV.aO, OV.aE, OV.aS, aR.aN, hZ, iA, lH, lI, lJ, lK, gN.flat, gN.one, gO.flat, gO.one, gP.flat, gP.one, gQ.flat, gQ.one, gR.flat, gR.one, gS.flat, gS.one, gT.flat, gT.one, gU.flat, gU.one, nS.flat, nS.one, nT.flat, nT.one, nU.flat, nU.one, nV.flat, nV.one, nW.flat, nW.one, nX.flat, nX.one, nY.flat, nY.one]
 repeat' (with_reducible first | intro _ | refine And.intro ?_ ?_)
 all_goals try trivial
 refine aJ.aG5 (uL ns ns) (hH.cons (View.ovD aBZ (OS.mK (c := (fun n => [I n])) (fun _ _ q => aAG q) gU) (fJ.up3 aK7 ⟨iQ, aK8⟩ ⟨m3, m4, aSF⟩ bBB)) (hH.cons (View.same _ _) hH.nil)) rfl ?_
 simp -dsimp -implicitDefEqProofs only [go_sem, ↓reduceIte, Tryz.f3, Bool.true_or, Bool.or_true, Bool.false_or, Bool.or_false, jO, eq_self, decide_true, Bool.not_true, bne_self_eq_false, aF, a7, OV.aO, OV.aE, OV.aS, aR.aN, hZ, iA, lH, lI, lJ, lK, gN.flat, gN.one, gO.flat, gO.one, gP.flat, gP.one, gQ.flat, gQ.one, gR.flat, gR.one, gS.flat, gS.one, gT.flat, gT.one, gU.flat, gU.one, nS.flat, nS.one, nT.flat, nT.one, nU.flat, nU.one, nV.flat, nV.one, nW.flat, nW.one, nX.flat, nX.one, nY.flat, nY.one]
 repeat' (with_reducible first | intro _ | refine And.intro ?_ ?_)
 all_goals try (first | exact ⟨_, aB.le_refl _, rfl⟩ | exact ⟨_, aB.le_refl _⟩)
 all_goals try omega
 have bWW := aR.a89 a _ oe0
 refine aJ.wc3 (aD9 a [aFB, .v (.int .i64 a.bF.b8), .v (.int .i64 a.bF.aX), aFC, aFD, aFE, aFF, aFG, aFH] (1 : Int) _ oe0 (by omega) (by omega) (fJ.up3 aK7 ⟨iQ, aK8⟩ ⟨m3, m4, aSF⟩ a35) nd0) a35 aK7 ⟨iQ, aK8⟩ ⟨m3, m4, aSF⟩ ?_
 rintro g4 cg4 a36 a37 bBC
 obtain ⟨cc0, bSX⟩ : ∃ z : Int, z = (1 : Int) + ((OV.u1 [aFB, .v (.int .i64 a.bF.b8), .v (.int .i64 a.bF.aX), aFC, aFD, aFE, aFF, aFG, aFH] : Nat) : Int) := ⟨_, rfl⟩
 rw [← bSX]
 have bBD : fJ g4 aBZ.rows := fun p hp => by
  have hm : p.1 ∈ bR aBZ.rows := dH.2 ⟨p.2, hp⟩
  rw [cg4.upto p.1 (fun hq => bF1 p.1 hq hm)]
  exact bBB p hp
 have bSY : fJ g4 (OV.bZ [aBL, .v (.int .i64 (dG a ns).1.bF.b8), .v (.int .i64 (dG a ns).1.bF.aX), aBM, aBN, aBO, aBP, aBQ, aBR]) := fun p hp => by
  have hm : p.1 ∈ bR (OV.bZ [aBL, .v (.int .i64 (dG a ns).1.bF.b8), .v (.int .i64 (dG a ns).1.bF.aX), aBM, aBN, aBO, aBP, aBQ, aBR]) := dH.2 ⟨p.2, hp⟩
  rw [cg4.upto p.1 (fun hq => bNM p.1 hq hm)]
  exact bNL p hp
 simp -dsimp -implicitDefEqProofs only [go_sem, ↓reduceIte, Tryz.f3, Bool.true_or, Bool.or_true, Bool.false_or, Bool.or_false, jO, eq_self, decide_true, Bool.not_true, bne_self_eq_false, aF, a7, OV.aO, OV.aE, OV.aS, aR.aN, hZ, iA, lH, lI, lJ, lK, gN.flat, gN.one, gO.flat, gO.one, gP.flat, gP.one, gQ.flat, gQ.one, gR.flat, gR.one, gS.flat, gS.one, gT.flat, gT.one, gU.flat, gU.one, nS.flat, nS.one, nT.flat, nT.one, nU.flat, nU.one, nV.flat, nV.one, nW.flat, nW.one, nX.flat, nX.one, nY.flat, nY.one]
 repeat' (with_reducible first | intro _ | refine And.intro ?_ ?_)
 all_goals try (first | exact ⟨_, aB.le_refl _, rfl⟩ | exact ⟨_, aB.le_refl _⟩)
 all_goals try omega
 have bWX := gU.ctP
 refine aJ.wc3 (rG ns aBZ cc0 _ gU (by omega) (by omega) (fJ.up3 a36 ⟨iQ, a37⟩ ⟨m3, m4, bBC⟩ bBD) nd1) bBD a36 ⟨iQ, a37⟩ ⟨m3, m4, bBC⟩ ?_
 rintro g5 cg5 aVQ aVR a38
 obtain ⟨cc1, bSZ⟩ : ∃ z : Int, z = cc0 + ((aBZ.ct : Nat) : Int) := ⟨_, rfl⟩
 rw [← bSZ]
 have bF2 : fJ g5 (OV.bZ [aBL, .v (.int .i64 (dG a ns).1.bF.b8), .v (.int .i64 (dG a ns).1.bF.aX), aBM, aBN, aBO, aBP, aBQ, aBR]) := fun p hp => by
  have hm : p.1 ∈ bR (OV.bZ [aBL, .v (.int .i64 (dG a ns).1.bF.b8), .v (.int .i64 (dG a ns).1.bF.aX), aBM, aBN, aBO, aBP, aBQ, aBR]) := dH.2 ⟨p.2, hp⟩
  rw [cg5.upto p.1 (fun hq => bNN p.1 hq hm)]
  exact bSY p hp
 simp -dsimp -implicitDefEqProofs only [go_sem, ↓reduceIte, Tryz.f3, Bool.true_or, Bool.or_true, Bool.false_or, Bool.or_false, jO, eq_self, decide_true, Bool.not_true, bne_self_eq_false, aF, a7, OV.aO, OV.aE, OV.aS, aR.aN, hZ, iA, lH, lI, lJ, lK, gN.flat, gN.one, gO.flat, gO.one, gP.flat, gP.one, gQ.flat, gQ.one, gR.flat, gR.one, gS.flat, gS.one, gT.flat, gT.one, gU.flat, gU.one, nS.flat, nS.one, nT.flat, nT.one, nU.flat, nU.one, nV.flat, nV.one, nW.flat, nW.one, nX.flat, nX.one, nY.flat, nY.one]
 repeat' (with_reducible first | intro _ | refine And.intro ?_ ?_)
 all_goals try (first | exact ⟨_, aB.le_refl _, rfl⟩ | exact ⟨_, aB.le_refl _⟩)
 all_goals try omega
 refine aJ.aG5 (zD (dG a ns).1 (dG a ns).1) (hH.cons (View.a5L [aBL, .v (.int .i64 (dG a ns).1.bF.b8), .v (.int .i64 (dG a ns).1.bF.aX), aBM, aBN, aBO, aBP, aBQ, aBR] (aR.tX oeg) (fJ.up3 aVQ ⟨iQ, aVR⟩ ⟨m3, m4, a38⟩ bF2)) (hH.cons (by first | exact View.same _ _ | (simp only [aR.aN]; exact View.same _ _)) hH.nil)) rfl ?_
 simp -dsimp -implicitDefEqProofs only [go_sem, ↓reduceIte, Tryz.f3, Bool.true_or, Bool.or_true, Bool.false_or, Bool.or_false, jO, eq_self, decide_true, Bool.not_true, bne_self_eq_false, aF, a7, OV.aO, OV.aE, OV.aS, aR.aN, hZ, iA, lH, lI, lJ, lK, gN.flat, gN.one, gO.flat, gO.one, gP.flat, gP.one, gQ.flat, gQ.one, gR.flat, gR.one, gS.flat, gS.one, gT.flat, gT.one, gU.flat, gU.one, nS.flat, nS.one, nT.flat, nT.one, nU.flat, nU.one, nV.flat, nV.one, nW.flat, nW.one, nX.flat, nX.one, nY.flat, nY.one]
 repeat' (with_reducible first | intro _ | refine And.intro ?_ ?_)
 all_goals try (first | exact ⟨_, aB.le_refl _, rfl⟩ | exact ⟨_, aB.le_refl _⟩)
 all_goals try omega
 have hctg : OV.u1 [aBL, .v (.int .i64 (dG a ns).1.bF.b8), .v (.int .i64 (dG a ns).1.bF.aX), aBM, aBN, aBO, aBP, aBQ, aBR] ≤ 4000000000000000000 := by have h1 := aR.a89 _ _ oeg; have h2 := aZC a ns; omega
 refine aJ.wc3 (aD9 _ [aBL, .v (.int .i64 (dG a ns).1.bF.b8), .v (.int .i64 (dG a ns).1.bF.aX), aBM, aBN, aBO, aBP, aBQ, aBR] 1 _ oeg (by omega) (by omega) (fJ.up3 aVQ ⟨iQ, aVR⟩ ⟨m3, m4, a38⟩ bF2) ndg) bF2 aVQ ⟨iQ, aVR⟩ ⟨m3, m4, a38⟩ ?_
 rintro g6 cg6 a39 a4A bBE
 obtain ⟨ccg, hccg⟩ : ∃ z : Int, z = 1 + ((OV.u1 [aBL, .v (.int .i64 (dG a ns).1.bF.b8), .v (.int .i64 (dG a ns).1.bF.aX), aBM, aBN, aBO, aBP, aBQ, aBR] : Nat) : Int) := ⟨_, rfl⟩
 rw [← hccg]
 simp -dsimp -implicitDefEqProofs only [go_sem, ↓reduceIte, Tryz.f3, Bool.true_or, Bool.or_true, Bool.false_or, Bool.or_false, jO, eq_self, decide_true, Bool.not_true, bne_self_eq_false, aF, a7, OV.aO, OV.aE, OV.aS, aR.aN, hZ, iA, lH, lI, lJ, lK, gN.flat, gN.one, gO.flat, gO.one, gP.flat, gP.one, gQ.flat, gQ.one, gR.flat, gR.one, gS.flat, gS.one, gT.flat, gT.one, gU.flat, gU.one, nS.flat, nS.one, nT.flat, nT.one, nU.flat, nU.one, nV.flat, nV.one, nW.flat, nW.one, nX.flat, nX.one, nY.flat, nY.one]
 repeat' (with_reducible first | intro _ | refine And.intro ?_ ?_)
 all_goals try (first | exact ⟨_, aB.le_refl _, rfl⟩ | exact ⟨_, aB.le_refl _⟩)
 all_goals try omega
 have hh := aEA _ [aBL, .v (.int .i64 (dG a ns).1.bF.b8), .v (.int .i64 (dG a ns).1.bF.aX), aBM, aBN, aBO, aBP, aBQ, aBR] 1 oeg (by omega) (by omega)
 rw [← hccg] at hh
 refine aJ.aG5 hh (hH.cons (View.bJH 1 [aBL, .v (.int .i64 (dG a ns).1.bF.b8), .v (.int .i64 (dG a ns).1.bF.aX), aBM, aBN, aBO, aBP, aBQ, aBR] (fJ.up3 a39 ⟨iQ, a4A⟩ ⟨m3, m4, bBE⟩ cg6.fI)) (hH.cons (View.same _ _) hH.nil)) rfl ?_
 simp -dsimp -implicitDefEqProofs only [go_sem, ↓reduceIte, Tryz.f3, Bool.true_or, Bool.or_true, Bool.false_or, Bool.or_false, jO, eq_self, decide_true, Bool.not_true, bne_self_eq_false, aF, a7, OV.aO, OV.aE, OV.aS, aR.aN, hZ, iA, lH, lI, lJ, lK, gN.flat, gN.one, gO.flat, gO.one, gP.flat, gP.one, gQ.flat, gQ.one, gR.flat, gR.one, gS.flat, gS.one, gT.flat, gT.one, gU.flat, gU.one, nS.flat, nS.one, nT.flat, nT.one, nU.flat, nU.one, nV.flat, nV.one, nW.flat, nW.one, nX.flat, nX.one, nY.flat, nY.one]
 repeat' (with_reducible first | intro _ | refine And.intro ?_ ?_)
 all_goals try (first | exact ⟨_, aB.le_refl _, rfl⟩ | exact ⟨_, aB.le_refl _⟩)
 all_goals try omega
 first | refine aJ.mk (uY a aZD) ?_ | refine aL.mk (uY a aZD) ?_
 simp -dsimp -implicitDefEqProofs only [go_sem, ↓reduceIte, Tryz.f3, Bool.true_or, Bool.or_true, Bool.false_or, Bool.or_false, jO, eq_self, decide_true, Bool.not_true, bne_self_eq_false, aF, a7, OV.aO, OV.aE, OV.aS, aR.aN, hZ, iA, lH, lI, lJ, lK, gN.flat, gN.one, gO.flat, gO.one, gP.flat, gP.one, gQ.flat, gQ.one, gR.flat, gR.one, gS.flat, gS.one, gT.flat, gT.one, gU.flat, gU.one, nS.flat, nS.one, nT.flat, nT.one, nU.flat, nU.one, nV.flat, nV.one, nW.flat, nW.one, nX.flat, nX.one, nY.flat, nY.one]
 repeat' (with_reducible first | intro _ | refine And.intro ?_ ?_)
 all_goals try trivial
 first | refine aJ.mk (nJ ns aM3) ?_ | refine aL.mk (nJ ns aM3) ?_
 simp -dsimp -implicitDefEqProofs only [go_sem, ↓reduceIte, Tryz.f3, Bool.true_or, Bool.or_true, Bool.false_or, Bool.or_false, jO, eq_self, decide_true, Bool.not_true, bne_self_eq_false, aF, a7, OV.aO, OV.aE, OV.aS, aR.aN, hZ, iA, lH, lI, lJ, lK, gN.flat, gN.one, gO.flat, gO.one, gP.flat, gP.one, gQ.flat, gQ.one, gR.flat, gR.one, gS.flat, gS.one, gT.flat, gT.one, gU.flat, gU.one, nS.flat, nS.one, nT.flat, nT.one, nU.flat, nU.one, nV.flat, nV.one, nW.flat, nW.one, nX.flat, nX.one, nY.flat, nY.one]
 repeat' (with_reducible first | intro _ | refine And.intro ?_ ?_)
 all_goals try trivial
 first | refine aJ.mk (hseal) ?_ | refine aL.mk (hseal) ?_
 simp -dsimp -implicitDefEqProofs only [go_sem, ↓reduceIte, Tryz.f3, Bool.true_or, Bool.or_true, Bool.false_or, Bool.or_false, jO, eq_self, decide_true, Bool.not_true, bne_self_eq_false, aF, a7, OV.aO, OV.aE, OV.aS, aR.aN, hZ, iA, lH, lI, lJ, lK, gN.flat, gN.one, gO.flat, gO.one, gP.flat, gP.one, gQ.flat, gQ.one, gR.flat, gR.one, gS.flat, gS.one, gT.flat, gT.one, gU.flat, gU.one, nS.flat, nS.one, nT.flat, nT.one, nU.flat, nU.one, nV.flat, nV.one, nW.flat, nW.one, nX.flat, nX.one, nY.flat, nY.one]
 intro nh qnh
 have aP1 : nh ≠ ng := fun e => by
  first
   |exact qnh.1 e
   |(rw [if_pos e] at qnh; cases qnh)
 have aVS : (nh = ng) = False := eq_false aP1
 have aVT : (ng = nh) = False := eq_false (fun e => aP1 e.symm)
 first
  |(rw [if_neg aP1] at qnh)
  |(replace qnh := qnh.2)
 have aIA : nh ≠ nx0 := fun e => by
  first
   |exact qnh.1 e
   |(rw [if_pos e] at qnh; cases qnh)
 have aP2 : (nh = nx0) = False := eq_false aIA
 have aP3 : (nx0 = nh) = False := eq_false (fun e => aIA e.symm)
 first
  |(rw [if_neg aIA] at qnh)
  |(replace qnh := qnh.2)
 have aIB : nh ≠ nw0 := fun e => by
  first
   |exact qnh.1 e
   |(rw [if_pos e] at qnh; cases qnh)
 have aP4 : (nh = nw0) = False := eq_false aIB
 have aP5 : (nw0 = nh) = False := eq_false (fun e => aIB e.symm)
 first
  |(rw [if_neg aIB] at qnh)
  |(replace qnh := qnh.2)
 have bNO := qnh
 clear qnh
 try simp -dsimp -implicitDefEqProofs only [go_sem, ↓reduceIte, Tryz.f3, Bool.true_or, Bool.or_true, Bool.false_or, Bool.or_false, jO, eq_self, decide_true, Bool.not_true, bne_self_eq_false, aF, a7, OV.aO, OV.aE, OV.aS, aR.aN, hZ, iA, lH, lI, lJ, lK, aVS, aVT, aP2, aP3, aP4, aP5, gN.flat, gN.one, gO.flat, gO.one, gP.flat, gP.one, gQ.flat, gQ.one, gR.flat, gR.one, gS.flat, gS.one, gT.flat, gT.one, gU.flat, gU.one, nS.flat, nS.one, nT.flat, nT.one, nU.flat, nU.one, nV.flat, nV.one, nW.flat, nW.one, nX.flat, nX.one, nY.flat, nY.one]
 refine aJ.mk (zD (dG a ns).1 (dG a ns).1) ?_
 simp -dsimp -implicitDefEqProofs only [go_sem, ↓reduceIte, Tryz.f3, Bool.true_or, Bool.or_true, Bool.false_or, Bool.or_false, jO, eq_self, decide_true, Bool.not_true, bne_self_eq_false, aF, a7, OV.aO, OV.aE, OV.aS, aR.aN, hZ, iA, lH, lI, lJ, lK, aVS, aVT, aP2, aP3, aP4, aP5, gN.flat, gN.one, gO.flat, gO.one, gP.flat, gP.one, gQ.flat, gQ.one, gR.flat, gR.one, gS.flat, gS.one, gT.flat, gT.one, gU.flat, gU.one, nS.flat, nS.one, nT.flat, nT.one, nU.flat, nU.one, nV.flat, nV.one, nW.flat, nW.one, nX.flat, nX.one, nY.flat, nY.one]
 repeat' (with_reducible first | intro _ | refine And.intro ?_ ?_)
 all_goals try (first | exact ⟨_, aB.le_refl _, rfl⟩ | exact ⟨_, aB.le_refl _⟩)
 all_goals try omega
 have hh := aEA _ [aBL, .v (.int .i64 (dG a ns).1.bF.b8), .v (.int .i64 (dG a ns).1.bF.aX), aBM, aBN, aBO, aBP, aBQ, aBR] 1 oeg (by omega) (by omega)
 rw [← hccg] at hh
 refine aJ.aG5 hh (hH.cons (View.bJH 1 [aBL, .v (.int .i64 (dG a ns).1.bF.b8), .v (.int .i64 (dG a ns).1.bF.aX), aBM, aBN, aBO, aBP, aBQ, aBR] (fJ.up4 a39 ⟨iQ, a4A⟩ ⟨m3, m4, bBE⟩ ⟨aP1, aIA, aIB, bNO⟩ cg6.fI)) (hH.cons (View.same _ _) hH.nil)) rfl ?_
 simp -dsimp -implicitDefEqProofs only [go_sem, ↓reduceIte, Tryz.f3, Bool.true_or, Bool.or_true, Bool.false_or, Bool.or_false, jO, eq_self, decide_true, Bool.not_true, bne_self_eq_false, aF, a7, OV.aO, OV.aE, OV.aS, aR.aN, hZ, iA, lH, lI, lJ, lK, aVS, aVT, aP2, aP3, aP4, aP5, gN.flat, gN.one, gO.flat, gO.one, gP.flat, gP.one, gQ.flat, gQ.one, gR.flat, gR.one, gS.flat, gS.one, gT.flat, gT.one, gU.flat, gU.one, nS.flat, nS.one, nT.flat, nT.one, nU.flat, nU.one, nV.flat, nV.one, nW.flat, nW.one, nX.flat, nX.one, nY.flat, nY.one]
 repeat' (with_reducible first | intro _ | refine And.intro ?_ ?_)
 all_goals try (first | exact ⟨_, aB.le_refl _, rfl⟩ | exact ⟨_, aB.le_refl _⟩)
 all_goals try omega
set_option maxRecDepth 100000
open Go.Proofs
set_option linter.unusedVariables false
set_option linter.unusedSimpArgs false
theorem m5 {P : Program} {n : Nat} {t : TypeId} {xs : List aD} (hu : P.underlying t = some (.int .i64)) (h : rJ P n t xs) : ∃ i : Int, xs = [I i] ∧ InI i := by
 match n, h with
 |0, h => exact h.elim
 |n + 1, h =>
  simp only [rJ, hu] at h
  obtain ⟨i, rfl, hw⟩ := h
  refine ⟨i, rfl, ?_⟩
  have h1 : IntKind.min .i64 = -9223372036854775808 := by decide
  have h2 : IntKind.max .i64 = 9223372036854775807 := by decide
  simp [Lit.wf, IntKind.has, h1, h2] at hw
  unfold InI
  omega
theorem a4B {P : Program} {n : Nat} {t : TypeId} {xs : List aD} (hu : P.underlying t = some .bool) (h : rJ P n t xs) : ∃ b : Bool, xs = [.bool b] ∧ True := by
 match n, h with
 |0, h => exact h.elim
 |n + 1, h =>
  simp only [rJ, hu] at h
  obtain ⟨b, rfl⟩ := h
  exact ⟨b, rfl, trivial⟩
theorem a8F {P : Program} {n : Nat} {t : TypeId} {xs : List aD} (hu : P.underlying t = some .string) (h : rJ P n t xs) : ∃ s : List UInt8, xs = [.str s] ∧ True := by
 match n, h with
 |0, h => exact h.elim
 |n + 1, h =>
  simp only [rJ, hu] at h
  obtain ⟨b, rfl⟩ := h
  exact ⟨b, rfl, trivial⟩
theorem aXZ {α : Type} {c : α → List aD} {w : α → Prop} : ∀ {es : List (List aD)}, (∀ y ∈ es, ∃ x, y = c x ∧ w x) → ∃ l : List α, es = l.map c ∧ ∀ x ∈ l, w x
 | [], _ => ⟨[], rfl, by simp⟩
 |e :: es, h => by
  obtain ⟨x, rfl, hx⟩ := h _ List.mem_cons_self
  obtain ⟨l, rfl, hl⟩ := aXZ fun y hy => h y (List.mem_cons_of_mem _ hy)
  refine ⟨x :: l, rfl, fun y hy => ?_⟩
  rcases List.mem_cons.1 hy with rfl | hy
  ·exact hx
  ·exact hl y hy
theorem k9 {P : Program} {n sz : Nat} {t e : TypeId} {α : Type} {c : α → List aD} {w : α → Prop} {xs : List aD} (hu : P.underlying t = some (.slice e)) (hc : P.cellsOf e = sz) (h : rJ P n t xs)
  (hx : ∀ m y, m < n → rJ P m e y → ∃ x, y = c x ∧ w x) : ∃ l : List α, xs = [c5 sz c l] ∧ ∀ x ∈ l, w x := by
 match n, h with
 |0, h => exact h.elim
 |n + 1, h =>
  simp only [rJ, hu] at h
  obtain ⟨es, rfl, hes⟩ := h
  obtain ⟨l, rfl, hl⟩ := aXZ fun y hy => hx n y (by omega) (hes y hy)
  exact ⟨l, by rw [hc], hl⟩
theorem eX {α : Type} {xs c r : List α} {o n o' : Nat} (h : (xs.drop o).take n = c) (hr : xs.drop o' = r) (ho : o + n = o') : xs.drop o = c ++ r := by
 rw [← hr, ← ho, ← List.drop_drop, ← h, List.take_append_drop]
theorem a8G : Tryz.prog.cellsOf 32 = 9 := by kernel_rfl
theorem qX : Tryz.prog.cellsOf 2 = 1 := by kernel_rfl
theorem aSG : Tryz.prog.cellsOf 140 = 1 := by kernel_rfl
theorem aK9 : Tryz.prog.cellsOf 182 = 5 := by kernel_rfl
theorem bF3 : Tryz.prog.cellsOf 9 = 1 := by kernel_rfl
theorem aSH : Tryz.prog.cellsOf 142 = 3 := by kernel_rfl
theorem a8H : Tryz.prog.cellsOf 22 = 1 := by kernel_rfl
theorem aX0 : Tryz.prog.cellsOf 24 = 1 := by kernel_rfl
theorem aFI : Tryz.prog.cellsOf 25 = 1 := by kernel_rfl
theorem a8I : Tryz.prog.cellsOf 26 = 1 := by kernel_rfl
theorem aX1 : Tryz.prog.cellsOf 28 = 5 := by kernel_rfl
theorem aX2 : Tryz.prog.cellsOf 75 = 3 := by kernel_rfl
theorem a8J : Tryz.prog.cellsOf 29 = 1 := by kernel_rfl
theorem bF4 : Tryz.prog.cellsOf 4 = 1 := by kernel_rfl
theorem a8K : Tryz.prog.cellsOf 30 = 1 := by kernel_rfl
theorem aX3 : ∀ {n : Nat} {xs : List aD}, rJ Tryz.prog n 182 xs → ∃ x : aA, xs = x.c ∧ x.wf
 |0, _, h => h.elim
 |n + 1, xs, h => by
  simp only [rJ, Tryz.underlying182] at h
  obtain ⟨hl, hf⟩ := h
  rw [aK9] at hl
  have f0 : rJ Tryz.prog n 2 ((xs.drop 0).take (Tryz.prog.cellsOf 2)) := hf 0 _ rfl
  rw [qX] at f0
  obtain ⟨x0, e0, w0⟩ := (m5 Tryz.underlying2 f0)
  have f1 : rJ Tryz.prog n 2 ((xs.drop 1).take (Tryz.prog.cellsOf 2)) := hf 1 _ rfl
  rw [qX] at f1
  obtain ⟨x1, e1, w1⟩ := (m5 Tryz.underlying2 f1)
  have f2 : rJ Tryz.prog n 2 ((xs.drop 2).take (Tryz.prog.cellsOf 2)) := hf 2 _ rfl
  rw [qX] at f2
  obtain ⟨x2, e2, w2⟩ := (m5 Tryz.underlying2 f2)
  have f3 : rJ Tryz.prog n 2 ((xs.drop 3).take (Tryz.prog.cellsOf 2)) := hf 3 _ rfl
  rw [qX] at f3
  obtain ⟨x3, e3, w3⟩ := (m5 Tryz.underlying2 f3)
  have f4 : rJ Tryz.prog n 140 ((xs.drop 4).take (Tryz.prog.cellsOf 140)) := hf 4 _ rfl
  rw [aSG] at f4
  obtain ⟨x4, e4, w4⟩ := (k9 (c := aA.c) (w := (fun x => x.wf)) Tryz.underlying140 aK9 f4 (fun m y hm hy => (aX3 hy)))
  have r5 : xs.drop 5 = [] := List.drop_eq_nil_of_le (by omega)
  have r4 := eX e4 r5 rfl
  have r3 := eX e3 r4 rfl
  have r2 := eX e2 r3 rfl
  have r1 := eX e1 r2 rfl
  have r0 := eX e0 r1 rfl
  exact ⟨.mk x0 x1 x2 x3 x4, by rw [aA.aN]; exact r0, .mk _ w0 w1 w2 w3 w4⟩
termination_by n => n
decreasing_by all_goals omega
theorem a8L : ∀ {n : Nat} {xs : List aD}, rJ Tryz.prog n 142 xs → ∃ x : aV, xs = x.c ∧ x.wf
 |0, _, h => h.elim
 |n + 1, xs, h => by
  simp only [rJ, Tryz.underlying142] at h
  obtain ⟨hl, hf⟩ := h
  rw [aSH] at hl
  have f0 : rJ Tryz.prog n 9 ((xs.drop 0).take (Tryz.prog.cellsOf 9)) := hf 0 _ rfl
  rw [bF3] at f0
  obtain ⟨x0, e0, w0⟩ := (a8F Tryz.underlying9 f0)
  have f1 : rJ Tryz.prog n 2 ((xs.drop 1).take (Tryz.prog.cellsOf 2)) := hf 1 _ rfl
  rw [qX] at f1
  obtain ⟨x1, e1, w1⟩ := (m5 Tryz.underlying2 f1)
  have f2 : rJ Tryz.prog n 140 ((xs.drop 2).take (Tryz.prog.cellsOf 140)) := hf 2 _ rfl
  rw [aSG] at f2
  obtain ⟨x2, e2, w2⟩ := (k9 (c := aA.c) (w := (fun x => x.wf)) Tryz.underlying140 aK9 f2 (fun m y hm hy => (aX3 hy)))
  have r3 : xs.drop 3 = [] := List.drop_eq_nil_of_le (by omega)
  have r2 := eX e2 r3 rfl
  have r1 := eX e1 r2 rfl
  have r0 := eX e0 r1 rfl
  exact ⟨⟨x0, x1, x2⟩, r0, ⟨w1, w2⟩⟩
theorem bF5 : ∀ {n : Nat} {xs : List aD}, rJ Tryz.prog n 24 xs → ∃ x : aI, xs = x.c ∧ x.wf
 |0, _, h => h.elim
 |n + 1, xs, h => by
  simp only [rJ, Tryz.underlying24] at h
  obtain ⟨hl, hf⟩ := h
  rw [aX0] at hl
  have f0 : rJ Tryz.prog n 22 ((xs.drop 0).take (Tryz.prog.cellsOf 22)) := hf 0 _ rfl
  rw [a8H] at f0
  obtain ⟨x0, e0, w0⟩ := (k9 (c := aV.c) (w := (fun x => x.wf)) Tryz.underlying22 aSH f0 (fun m y hm hy => (a8L hy)))
  have r1 : xs.drop 1 = [] := List.drop_eq_nil_of_le (by omega)
  have r0 := eX e0 r1 rfl
  exact ⟨⟨x0⟩, r0, w0⟩
theorem bF6 : ∀ {n : Nat} {xs : List aD}, rJ Tryz.prog n 28 xs → ∃ x : e7, xs = x.c ∧ x.wf
 |0, _, h => h.elim
 |n + 1, xs, h => by
  simp only [rJ, Tryz.underlying28] at h
  obtain ⟨hl, hf⟩ := h
  rw [aX1] at hl
  have f0 : rJ Tryz.prog n 24 ((xs.drop 0).take (Tryz.prog.cellsOf 24)) := hf 0 _ rfl
  rw [aX0] at f0
  obtain ⟨x0, e0, w0⟩ := (bF5 f0)
  have f1 : rJ Tryz.prog n 2 ((xs.drop 1).take (Tryz.prog.cellsOf 2)) := hf 1 _ rfl
  rw [qX] at f1
  obtain ⟨x1, e1, w1⟩ := (m5 Tryz.underlying2 f1)
  have f2 : rJ Tryz.prog n 2 ((xs.drop 2).take (Tryz.prog.cellsOf 2)) := hf 2 _ rfl
  rw [qX] at f2
  obtain ⟨x2, e2, w2⟩ := (m5 Tryz.underlying2 f2)
  have f3 : rJ Tryz.prog n 25 ((xs.drop 3).take (Tryz.prog.cellsOf 25)) := hf 3 _ rfl
  rw [aFI] at f3
  obtain ⟨x3, e3, w3⟩ := (k9 (c := (fun n => [I n])) (w := (fun x => InI x)) Tryz.underlying25 qX f3 (fun m y hm hy => (m5 Tryz.underlying2 hy)))
  have f4 : rJ Tryz.prog n 26 ((xs.drop 4).take (Tryz.prog.cellsOf 26)) := hf 4 _ rfl
  rw [a8I] at f4
  obtain ⟨x4, e4, w4⟩ := (k9 (c := (fun x => [c5 1 (fun n => [I n]) x])) (w := (fun x => (∀ y ∈ x, InI y))) Tryz.underlying26 aFI f4 (fun m y hm hy => (k9 (c := (fun n => [I n])) (w := (fun x => InI x)) Tryz.underlying25 qX hy (fun m y hm hy => (m5 Tryz.underlying2 hy)))))
  have r5 : xs.drop 5 = [] := List.drop_eq_nil_of_le (by omega)
  have r4 := eX e4 r5 rfl
  have r3 := eX e3 r4 rfl
  have r2 := eX e2 r3 rfl
  have r1 := eX e1 r2 rfl
  have r0 := eX e0 r1 rfl
  exact ⟨⟨x0, x1, x2, x3, x4⟩, r0, ⟨w0, w1, w2, w3, w4⟩⟩
theorem bF7 : ∀ {n : Nat} {xs : List aD}, rJ Tryz.prog n 75 xs → ∃ x : bI, xs = x.c ∧ x.wf
 |0, _, h => h.elim
 |n + 1, xs, h => by
  simp only [rJ, Tryz.underlying75] at h
  obtain ⟨hl, hf⟩ := h
  rw [aX2] at hl
  have f0 : rJ Tryz.prog n 2 ((xs.drop 0).take (Tryz.prog.cellsOf 2)) := hf 0 _ rfl
  rw [qX] at f0
  obtain ⟨x0, e0, w0⟩ := (m5 Tryz.underlying2 f0)
  have f1 : rJ Tryz.prog n 2 ((xs.drop 1).take (Tryz.prog.cellsOf 2)) := hf 1 _ rfl
  rw [qX] at f1
  obtain ⟨x1, e1, w1⟩ := (m5 Tryz.underlying2 f1)
  have f2 : rJ Tryz.prog n 25 ((xs.drop 2).take (Tryz.prog.cellsOf 25)) := hf 2 _ rfl
  rw [aFI] at f2
  obtain ⟨x2, e2, w2⟩ := (k9 (c := (fun n => [I n])) (w := (fun x => InI x)) Tryz.underlying25 qX f2 (fun m y hm hy => (m5 Tryz.underlying2 hy)))
  have r3 : xs.drop 3 = [] := List.drop_eq_nil_of_le (by omega)
  have r2 := eX e2 r3 rfl
  have r1 := eX e1 r2 rfl
  have r0 := eX e0 r1 rfl
  exact ⟨⟨x0, x1, x2⟩, r0, ⟨w0, w1, w2⟩⟩
theorem bF8 : ∀ {n : Nat} {xs : List aD}, rJ Tryz.prog n 32 xs → ∃ x : aR, xs = x.c ∧ x.wf
 |0, _, h => h.elim
 |n + 1, xs, h => by
  simp only [rJ, Tryz.underlying32] at h
  obtain ⟨hl, hf⟩ := h
  rw [a8G] at hl
  have f0 : rJ Tryz.prog n 28 ((xs.drop 0).take (Tryz.prog.cellsOf 28)) := hf 0 _ rfl
  rw [aX1] at f0
  obtain ⟨x0, e0, w0⟩ := (bF6 f0)
  have f1 : rJ Tryz.prog n 25 ((xs.drop 5).take (Tryz.prog.cellsOf 25)) := hf 1 _ rfl
  rw [aFI] at f1
  obtain ⟨x1, e1, w1⟩ := (k9 (c := (fun n => [I n])) (w := (fun x => InI x)) Tryz.underlying25 qX f1 (fun m y hm hy => (m5 Tryz.underlying2 hy)))
  have f2 : rJ Tryz.prog n 29 ((xs.drop 6).take (Tryz.prog.cellsOf 29)) := hf 2 _ rfl
  rw [a8J] at f2
  obtain ⟨x2, e2, w2⟩ := (k9 (c := (fun b => [.bool b])) (w := (fun _ => True)) Tryz.underlying29 bF4 f2 (fun m y hm hy => (a4B Tryz.underlying4 hy)))
  have f3 : rJ Tryz.prog n 30 ((xs.drop 7).take (Tryz.prog.cellsOf 30)) := hf 3 _ rfl
  rw [a8K] at f3
  obtain ⟨x3, e3, w3⟩ := (k9 (c := bI.c) (w := (fun x => x.wf)) Tryz.underlying30 aX2 f3 (fun m y hm hy => (bF7 hy)))
  have f4 : rJ Tryz.prog n 25 ((xs.drop 8).take (Tryz.prog.cellsOf 25)) := hf 4 _ rfl
  rw [aFI] at f4
  obtain ⟨x4, e4, w4⟩ := (k9 (c := (fun n => [I n])) (w := (fun x => InI x)) Tryz.underlying25 qX f4 (fun m y hm hy => (m5 Tryz.underlying2 hy)))
  have r5 : xs.drop 9 = [] := List.drop_eq_nil_of_le (by omega)
  have r4 := eX e4 r5 rfl
  have r3 := eX e3 r4 rfl
  have r2 := eX e2 r3 rfl
  have r1 := eX e1 r2 rfl
  have r0 := eX e0 r1 rfl
  exact ⟨⟨x0, x1, x2, x3, x4⟩, r0, ⟨w0, w1, w3, w4⟩⟩
def bNP : List TypeId := [2, 4, 9, 22, 24, 25, 26, 28, 29, 30, 32, 75, 140, 142, 182]
theorem a8M : aYG Tryz.prog bNP = true := by kernel_rfl
end Go.Hl

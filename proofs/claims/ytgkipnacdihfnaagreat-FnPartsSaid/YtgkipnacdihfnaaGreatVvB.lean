/-
  Contracts of functions and laws of the layer over the walk.
-/
import Derived.Test.YtgkipnacdihfnaaGreatVvA
import Derived.Test.YtgkipnacdihfnaaGreatHlD
namespace Go.Hl
set_option maxRecDepth 100000
open Go.Proofs
set_option linter.unusedVariables false
set_option linter.unusedSimpArgs false
@[go_sem] def a87 : List Nat := [0, 1, 2, 4, 5, 9]
@[go_sem] def bNN : List Nat := [2]
@[go_sem] def bNO : Marks := fun _ => ([], .nil, [])
theorem aXP (p : aE) (f : Int) (hps : p.s ≤ 4194304) : fL Tryz.prog 36 [.agg p.c, I f] (I (if p.ok then if 0 ≤ f ∧ f ≤ (p.aI.length : Int) - 1 then 0 else 2 else 1)) := by
 have hv := aK8 p hps
 simp only [aE.aU] at hv ⊢
 refine fT 17 a87 bNN bNO mix Tryz.func36 rfl (by kernel_rfl) (by simp) fun h => ?_
 simp -dsimp -implicitDefEqProofs only [go_sem, ↓reduceIte, Tryz.f36]
 first | refine aH.mk (hv) ?_ | refine aF.mk (hv) ?_ | refine aH.bS (hv) ?_ | refine aF.mk (bM.eQ (hv)) ?_
 simp -dsimp -implicitDefEqProofs only [go_sem, ↓reduceIte, Tryz.f36]
 repeat' (with_reducible first | intro _ | refine And.intro ?_ ?_)
 ·rename_i hn
  rw [if_neg hn]
 ·rename_i hn _
  rw [if_pos hn]
  all_goals try simp (disch := omega) only [IntWalk.i64_in]
  first | refine aH.mk (within f 0 (p.aI.length - 1)) ?_ | refine aF.mk (within f 0 (p.aI.length - 1)) ?_ | refine aH.bS (within f 0 (p.aI.length - 1)) ?_ | refine aF.mk (bM.eQ (within f 0 (p.aI.length - 1))) ?_
  simp -dsimp -implicitDefEqProofs only [go_sem, ↓reduceIte, Tryz.f36]
  repeat' (with_reducible first | intro _ | refine And.intro ?_ ?_)
  ·rename_i q
   rw [if_neg q]
  ·rename_i q
   rw [if_pos q]
def eI.okF (j : eI) (f : aT) : Prop := (0 ≤ j.cE ∧ j.cE ≤ f.aW) ∧ ((j.iN.length : Int) = j.cE ∧ eD j.iN) ∧ (j.cB.length : Int) ≤ 10 ∧ ∀ t ∈ j.cB, (t.length : Int) = f.aW - j.cE ∧ eD t
def eI.ok (j : eI) : Prop := j.aZ.ok ∧ (0 ≤ j.cT ∧ j.cT ≤ (j.aZ.aI.length : Int) - 1) ∧ ∀ f, j.aZ.aI[j.cT.toNat]? = some f → j.okF f
noncomputable instance (j : eI) : Decidable j.ok := Classical.propDecidable _
@[go_sem] def aXQ : List Nat := [0, 2, 3, 4, 24, 71, 78, 106]
@[go_sem] def bGB : List Nat := []
@[go_sem] def bGC : Marks := fun id => match id with | 1 => ([], (.op 0 (.op 1 (.op 2 (.op 3 (.op 4 (.op 5 (.op 6 (.op 7 (.op 8 (.op 9 (.op 10 (.op 11 (.op 12 (.op 13 (.op 14 (.op 15 (.op 16 (.op 17 (.op 18 (.op 19 .nil)))))))))))))))))))), []) | 3 => ([], (.op 0 (.op 1 (.op 2 (.op 3 (.op 4 (.op 5 (.op 6 (.op 7 (.op 8 (.op 9 (.op 10 (.op 11 (.op 12 .nil))))))))))))), []) | 4 => ([], (.op 0 (.op 1 (.op 2 (.op 3 (.op 4 (.op 5 (.op 6 (.op 7 (.op 8 (.op 9 (.op 10 (.op 11 (.op 12 (.op 13 (.op 14 (.op 15 (.op 16 (.op 17 (.op 18 (.op 19 (.op 20 (.op 21 (.op 22 (.op 23 (.op 24 (.op 25 (.op 26 (.op 27 (.op 28 (.op 29 (.op 30 (.op 31 (.op 32 (.op 33 (.op 34 .nil))))))))))))))))))))))))))))))))))), []) | 9 => ([], (.op 0 (.op 1 (.op 2 (.op 3 (.op 4 (.op 5 (.op 6 (.op 7 (.op 8 (.op 9 (.op 10 (.op 11 (.op 12 (.op 13 (.op 14 (.op 15 (.op 16 (.op 17 (.op 18 (.op 19 (.op 20 (.op 21 (.op 22 (.op 23 (.op 24 (.op 25 .nil)))))))))))))))))))))))))), []) | _ => ([], .nil, [])
theorem aXR (j : eI) (hps : j.aZ.s ≤ 4194304) : fL Tryz.prog 28 [.ip 5 [j.c] 0 0] (.bool (decide j.ok)) := by
 have hl := j.aZ.aEV
 have e1 : IntKind.i64.wrap ((j.aZ.aI.length : Int) - 1) = j.aZ.aI.length - 1 := IntWalk.i64_in _ (by omega)
 simp only [eI.aU]
 refine fT 107 aXQ bGB bGC mix Tryz.func28 rfl (by kernel_rfl) (by simp) fun h => ?_
 simp -dsimp -implicitDefEqProofs only [go_sem, ↓reduceIte, Tryz.f28, e1]
 first | refine aF.mk ((aXO j.aZ hps).sub (by repeat' (first | exact gE.nil | refine gE.cons ?_ ?_ | exact Sub.refl _ | (rw [aC.aU]; exact Sub.refl _) | exact Sub.fO rfl rfl rfl | exact Sub.ip (cZ (by omega)) (by simp) | exact Sub.fO (cZ (by omega)) rfl rfl | exact Sub.ip (by simp [*]) (by simp) | exact Sub.fO (by simp [*]) (by rfl) (by rfl)))) ?_ | refine aH.mk ((aXO j.aZ hps).sub (by repeat' (first | exact gE.nil | refine gE.cons ?_ ?_ | exact Sub.refl _ | (rw [aC.aU]; exact Sub.refl _) | exact Sub.fO rfl rfl rfl | exact Sub.ip (cZ (by omega)) (by simp) | exact Sub.fO (cZ (by omega)) rfl rfl | exact Sub.ip (by simp [*]) (by simp) | exact Sub.fO (by simp [*]) (by rfl) (by rfl)))) ?_
 simp -dsimp -implicitDefEqProofs only [go_sem, ↓reduceIte, Tryz.f28, e1]
 repeat' (with_reducible first | intro _ | refine And.intro ?_ ?_)
 ·rename_i hp
  first | refine aH.mk (eJ j.cT 0 (j.aZ.aI.length - 1)) ?_ | refine aF.mk (eJ j.cT 0 (j.aZ.aI.length - 1)) ?_ | refine aH.bS (eJ j.cT 0 (j.aZ.aI.length - 1)) ?_ | refine aF.mk (bM.eQ (eJ j.cT 0 (j.aZ.aI.length - 1))) ?_
  simp -dsimp -implicitDefEqProofs only [go_sem, ↓reduceIte, Tryz.f28, e1]
  repeat' (with_reducible first | intro _ | refine And.intro ?_ ?_)
  ·rename_i hr
   exact (decide_eq_false fun z => hr z.2.1).symm
  all_goals try omega
  rename_i hr
  obtain ⟨f, ef⟩ : ∃ f, j.aZ.aI[j.cT.toNat]? = some f := ⟨_, List.getElem?_eq_getElem (by omega)⟩
  have hfo := hp.2 _ f ef
  have hj : j.ok ↔ j.okF f := ⟨fun z => z.2.2 f ef, fun z => ⟨hp, hr, fun g eg => by rw [ef] at eg; obtain rfl := Option.some.inj eg; exact z⟩⟩
  have hp1 := hfo.2.1
  simp -dsimp -implicitDefEqProofs only [go_sem, ↓reduceIte, Tryz.f28, ef, aT.aU]
  first | refine aH.mk (eJ j.cE 0 f.aW) ?_ | refine aF.mk (eJ j.cE 0 f.aW) ?_ | refine aH.bS (eJ j.cE 0 f.aW) ?_ | refine aF.mk (bM.eQ (eJ j.cE 0 f.aW)) ?_
  simp -dsimp -implicitDefEqProofs only [go_sem, ↓reduceIte, Tryz.f28]
  repeat' (with_reducible first | intro _ | refine And.intro ?_ ?_)
  ·rename_i hsh hlen
   first | refine aH.mk (gH j.iN) ?_ | refine aF.mk (gH j.iN) ?_ | refine aH.bS (gH j.iN) ?_ | refine aF.mk (bM.eQ (gH j.iN)) ?_
   simp -dsimp -implicitDefEqProofs only [go_sem, ↓reduceIte, Tryz.f28]
   repeat' (with_reducible first | intro _ | refine And.intro ?_ ?_)
   ·exact (decide_eq_false fun z => by have := (hj.1 z).2.2.1; omega).symm
   ·have e4 : IntKind.i64.wrap (f.aW - j.cE) = f.aW - j.cE := IntWalk.i64_in _ (by omega)
    refine cS (keep := aXQ) (ib := bGB) (mk := bGC) mix (by kernel_rfl) (fun k : Nat => [(0, .ip 5 [j.c] 0 0), (3, I f.aW), (4, I k)]) (fun _ => h) (fun k => k ≤ j.cB.length ∧ ∀ t ∈ j.cB.take k, (t.length : Int) = f.aW - j.cE ∧ eD t) (fun k => j.cB.length - k) 0 (by refine ⟨by simp [cV, bZ, eI.aU], by repeat' (with_reducible first | exact aB.le_refl _ | refine (aY (by first | assumption | exact And.right (by assumption) | exact cP.2 (by assumption))).2 ?_), by simp⟩) ?_
    intro k ⟨hk, hall⟩
    simp only [eI.aU]
    rcases Nat.lt_or_ge k j.cB.length with hlt | hge
    ·have ea : j.cB[k]? = some j.cB[k] := List.getElem?_eq_getElem hlt
     have no (q : ¬ ((j.cB[k].length : Int) = f.aW - j.cE ∧ eD j.cB[k])) : false = decide j.ok := (decide_eq_false fun z => q ((hj.1 z).2.2.2 _ (List.getElem_mem hlt))).symm
     simp -dsimp -implicitDefEqProofs only [go_sem, ↓reduceIte, Tryz.f28, ea, e4]
     repeat' (with_reducible first | intro _ | refine And.intro ?_ ?_)
     all_goals try omega
     ·first | refine aH.mk (gH j.cB[k]) ?_ | refine aF.mk (gH j.cB[k]) ?_ | refine aH.bS (gH j.cB[k]) ?_ | refine aF.mk (bM.eQ (gH j.cB[k])) ?_
      simp -dsimp -implicitDefEqProofs only [go_sem, ↓reduceIte, Tryz.f28]
      repeat' (with_reducible first | intro _ | refine And.intro ?_ ?_)
      ·rename_i q4 q5
       exact no fun z => q5 z.2
      ·rename_i q4 q5
       refine ⟨k + 1, ?_⟩
       repeat' (with_reducible refine And.intro ?_ ?_)
       all_goals try (rw [IntWalk.i64_in _ (by omega)]; first | rfl | omega)
       all_goals try omega
       all_goals try (repeat' (with_reducible first | exact aB.le_refl _ | refine (aY (by first | assumption | exact And.right (by assumption) | exact cP.2 (by assumption))).2 ?_))
       all_goals try (simp only [eI.aU]; done)
       exact oZ (P := fun t : List Int => (t.length : Int) = f.aW - j.cE ∧ eD t) hlt hall ⟨q4, q5⟩
     ·rename_i q4
      exact no fun z => q4 z.1
    ·have hk' : k = j.cB.length := by omega
     subst hk'
     rw [List.take_length] at hall
     simp -dsimp -implicitDefEqProofs only [go_sem, ↓reduceIte, Tryz.f28, Nat.lt_irrefl]
     exact fun _ => (decide_eq_true (hj.2 ⟨hsh, ⟨by assumption, by assumption⟩, by omega, hall⟩)).symm
   ·rename_i q2
    exact (decide_eq_false fun z => q2 (hj.1 z).2.1.2).symm
  ·rename_i q
   exact (decide_eq_false fun z => q (hj.1 z).2.1.1).symm
  ·rename_i q
   exact (decide_eq_false fun z => q (hj.1 z).1).symm
 ·rename_i hp
  exact (decide_eq_false fun z => hp z.1).symm
@[go_sem] def a88 : List Nat := [0, 1, 3]
@[go_sem] def bNP : List Nat := []
@[go_sem] def bNQ : Marks := fun _ => ([], .nil, [])
theorem aVA (l : List Int) (c : Int) (n : Nat) {h0 : aB} (hn : h0 n = some (.row 1 [[.v (I c)]])) : bM Tryz.prog 39 [eZ 1 (fun n => [I n]) l, .op n 1 0 0] (.bool (!decide ((l.length : Int) = c ∧ eD l))) h0 := by
 have hg (h : aB) (hle : h0.le h) := aB.aG4 hle hn
 refine aB0 8 a88 bNP bNQ mix Tryz.func39 rfl (by kernel_rfl) (by simp) fun h hle => ?_
 simp -dsimp -implicitDefEqProofs only [go_sem, ↓reduceIte, Tryz.f39]
 have hn' := hg h hle
 simp -dsimp -implicitDefEqProofs only [go_sem, ↓reduceIte, Tryz.f39, hn']
 first | refine aH.mk (kL l c) ?_ | refine aF.mk (kL l c) ?_ | refine aH.bS (kL l c) ?_ | refine aF.mk (bM.eQ (kL l c)) ?_
 simp -dsimp -implicitDefEqProofs only [go_sem, ↓reduceIte, Tryz.f39]
@[go_sem] def aXS : List Nat := [0, 1, 4, 5, 7, 8, 9, 16]
@[go_sem] def bGD : List Nat := []
@[go_sem] def bGE : Marks := fun _ => ([], .nil, [])
theorem aK9 (a : List (List Int)) (p : (List Int) → Bool) (g : FuncId) (cap : List aD) {h0 : aB} (hc : ∀ x ∈ a, bM Tryz.prog g ([(eZ 1 (fun n => [I n]) x)] ++ cap) (.bool (p x)) h0) : bM Tryz.prog 72 [(eZ 1 (fun x => [eZ 1 (fun n => [I n]) x]) a), .fn (.func g) [] cap] (I (idxOf p a)) h0 := by
 refine aB0 19 aXS bGD bGE mix Tryz.func72 rfl (by kernel_rfl) (by simp) fun h hle => ?_
 simp -dsimp -implicitDefEqProofs only [go_sem, ↓reduceIte, Tryz.f72, Tryz.f72]
 intro _
 refine cS (keep := aXS) (ib := bGD) (mk := bGE) mix (by kernel_rfl) (fun k : Nat => [(0, (eZ 1 (fun x => [eZ 1 (fun n => [I n]) x]) a)), (1, .fn (.func g) [] cap), (7, I a.length), (8, I k)]) (fun _ => h) (fun k => k ≤ a.length ∧ ∀ x ∈ a.take k, p x = false) (fun k => a.length - k) 0 (by simp [cV, bZ, aB.le_refl]) ?_
 intro k ⟨hk, hp⟩
 rcases Nat.lt_or_ge k a.length with hlt | hge
 ·have ea : a[k]? = some a[k] := List.getElem?_eq_getElem hlt
  simp -dsimp -implicitDefEqProofs only [go_sem, ↓reduceIte, Tryz.f72, Tryz.f72, ea]
  repeat' (with_reducible first | intro _ | refine And.intro ?_ ?_)
  all_goals try omega
  have hx := hc a[k] (List.getElem_mem hlt)
  refine aH.bS (hx.mono hle) ?_
  cases hpk : p a[k] with
  |true =>
   simp -dsimp -implicitDefEqProofs only [go_sem, ↓reduceIte, Tryz.f72, Tryz.f72]
   repeat' (with_reducible first | intro _ | refine And.intro ?_ ?_)
   all_goals first | exact (qZ hlt hp hpk).symm | rfl | (rw [qZ hlt hp hpk])
  |false =>
   simp -dsimp -implicitDefEqProofs only [go_sem, ↓reduceIte, Tryz.f72, Tryz.f72]
   refine ⟨k + 1, ?_⟩
   repeat' (with_reducible refine And.intro ?_ ?_)
   all_goals try (rw [IntWalk.i64_in _ (by omega)]; first | rfl | omega)
   all_goals try omega
   exact oZ (P := fun x => p x = false) hlt hp hpk
 ·have hk' : k = a.length := by omega
  subst hk'
  rw [List.take_length] at hp
  simp -dsimp -implicitDefEqProofs only [go_sem, ↓reduceIte, Tryz.f72, Tryz.f72, Nat.lt_irrefl]
  all_goals first | exact (qY hp).symm | rw [qY hp]
@[go_sem] def a89 : List Nat := [0, 1, 4]
@[go_sem] def bNR : List Nat := []
@[go_sem] def bNS : Marks := fun _ => ([], .nil, [])
theorem aLA (a : List (List Int)) (p : (List Int) → Bool) (g : FuncId) (cap : List aD) {h0 : aB} (hc : ∀ x ∈ a, bM Tryz.prog g ([(eZ 1 (fun n => [I n]) x)] ++ cap) (.bool (p x)) h0) : bM Tryz.prog 38 [(eZ 1 (fun x => [eZ 1 (fun n => [I n]) x]) a), .fn (.func g) [] cap] (.bool (a.any p)) h0 := by
 refine aB0 9 a89 bNR bNS mix Tryz.func38 rfl (by kernel_rfl) (by simp) fun h hle => ?_
 simp -dsimp -implicitDefEqProofs only [go_sem, ↓reduceIte, Tryz.f38, Tryz.f38]
 refine aH.bS ((aK9 a p g cap hc).mono hle) ?_
 simp -dsimp -implicitDefEqProofs only [go_sem, ↓reduceIte, Tryz.f38, Tryz.f38]
 all_goals first | done | exact nT | rw [nT]
@[go_sem] def aXT : List Nat := [0, 1, 2, 3, 31]
@[go_sem] def bGF : List Nat := [1]
@[go_sem] def bGG : Marks := fun id => match id with | 1 => ([], (.op 0 (.op 1 (.op 2 (.op 3 (.op 4 (.op 5 (.op 6 (.op 7 (.op 8 (.op 9 (.op 10 (.op 11 (.op 12 (.op 13 (.op 14 (.op 15 (.op 16 (.op 17 (.op 18 (.op 19 (.op 20 (.op 21 (.op 22 (.op 23 (.op 24 (.op 25 (.op 26 (.op 27 .nil)))))))))))))))))))))))))))), []) | 3 => ([11, 12], (.op 0 (.op 1 (.op 2 (.op 3 (.op 4 (.op 5 (.op 6 (.op 7 (.op 8 (.op 9 (.op 10 (.op 11 (.op 12 .nil))))))))))))), []) | _ => ([], .nil, [])
theorem aHK (j : eI) (hps : j.aZ.s ≤ 4194304) : fL Tryz.prog 16 [.agg j.c] (.bool (decide j.ok)) := by
 have hif := aXP j.aZ j.cT hps
 have hl := j.aZ.aEV
 simp only [eI.aU, aE.aU] at hif ⊢
 by_cases hp : j.aZ.ok ∧ (0 ≤ j.cT ∧ j.cT ≤ (j.aZ.aI.length : Int) - 1)
 ·obtain ⟨hp, hr⟩ := hp
  rw [if_pos hp, if_pos hr] at hif
  obtain ⟨f, ef⟩ : ∃ f, j.aZ.aI[j.cT.toNat]? = some f := ⟨_, List.getElem?_eq_getElem (by omega)⟩
  have hfo := hp.2 _ f ef
  have hj : j.ok ↔ j.okF f := ⟨fun z => z.2.2 f ef, fun z => ⟨hp, hr, fun g eg => by rw [ef] at eg; obtain rfl := Option.some.inj eg; exact z⟩⟩
  have hp1 := hfo.2.1
  refine fT 54 aXT bGF bGG mix Tryz.func16 rfl (by kernel_rfl) (by simp) fun h => ?_
  simp -dsimp -implicitDefEqProofs only [go_sem, ↓reduceIte, Tryz.f16]
  first | refine aH.mk (hif) ?_ | refine aF.mk (hif) ?_ | refine aH.bS (hif) ?_ | refine aF.mk (bM.eQ (hif)) ?_
  simp -dsimp -implicitDefEqProofs only [go_sem, ↓reduceIte, Tryz.f16, ef, aT.aU]
  repeat' (with_reducible first | intro _ | refine And.intro ?_ ?_)
  all_goals try omega
  first | refine aH.mk (within j.cE 0 f.aW) ?_ | refine aF.mk (within j.cE 0 f.aW) ?_ | refine aH.bS (within j.cE 0 f.aW) ?_ | refine aF.mk (bM.eQ (within j.cE 0 f.aW)) ?_
  simp -dsimp -implicitDefEqProofs only [go_sem, ↓reduceIte, Tryz.f16, ef, aT.aU]
  repeat' (with_reducible first | intro _ | refine And.intro ?_ ?_)
  ·first | refine aH.mk (kL j.iN j.cE) ?_ | refine aF.mk (kL j.iN j.cE) ?_ | refine aH.bS (kL j.iN j.cE) ?_ | refine aF.mk (bM.eQ (kL j.iN j.cE)) ?_
   simp -dsimp -implicitDefEqProofs only [go_sem, ↓reduceIte, Tryz.f16, ef, aT.aU]
   repeat' (with_reducible first | intro _ | refine And.intro ?_ ?_)
   all_goals try omega
   ·rename_i q
    exact (decide_eq_false fun z => q (hj.1 z).2.1).symm
   ·rename_i n hn q1 q2
    rw [IntWalk.i64_in _ (by omega)]
    refine aH.bS (aLA j.cB (fun t => !decide ((t.length : Int) = f.aW - j.cE ∧ eD t)) 39 [.op n 1 0 0] fun t _ => aVA t (f.aW - j.cE) n (by simp [aM])) ?_
    simp -dsimp -implicitDefEqProofs only [go_sem, ↓reduceIte, Tryz.f16]
    repeat' (with_reducible first | intro _ | refine And.intro ?_ ?_)
    all_goals try (repeat' (with_reducible first | exact aB.le_refl _ | refine (aY (by first | assumption | exact And.right (by assumption) | exact cP.2 (by assumption))).2 ?_))
    rw [aKZ, decide_eq_decide, hj]
    exact ⟨fun q => ⟨by assumption, by assumption, by omega, q⟩, fun q => q.2.2.2⟩
   ·rename_i q
    exact (decide_eq_false fun z => q (by have := (hj.1 z).2.2.1; omega)).symm
   ·all_goals try (repeat' (with_reducible first | exact aB.le_refl _ | refine (aY (by first | assumption | exact And.right (by assumption) | exact cP.2 (by assumption))).2 ?_))
  ·rename_i q
   exact (decide_eq_false fun z => q (hj.1 z).1).symm
 ·have hne : ¬ (if j.aZ.ok then if 0 ≤ j.cT ∧ j.cT ≤ (j.aZ.aI.length : Int) - 1 then 0 else 2 else 1 : Int) = 0 := by
   intro q
   split at q
   ·split at q
    ·rename_i a b
     exact hp ⟨a, b⟩
    ·cases q
   ·cases q
  refine fT 54 aXT bGF bGG mix Tryz.func16 rfl (by kernel_rfl) (by simp) fun h => ?_
  simp -dsimp -implicitDefEqProofs only [go_sem, ↓reduceIte, Tryz.f16]
  first | refine aH.mk (hif) ?_ | refine aF.mk (hif) ?_ | refine aH.bS (hif) ?_ | refine aF.mk (bM.eQ (hif)) ?_
  simp -dsimp -implicitDefEqProofs only [go_sem, ↓reduceIte, Tryz.f16]
  repeat' (with_reducible first | intro _ | refine And.intro ?_ ?_)
  all_goals try (exact absurd (by assumption) hne)
  exact (decide_eq_false fun z => hp ⟨z.1, z.2.1⟩).symm
open Go.Proofs
set_option linter.unusedVariables false
set_option linter.unusedSimpArgs false
open Go.Proofs
set_option linter.unusedVariables false
set_option linter.unusedSimpArgs false
open Go.Proofs
set_option linter.unusedVariables false
set_option linter.unusedSimpArgs false
open Go.Proofs
set_option linter.unusedVariables false
set_option linter.unusedSimpArgs false
mutual
def aC.o : aC → List OV → Prop
 | .mk aP bC cR cD aN, e => ∃ y, e = [.v (.int .i64 aP), .v (.int .i64 bC), .v (.int .i64 cR), .v (.int .i64 cD), y] ∧ ((y = .nil 5 ∧ aN = []) ∨ ∃ n es, y = .sl n 5 es ∧ aC.oR aN es)
def aC.oR : List aC → List (List OV) → Prop
 | [], [] => True
 |x :: l, e :: es => x.o e ∧ aC.oR l es
 | _, _ => False
end
theorem aC.a6J : ∀ (l : List aC) (es : List (List OV)), aC.oR l es = OR aC.o l es
 | [], [] => rfl
 |x :: l, e :: es => by rw [aC.oR, OR, aC.a6J l es]
 | [], _ :: _ => rfl
 | _ :: _, [] => rfl
theorem aC.sH (x : aC) (e : List OV) : x.o e ↔ ∃ y4, e = [.v (.int .i64 x.aP), .v (.int .i64 x.bC), .v (.int .i64 x.cR), .v (.int .i64 x.cD), y4] ∧ OS aC.o 5 x.aN y4 := by
 cases x
 simp only [aC.o, aC.a6J, OS]
 rfl
mutual
theorem aC.aCB : ∀ {x : aC} {e : List OV}, x.o e → e.map OV.qW = x.c
 | .mk aP bC cR cD aN, e, h => by
  rw [aC.sH] at h
  obtain ⟨y, rfl, h⟩ := h
  have hk : y.qW = .sl 5 (aN.map aC.c) false := by
   rcases h with ⟨rfl, h0⟩ | ⟨n, es, rfl, h⟩
   ·have h1 : aN = [] := h0
    subst h1; rfl
   ·simp only [OV.qW]
    rw [aC.aXU h]
    rfl
  rw [aC.aU]
  simp only [List.map_cons, List.map_nil, OV.qW, hk]
  rfl
theorem aC.aXU : ∀ {l : List aC} {es : List (List OV)}, OR aC.o l es → OV.k7 es = l.map aC.c
 | [], [], _ => rfl
 |x :: l, e :: es, h => by rw [OV.k7, aC.aXU h.2, OV.wY, aC.aCB h.1]; rfl
 | [], _ :: _, h => h.elim
 | _ :: _, [], h => h.elim
end
def aT.o (x : aT) (e : List OV) : Prop := ∃ y2, e = [.v (.str x.kE), .v (.int .i64 x.aW), y2] ∧ OS aC.o 5 x.aQ y2
theorem aT.aCB {x : aT} {e : List OV} (h : x.o e) : e.map OV.qW = x.c := by
 obtain ⟨y2, rfl, o2⟩ := h
 have d2 := OS.qW (c := aC.c) (fun _ _ q => aC.aCB q) o2
 rw [aT.aU]
 simp only [List.map_cons, List.map_nil, OV.qW, d2]
def e8.o (x : e8) (e : List OV) : Prop := ∃ y2, e = [.v (.int .i64 x.aS), .v (.int .i64 x.kK), y2] ∧ OS (oP I) 1 x.iO y2
theorem e8.aCB {x : e8} {e : List OV} (h : x.o e) : e.map OV.qW = x.c := by
 obtain ⟨y2, rfl, o2⟩ := h
 have d2 := OS.qW (c := (fun n => [I n])) (fun _ _ q => yW q) o2
 rw [e8.aU]
 simp only [List.map_cons, List.map_nil, OV.qW, d2]
open Go.Proofs
set_option linter.unusedVariables false
set_option linter.unusedSimpArgs false
set_option maxRecDepth 100000
open Go.Proofs
set_option linter.unusedVariables false
set_option linter.unusedSimpArgs false
@[go_sem] def a9A : List Nat := [0, 2, 4]
@[go_sem] def bNT : List Nat := [5]
@[go_sem] def bNU : Marks := fun _ => ([], .nil, [])
theorem aXV (l : List Int) (hl : l.length ≤ 1048576) : x9 Tryz.prog 67 [eZ 1 (fun n => [I n]) l] (QS (OS (oP I) 1 l)) := by
 refine yA 8 a9A bNT bNU mix Tryz.func67 rfl (by kernel_rfl) (by simp) fun h => ?_
 simp -dsimp -implicitDefEqProofs only [go_sem, ↓reduceIte, Tryz.f67]
 repeat' (with_reducible first | intro _ | refine And.intro ?_ ?_)
 all_goals try (first | exact aSK (by assumption) | exact aSL (by assumption) | exact w6 (by assumption) | omega)
@[go_sem] def a9B : List Nat := [0, 2]
@[go_sem] def bNV : List Nat := [3]
@[go_sem] def bNW : Marks := fun _ => ([], .nil, [])
theorem aQ0 (l : List Int) (hl : l.length ≤ 1048576) : x9 Tryz.prog 51 [eZ 1 (fun n => [I n]) l] (QS (OS (oP I) 1 l)) := by
 refine yA 6 a9B bNV bNW mix Tryz.func51 rfl (by kernel_rfl) (by simp) fun h => ?_
 simp -dsimp -implicitDefEqProofs only [go_sem, ↓reduceIte, Tryz.f51]
 repeat' (with_reducible first | intro _ | refine And.intro ?_ ?_)
 all_goals try (first | exact aSK (by assumption) | exact aSL (by assumption) | exact w6 (by assumption) | omega)
open Go.Proofs
set_option linter.unusedVariables false
set_option linter.unusedSimpArgs false
open Go.Proofs
set_option linter.unusedVariables false
set_option linter.unusedSimpArgs false
open Go.Proofs
set_option linter.unusedVariables false
set_option linter.unusedSimpArgs false
set_option maxRecDepth 100000
open Go.Proofs
set_option linter.unusedVariables false
set_option linter.unusedSimpArgs false
theorem a6K (n : Int) : n.tmod 1000003 = n % 1000003 ∨ n.tmod 1000003 = n % 1000003 - 1000003 := by
 by_cases h : 0 ≤ n
 ·exact .inl (Int.tmod_eq_emod_of_nonneg h)
 ·have h1 : n.tmod 1000003 = -((-n) % 1000003) := by
   have h2 : n = -(-n) := by omega
   rw [h2, Int.neg_tmod, Int.tmod_eq_emod_of_nonneg (by omega), Int.neg_neg]
  rw [h1]; omega
@[go_sem] def a9C : List Nat := [0, 2]
@[go_sem] def bNX : List Nat := []
@[go_sem] def bNY : Marks := fun _ => ([], .nil, [])
theorem h8 (n : Int) : fL Tryz.prog 95 [I n] (I (n % 1000003)) := by
 refine fT 7 a9C bNX bNY mix Tryz.func95 rfl (by kernel_rfl) (by simp) fun h => ?_
 simp -dsimp -implicitDefEqProofs only [go_sem, ↓reduceIte, Tryz.f95]
 rcases a6K n with h | h
 all_goals
  rw [h, IntWalk.i64_in _ (by omega), Int.tmod_eq_emod_of_nonneg (by omega)]
  omega
@[go_sem] def a9D : List Nat := [0, 2, 3, 7]
@[go_sem] def bNZ : List Nat := []
@[go_sem] def bN0 : Marks := fun _ => ([], .nil, [])
theorem dF (n : Int) : fL Tryz.prog 45 [I n] (I (n % 1000003)) := by
 refine fT 11 a9D bNZ bN0 mix Tryz.func45 rfl (by kernel_rfl) (by simp) fun h => ?_
 simp -dsimp -implicitDefEqProofs only [go_sem, ↓reduceIte, Tryz.f45]
 rcases a6K n with h | h
 all_goals
  rw [h]
  refine ⟨fun q => ?_, fun q => ?_⟩
  all_goals first | omega | (rw [IntWalk.i64_in _ (by omega)]; omega)
@[go_sem] def a9E : List Nat := [0, 1, 4]
@[go_sem] def bN1 : List Nat := []
@[go_sem] def bN2 : Marks := fun _ => ([], .nil, [])
theorem aDY (a b : Int) : fL Tryz.prog 68 [I a, I b] (I ((a + b) % 1000003)) := by
 refine fT 11 a9E bN1 bN2 mix Tryz.func68 rfl (by kernel_rfl) (by simp) fun h => ?_
 simp -dsimp -implicitDefEqProofs only [go_sem, ↓reduceIte, Tryz.f68]
 first | refine aH.mk (h8 a) ?_ | refine aF.mk (h8 a) ?_ | refine aH.bS (h8 a) ?_ | refine aF.mk (bM.eQ (h8 a)) ?_
 simp -dsimp -implicitDefEqProofs only [go_sem, ↓reduceIte, Tryz.f68]
 first | refine aH.mk (h8 b) ?_ | refine aF.mk (h8 b) ?_ | refine aH.bS (h8 b) ?_ | refine aF.mk (bM.eQ (h8 b)) ?_
 simp -dsimp -implicitDefEqProofs only [go_sem, ↓reduceIte, Tryz.f68]
 rw [IntWalk.i64_in _ (by omega), Int.tmod_eq_emod_of_nonneg (by omega)]
 omega
@[go_sem] def a9F : List Nat := [0, 1, 4]
@[go_sem] def bN3 : List Nat := []
@[go_sem] def bN4 : Marks := fun _ => ([], .nil, [])
theorem eC (a b : Int) : fL Tryz.prog 20 [I a, I b] (I ((a + b) % 1000003)) := by
 refine fT 11 a9F bN3 bN4 mix Tryz.func20 rfl (by kernel_rfl) (by simp) fun h => ?_
 simp -dsimp -implicitDefEqProofs only [go_sem, ↓reduceIte, Tryz.f20]
 first | refine aH.mk (dF a) ?_ | refine aF.mk (dF a) ?_ | refine aH.bS (dF a) ?_ | refine aF.mk (bM.eQ (dF a)) ?_
 simp -dsimp -implicitDefEqProofs only [go_sem, ↓reduceIte, Tryz.f20]
 first | refine aH.mk (dF b) ?_ | refine aF.mk (dF b) ?_ | refine aH.bS (dF b) ?_ | refine aF.mk (bM.eQ (dF b)) ?_
 simp -dsimp -implicitDefEqProofs only [go_sem, ↓reduceIte, Tryz.f20]
 rw [IntWalk.i64_in _ (by omega), Int.tmod_eq_emod_of_nonneg (by omega)]
 omega
def j5 (a b : List Int) : List Int := List.zipWith (fun x y => (x + y) % 1000003) a b
def sP : List e8 → Int → List Int → Int × List Int × Int
 | [], v, g => (v, g, 0)
 |p :: ps, v, g => if p.aS = 0 then sP ps ((v + p.kK) % 1000003) (j5 g p.iO) else (0, [], p.aS)
def aLB (sh : Int) (l : List e8) : Prop := ∀ p ∈ l, p.aS = 0 → (p.iO.length : Int) = sh ∧ ∀ x ∈ p.iO, 0 ≤ x ∧ x < 1000003
theorem nM {a b : List Int} (h : b.length = a.length) : (j5 a b).length = a.length := by simp [j5, h]
theorem aOR {a b : List Int} : ∀ x ∈ j5 a b, 0 ≤ x ∧ x < 1000003 := by
 intro x hx
 obtain ⟨i, hi, rfl⟩ := List.mem_iff_getElem.1 hx
 simp only [j5, List.getElem_zipWith]
 omega
@[go_sem] def aXW : List Nat := [0, 1, 4, 5, 6, 11, 12, 13]
@[go_sem] def bGH : List Nat := []
@[go_sem] def bGI : Marks := fun id => match id with | 5 => ([13], (.op 0 (.op 1 (.op 2 (.op 3 (.op 4 (.op 5 (.op 6 (.op 7 (.op 8 (.op 9 (.op 10 (.op 11 (.op 12 (.op 13 .nil)))))))))))))), []) | _ => ([], .nil, [])
theorem added (a b : List Int) (hab : b.length = a.length) (hl : a.length ≤ 1048576) (ha : ∀ x ∈ a, 0 ≤ x ∧ x < 1000003) (hb : ∀ x ∈ b, 0 ≤ x ∧ x < 1000003) : x9 Tryz.prog 69 [eZ 1 (fun n => [I n]) a, eZ 1 (fun n => [I n]) b] (QS (OS (oP I) 1 (j5 a b))) := by
 refine yA 30 aXW bGH bGI mix Tryz.func69 rfl (by kernel_rfl) (by simp) fun h => ?_
 simp -dsimp -implicitDefEqProofs only [go_sem, ↓reduceIte, Tryz.f69]
 intro _
 refine ⟨Nat.zero_lt_one, Nat.le_refl _, by omega, by omega, fun n hn _ => ?_⟩
 have hc := nM hab
 rw [rL]
 refine tX (keep := aXW) (ib := bGH) (mk := bGI) mix (by kernel_rfl) (fun k : Nat => [(0, eZ 1 (fun n => [I n]) a), (1, eZ 1 (fun n => [I n]) b), (5, .os n 1 0 a.length), (11, I a.length), (12, I k)]) n (fun k => .row 1 (((upL (j5 a b) k).map fun n => [I n]).map (List.map .v))) (fun k => k ≤ a.length) (fun k => a.length - k) 0 ⟨by simp [cV, bZ], by rw [aG, aB5, hc], Nat.zero_le _⟩ ?_
 intro k hk
 rcases Nat.lt_or_ge k a.length with hlt | hge
 ·have ea : a[k]? = some a[k] := List.getElem?_eq_getElem hlt
  have eb : b[k]? = some b[k] := List.getElem?_eq_getElem (by omega)
  have eu := aFJ (c := j5 a b) (k := k) (by omega)
  have el := aFI (j5 a b) (k := k) (by omega)
  simp -dsimp -implicitDefEqProofs only [go_sem, ↓reduceIte, Tryz.f69, aK, hlt, ea, eb, eu, el, hc]
  have h1 := ha _ (List.getElem_mem hlt)
  have h2 := hb b[k] (List.getElem_mem (by omega))
  refine ⟨by omega, k + 1, by rw [IntWalk.i64_in _ (by omega)]; rfl, ?_, by omega, by omega⟩
  have hv : (j5 a b)[k]'(by omega) = (a[k] + b[k]) % 1000003 := by simp [j5]
  rw [IntWalk.i64_in _ (by omega), Int.tmod_eq_emod_of_nonneg (by omega), ← aFK (by omega), hv, ← vB I]
  exact aB.le_refl _
 ·have hk' : k = a.length := by omega
  subst hk'
  simp -dsimp -implicitDefEqProofs only [go_sem, ↓reduceIte, Tryz.f69, aK, Nat.lt_irrefl]
  have hu : upL (j5 a b) a.length = j5 a b := by rw [← hc]; exact aFH _
  rw [hu, show a.length = (j5 a b).length from hc.symm]
  exact w6 hn
@[go_sem] def aXX : List Nat := [0, 1, 4, 5, 6, 7, 8, 10, 13, 14, 15, 16, 21]
@[go_sem] def bGJ : List Nat := []
@[go_sem] def bGK : Marks := fun id => match id with | 1 => ([1], (.op 0 (.op 2 (.op 1 (.op 3 .nil)))), []) | 6 => ([1], (.op 0 (.op 1 (.op 2 (.op 3 (.op 4 .nil))))), []) | 7 => ([2, 3, 6, 7], (.op 0 (.op 1 (.op 4 (.op 5 (.op 2 (.op 6 (.op 3 (.op 7 (.op 8 (.op 9 .nil)))))))))), [(6, 3)]) | _ => ([], .nil, [])
set_option maxHeartbeats 1000000 in
theorem summed (l : List e8) (sh : Int) (hsh : 0 ≤ sh ∧ sh ≤ 1048576) (hl : l.length ≤ 1048576) (hp : aLB sh l) : x9 Tryz.prog 33 [eZ 3 e8.c l, I sh] (QS (OS (oP I) 1 (sP l 0 (List.replicate sh.toNat 0)).2.1) (fun y => .iI [I (sP l 0 (List.replicate sh.toNat 0)).1, y, I (sP l 0 (List.replicate sh.toNat 0)).2.2])) := by
 refine yA 35 aXX bGJ bGK mix Tryz.func33 rfl (by kernel_rfl) (by simp) fun h => ?_
 simp -dsimp -implicitDefEqProofs only [go_sem, ↓reduceIte, Tryz.f33]
 refine ⟨Nat.zero_lt_one, hsh.1, Int.le_refl _, by omega, by omega, fun n hn _ => ?_⟩
 generalize hT : sP l 0 (List.replicate sh.toNat 0) = T at *
 rw [rL]
 refine cS (keep := aXX) (ib := bGJ) (mk := bGK) mix (by kernel_rfl) (fun x : Nat × Int × List Int × OV × aB => [(7, I x.2.1), (8, x.2.2.2.1.val), (13, eZ 3 e8.c l), (14, I l.length), (15, I x.1)]) (fun x => x.2.2.2.2) (fun x => x.1 ≤ l.length ∧ sP (l.drop x.1) x.2.1 x.2.2.1 = T ∧ x.2.2.1.length = sh.toNat ∧ (∀ y ∈ x.2.2.1, 0 ≤ y ∧ y < 1000003) ∧ OS (oP I) 1 x.2.2.1 x.2.2.2.1 ∧ eU h x.2.2.2.1.rows x.2.2.2.2) (fun x => l.length - x.1) (0, 0, List.replicate sh.toNat 0, .sl n 1 ((List.replicate sh.toNat 0).map fun x => [.v (I x)]), aR h n (.row 1 (((List.replicate sh.toNat (0 : Int)).map fun n => [I n]).map (List.map .v)))) ⟨by simp [cV, bZ, OV.vA], aB.le_refl _, Nat.zero_le _, hT, by simp, fun y hy => by have := List.eq_of_mem_replicate hy; omega, OS.mk (uZ _), by rw [OV.iJ, oW, mS]; exact eU.one hn⟩ ?_
 rintro ⟨k, v, gr, y, g⟩ ⟨hk, hs, hgl, hgn, hos, hw⟩
 simp only at hk hs hgl hgn hos hw ⊢
 have hyf := hos.flat
 have hyo := hos.one
 rcases Nat.lt_or_ge k l.length with hlt | hge
 ·have ea : l[k]? = some l[k] := List.getElem?_eq_getElem hlt
  have hpk := hp l[k] (List.getElem_mem hlt)
  rw [List.drop_eq_getElem_cons hlt, sP] at hs
  simp -dsimp -implicitDefEqProofs only [go_sem, ↓reduceIte, Tryz.f33, hlt, ea, e8.aU, hyf, hyo]
  intro nb a9G
  have hnb := aB.le_none hw.le a9G
  refine ⟨fun hc => ?_, fun hc => ?_⟩
  ·rw [if_neg hc] at hs
   subst hs
   exact ⟨_, h, _, Shift.of (Sub.iI (.cons (.refl _) (.cons (Sub.nil 1 true) (.cons (.refl _) .nil)))) (aB.aY hnb (aB.aY hnb hw.le)), ⟨.nil 1, OS.nil, rfl, (OV.mJ 1).symm⟩, eU.nil h⟩
  ·rw [if_pos hc] at hs
   have hp2 := hpk hc
   first | refine aH.mk (aDY v l[k].kK) ?_ | refine aF.mk (aDY v l[k].kK) ?_ | refine aH.bS (aDY v l[k].kK) ?_ | refine aF.mk (bM.eQ (aDY v l[k].kK)) ?_
   simp -dsimp -implicitDefEqProofs only [go_sem, ↓reduceIte, Tryz.f33, aK]
   have had := added gr l[k].iO (by omega) (by omega) hgn hp2.2
   refine aH.wl1 had (p8.cons (View.ovD y (OS.qW (c := fun n => [I n]) (fun _ _ q => yW q) hos) (hw.oV.up a9G)) (p8.cons (View.same _ _) p8.nil)) (QS.gP (fun y hy => OS.a1S (fun _ _ _ q => a8N (fun _ => rfl) q) hy) (fun x hx => hx)) a9G ?_
   rintro r l_ g2 ⟨y2, oy2, rfl, rfl⟩ w2 bGL
   simp -dsimp -implicitDefEqProofs only [go_sem, ↓reduceIte, Tryz.f33, oy2.flat, oy2.one, hyf, hyo]
   have w3 := (hw.append w2).drop
   exact ⟨(k + 1, _, j5 gr l[k].iO, y2, _), ⟨rfl, rfl, by rw [IntWalk.i64_in _ (by omega)]; rfl⟩, aB.aY (aB.le_none (aG5 _ _) bGL) (aG5 _ _), ⟨by omega, hs, by rw [nM (by omega)]; exact hgl, aOR, oy2, w3⟩, by omega⟩
 ·have hk' : k = l.length := by omega
  subst hk'
  rw [List.drop_length, sP] at hs
  simp -dsimp -implicitDefEqProofs only [go_sem, ↓reduceIte, Tryz.f33, Nat.lt_irrefl, hyf, hyo]
  subst hs
  exact ⟨_, g, _, bI _ _, ⟨y, hos, rfl, rfl⟩, hw⟩
def aDZ (a b : List Int) (i : Nat) : List Int := (j5 a b).take i ++ a.drop i
theorem aJJ (a b : List Int) : aDZ a b 0 = a := rfl
theorem aOS {a b : List Int} (h : b.length = a.length) : aDZ a b a.length = j5 a b := by
 rw [aDZ, List.drop_length, List.append_nil, List.take_of_length_le (by rw [nM h]; exact Nat.le_refl _)]
theorem aOT {a b : List Int} (h : b.length = a.length) (i : Nat) : (aDZ a b i).length = a.length := by
 have := nM h
 simp [aDZ]; omega
theorem aOU {a b : List Int} (h : b.length = a.length) {i : Nat} (hi : i < a.length) : (aDZ a b i)[i]? = some a[i] := by
 have h1 : ((j5 a b).take i).length = i := by rw [List.length_take, nM h]; omega
 rw [aDZ, List.getElem?_append_right (by omega), h1, Nat.sub_self, List.getElem?_drop, Nat.add_zero, List.getElem?_eq_getElem hi]
theorem aOV {a b : List Int} (h : b.length = a.length) {i : Nat} (hi : i < a.length) : (aDZ a b i).set i ((a[i] + b[i]'(by omega)) % 1000003) = aDZ a b (i + 1) := by
 have h1 : ((j5 a b).take i).length = i := by rw [List.length_take, nM h]; omega
 have h2 : i < (j5 a b).length := by rw [nM h]; exact hi
 rw [aDZ, aDZ, List.set_append_right _ _ (by omega), h1, Nat.sub_self, List.drop_eq_getElem_cons hi, List.set_cons_zero, List.take_succ_eq_append_getElem h2, List.append_assoc, List.singleton_append]
 simp [j5]
@[go_sem] def aQ1 : List Nat := [0, 1, 4, 5, 6, 7, 8, 9, 10, 16, 24, 41]
@[go_sem] def a9H : List Nat := [25]
@[go_sem] def a9I : Marks := fun id => match id with | 7 => ([], (.op 0 (.op 1 (.op 2 (.op 3 (.op 4 (.op 5 (.op 6 (.op 7 (.op 8 .nil))))))))), []) | 12 => ([5, 16], (.op 0 (.op 1 (.op 2 (.op 3 (.op 4 (.op 6 (.op 7 (.op 8 (.op 9 (.op 10 (.op 11 (.op 12 (.op 13 (.op 5 (.op 14 (.op 15 (.op 16 .nil))))))))))))))))), []) | _ => ([], .nil, [])
set_option maxHeartbeats 1000000 in
theorem a9J (l : List e8) (sh : Int) (hsh : 0 ≤ sh ∧ sh ≤ 1048576) (hl : l.length ≤ 1048576) (hp : aLB sh l) : x9 Tryz.prog 35 [eZ 3 e8.c l, I sh] (QS (OS (oP I) 1 (sP l 0 (List.replicate sh.toNat 0)).2.1) (fun y => .iI [I (sP l 0 (List.replicate sh.toNat 0)).1, y, I (sP l 0 (List.replicate sh.toNat 0)).2.2])) := by
 refine yA 62 aQ1 a9H a9I mix Tryz.func35 rfl (by kernel_rfl) (by simp) fun h => ?_
 simp -dsimp -implicitDefEqProofs only [go_sem, ↓reduceIte, Tryz.f35]
 refine ⟨Nat.zero_lt_one, hsh.1, Int.le_refl _, by omega, by omega, fun n hn => ?_⟩
 generalize hT : sP l 0 (List.replicate sh.toNat 0) = T at *
 rw [rL]
 refine tX (keep := aQ1) (ib := a9H) (mk := a9I) mix (by kernel_rfl) (fun x : Nat × Int × List Int => [(0, eZ 3 e8.c l), (7, I x.2.1), (8, .os n 1 0 sh.toNat), (9, I x.1)]) n (fun x => .row 1 ((x.2.2.map fun n => [I n]).map (List.map .v))) (fun x => x.1 ≤ l.length ∧ sP (l.drop x.1) x.2.1 x.2.2 = T ∧ x.2.2.length = sh.toNat ∧ (∀ y ∈ x.2.2, 0 ≤ y ∧ y < 1000003)) (fun x => l.length - x.1) (0, 0, List.replicate sh.toNat 0) ⟨by simp [cV, bZ], by rw [aG], Nat.zero_le _, hT, by simp, fun y hy => by have := List.eq_of_mem_replicate hy; omega⟩ ?_
 rintro ⟨k, v, gr⟩ ⟨hk, hs, hgl, hgn⟩
 simp only at hk hs hgl hgn ⊢
 rcases Nat.lt_or_ge k l.length with hlt | hge
 ·have ea : l[k]? = some l[k] := List.getElem?_eq_getElem hlt
  have hpk := hp l[k] (List.getElem_mem hlt)
  rw [List.drop_eq_getElem_cons hlt, sP] at hs
  simp -dsimp -implicitDefEqProofs only [go_sem, ↓reduceIte, Tryz.f35, hlt, ea, e8.aU, aK]
  intro _
  refine ⟨fun hc => ?_, fun hc => ?_⟩
  ·rw [if_neg hc] at hs
   subst hs
   exact ⟨Nat.zero_lt_one, _, h, _, Shift.of (Sub.refl _) (aB.aY hn (aB.le_refl _)), ⟨.nil 1, OS.nil, rfl, (OV.mJ 1).symm⟩, eU.nil h⟩
  ·rw [if_pos hc] at hs
   have hp2 := hpk hc
   have hb : (l[k].iO).length = gr.length := by omega
   first | refine aH.mk (eC v l[k].kK) ?_ | refine aF.mk (eC v l[k].kK) ?_ | refine aH.bS (eC v l[k].kK) ?_ | refine aF.mk (bM.eQ (eC v l[k].kK)) ?_
   simp -dsimp -implicitDefEqProofs only [go_sem, ↓reduceIte, Tryz.f35]
   refine tX (keep := aQ1) (ib := a9H) (mk := a9I) mix (by kernel_rfl) (fun i : Nat => [(0, eZ 3 e8.c l), (7, I ((v + l[k].kK) % 1000003)), (8, .os n 1 0 sh.toNat), (9, I k), (10, I i)]) n (fun i => .row 1 (((aDZ gr l[k].iO i).map fun n => [I n]).map (List.map .v))) (fun i => i ≤ gr.length) (fun i => gr.length - i) 0 ⟨by simp [cV, bZ], by rw [aG, aJJ], Nat.zero_le _⟩ ?_
   intro i hi
   rcases Nat.lt_or_ge i gr.length with kJ | aE6
   ·have eg := aOU hb kJ
    have el := aOT hb i
    have eb : (l[k].iO)[i]? = some ((l[k].iO)[i]'(by omega)) := List.getElem?_eq_getElem (by omega)
    have hls : i < sh.toNat := by omega
    simp -dsimp -implicitDefEqProofs only [go_sem, ↓reduceIte, Tryz.f35, hlt, ea, e8.aU, aK, eg, el, eb, hls, ← hgl, kJ]
    intro _
    refine ⟨by omega, ?_⟩
    first | refine aH.mk (eC gr[i] ((l[k].iO)[i]'(by omega))) ?_ | refine aF.mk (eC gr[i] ((l[k].iO)[i]'(by omega))) ?_ | refine aH.bS (eC gr[i] ((l[k].iO)[i]'(by omega))) ?_ | refine aF.mk (bM.eQ (eC gr[i] ((l[k].iO)[i]'(by omega)))) ?_
    simp -dsimp -implicitDefEqProofs only [go_sem, ↓reduceIte, Tryz.f35, hlt, ea, e8.aU, aK, eg, el, eb, hls, ← hgl, kJ]
    refine ⟨i + 1, by rw [IntWalk.i64_in _ (by omega)]; rfl, ?_, by omega, by omega⟩
    rw [← aOV hb kJ, ← vB I]
    exact aB.le_refl _
   ·have hi' : i = gr.length := by omega
    subst hi'
    simp -dsimp -implicitDefEqProofs only [go_sem, ↓reduceIte, Tryz.f35, ← hgl, aK, Nat.lt_irrefl, Int.lt_irrefl]
    rw [aOS hb]
    intro _
    exact ⟨(k + 1, _, _), ⟨rfl, by rw [IntWalk.i64_in _ (by omega)]; rfl⟩, aB.le_refl _, ⟨by omega, hs, nM hb, aOR⟩, by omega⟩
 ·have hk' : k = l.length := by omega
  subst hk'
  rw [List.drop_length, sP] at hs
  simp -dsimp -implicitDefEqProofs only [go_sem, ↓reduceIte, Tryz.f35, Nat.lt_irrefl, Int.lt_irrefl, aK]
  subst hs
  intro _
  exact ⟨_, _, _, bI _ _, ⟨.sl n 1 (gr.map fun x => [.v (I x)]), OS.mk (uZ gr), by rw [OV.vW, hgl], rfl⟩, by rw [OV.iJ, oW, mS]; exact eU.one hn⟩
open Go.Proofs
set_option linter.unusedVariables false
set_option linter.unusedSimpArgs false
def bN (n : Nat) (s : List Int) : Prop := s.length = n ∧ eD s
def lY (a : List Int) (n : Int) : List Int := a.map fun x => x * n % 1000003
def aLC (a b : List Int) : List Int := j5 a (lY b 1000002)
def cvS (a b : List Int) (k : Nat) : Nat → Int
 |0 => 0
 |i + 1 => (cvS a b k i + a.getD i 0 * b.getD (k - i) 0) % 1000003
def mulL (a b : List Int) : List Int := (List.range a.length).map fun k => cvS a b k (k + 1)
def pwN (b : Int) (n : Nat) : Int := b ^ n % 1000003
def o5 (x : Int) : Int := pwN (x % 1000003) 1000001
def dvS (o b : List Int) (k : Nat) (r : Int) : Nat → Int
 |0 => r
 |i + 1 => (dvS o b k r i - o.getD i 0 * b.getD (k - i) 0) % 1000003
def kM (a b : List Int) : Nat → List Int
 |0 => []
 |k + 1 => kM a b k ++ [dvS (kM a b k) b k (a.getD k 0) k * o5 (b.getD 0 0) % 1000003]
def lA (a b : List Int) : List Int := kM a b a.length
def lP (n : Int) (sz : Nat) : List Int := (List.replicate sz 0).set 0 n
def dE : aC := .mk 0 0 0 0 []
def aC.nN (e : aC) (i : Nat) : aC := e.aN.getD i dE
def aE.outs (p : aE) (f : Int) : List aC := ((p.aI[f.toNat]?).map (·.aQ)).getD []
def aE.out (p : aE) (f i : Int) : aC := (p.outs f).getD i.toNat dE
abbrev Out (α : Type) := Except Int (α × Nat)
def Out.andThen {α β : Type} (x : Out α) (f : α → Nat → Out β) : Out β := match x with
 | .ok (a, t) => f a t
 | .error c => .error c
def lS (ev : Nat → aC → Out (List Int)) : List aC → Nat → Out (List (List Int))
 | [], t => .ok ([], t)
 |e :: l, t => (ev t e).andThen fun v t => (lS ev l t).andThen fun vs t => .ok (v :: vs, t)
def pQ (f : List (List Int) → Nat → Out (List (List Int))) : Nat → List (List Int) → Nat → Out (List (List Int))
 |0, vs, t => .ok (vs, t)
 |n + 1, vs, t => (f vs t).andThen fun vs t => pQ f n vs t
def opE (k : Int) (vs : List (List Int)) (t : Nat) : Out (List Int) :=
 if k = 3 then .ok (j5 (vs.getD 0 []) (vs.getD 1 []), t)
 else if k = 4 then .ok (aLC (vs.getD 0 []) (vs.getD 1 []), t)
 else if k = 5 then .ok (mulL (vs.getD 0 []) (vs.getD 1 []), t)
 else if k = 7 then .ok (lY (vs.getD 0 []) 1000002, t)
 else if (vs.getD 1 []).getD 0 0 = 0 then .error 6
 else .ok (lA (vs.getD 0 []) (vs.getD 1 []), t)
def iY (p : aE) (sz : Nat) : Nat → Nat → aC → List (List Int) → Out (List Int)
 |0, _, _, _ => .error 7
 |n + 1, t, e, env =>
  if t = 3000 then .error 7
  else if e.aP = 1 then .ok (lP e.bC sz, t + 1)
  else if e.aP = 2 then .ok (env.getD e.bC.toNat [], t + 1)
  else if e.aP = 8 then (iY p sz n (t + 1) (e.nN 0) env).andThen fun c t => if c.getD 0 0 = 0 then iY p sz n t (e.nN 1) env else iY p sz n t (e.nN 2) env
  else if e.aP = 9 then (iY p sz n (t + 1) (e.nN 0) env).andThen fun v t => iY p sz n t (e.nN 1) (env ++ [v])
  else (lS (fun t e => iY p sz n t e env) e.aN (t + 1)).andThen fun vs t =>
   if e.aP = 10 then iY p sz n t (p.out e.bC e.cR) vs
   else if e.aP = 11 then (pQ (fun vs t => lS (fun t e => iY p sz n t e vs) (p.outs e.bC) t) e.cD.toNat vs t).andThen fun vs t => .ok (vs.getD e.cR.toNat [], t)
   else opE e.aP vs t
def jF {α : Type} (X : Out α) (v : α) (t : Nat) (c : Int) : Prop := match X with
 | .ok (w, u) => c = 0 ∧ v = w ∧ t = u
 | .error d => c = d ∧ d ≠ 0
def oT {α : Type} (c : Int) (X : Out α) : Out α := if c = 0 then X else .error c
theorem cU {α : Type} (X : Out α) : oT 0 X = X := if_pos rfl
theorem iA {α : Type} {c : Int} (X : Out α) (h : ¬ c = 0) : oT c X = .error c := if_neg h
theorem eO {α : Type} {c : Int} (v : α) (t : Nat) (h : ¬ c = 0) : jF (.error c : Out α) v t c := ⟨rfl, h⟩
theorem lB {α : Type} (v : α) (t : Nat) : jF (.ok (v, t) : Out α) v t 0 := ⟨rfl, rfl, rfl⟩
theorem gO {α : Type} (v : α) (t : Nat) (c : Int) : jF (oT c (.ok (v, t))) v t c := by
 by_cases e : c = 0
 ·subst e; rw [cU]; exact lB v t
 ·rw [iA _ e]; exact eO v t e
theorem jF.then {α β : Type} {X : Out α} {F : α → Nat → Out β} {v : α} {t : Nat} {c : Int} {v2 : β} {t2 : Nat} {c2 : Int} (h : jF X v t c) (h2 : jF (oT c (F v t)) v2 t2 c2) : jF (X.andThen F) v2 t2 c2 := by
 cases X with
 |ok p =>
  obtain ⟨w, u⟩ := p
  obtain ⟨rfl, rfl, rfl⟩ := h
  rw [cU] at h2
  exact h2
 |error d =>
  obtain ⟨rfl, h⟩ := h
  rw [iA _ h] at h2
  exact h2
theorem jF.err {α : Type} {X : Out α} {v : α} {t : Nat} {c : Int} (h : jF X v t c) (hc : ¬ c = 0) : X = .error c := by
 cases X with
 |ok p => exact absurd h.1 hc
 |error d => rw [h.1]
theorem jF.dP {α β : Type} {c0 : Int} {X : Out α} {F : α → Nat → Out β} {v : α} {t : Nat} {c : Int} {v2 : β} {t2 : Nat} {c2 : Int} (h : jF (oT c0 X) v t c) (h2 : jF (oT c (F v t)) v2 t2 c2) : jF (oT c0 (X.andThen F)) v2 t2 c2 := by
 by_cases e : c0 = 0
 ·subst e
  rw [cU] at h ⊢
  exact h.then h2
 ·rw [iA _ e] at h ⊢
  obtain ⟨rfl, h⟩ := h
  rw [iA _ h] at h2
  exact h2
theorem jF.bGN {α : Type} {c0 : Int} {X : Out α} {v : α} {t : Nat} {c : Int} (h : jF (oT c0 X) v t c) (hc : c = 0) : c0 = 0 := by
 by_cases e : c0 = 0
 ·exact e
 ·rw [iA _ e] at h
  exact h.1.symm.trans hc
theorem Out.mU {α β γ : Type} (x : Out α) (f : α → Nat → Out β) (g : β → Nat → Out γ) : (x.andThen f).andThen g = x.andThen fun a t => (f a t).andThen g := by
 cases x <;> rfl
theorem Out.andThen_ok {α β : Type} (a : α) (t : Nat) (f : α → Nat → Out β) : Out.andThen (.ok (a, t)) f = f a t := rfl
theorem vX (ev : Nat → aC → Out (List Int)) (e : aC) : ∀ (l : List aC) (t : Nat), lS ev (l ++ [e]) t = (lS ev l t).andThen fun vs t => (ev t e).andThen fun v t => .ok (vs ++ [v], t)
 | [], t => rfl
 |x :: l, t => by
  simp only [List.cons_append, lS, vX ev e l, Out.mU, Out.andThen_ok]
theorem xA (f : List (List Int) → Nat → Out (List (List Int))) : ∀ (n : Nat) (vs : List (List Int)) (t : Nat), pQ f (n + 1) vs t = (pQ f n vs t).andThen f
 |0, vs, t => by
  show (f vs t).andThen (fun vs t => .ok (vs, t)) = f vs t
  cases f vs t with
  |ok p => rfl
  |error c => rfl
 |n + 1, vs, t => by
  show (f vs t).andThen (fun vs t => pQ f (n + 1) vs t) = ((f vs t).andThen fun vs t => pQ f n vs t).andThen f
  rw [Out.mU]
  congr 1
  funext a t
  exact xA f n a t
theorem aJK {f : List (List Int) → Nat → Out (List (List Int))} {vs : List (List Int)} {t : Nat} {c : Int} : ∀ (n k : Nat), k ≤ n → pQ f k vs t = .error c → pQ f n vs t = .error c
 |0, k, hk, h => by
  have : k = 0 := by omega
  subst this; exact h
 |n + 1, k, hk, h => by
  rcases Nat.lt_or_ge k (n + 1) with hlt | hge
  ·rw [xA, aJK n k (by omega) h]; rfl
  ·have : k = n + 1 := by omega
   subst this; exact h
theorem mZ (n : Int) : jA (n % 1000003) := by unfold jA; omega
theorem bN.len {n : Nat} {s : List Int} (h : bN n s) : s.length = n := h.1
theorem q0 {n : Nat} {a b : List Int} (ha : bN n a) (hb : bN n b) : bN n (j5 a b) := by
 refine ⟨by simp [j5, ha.1, hb.1], fun x hx => ?_⟩
 obtain ⟨i, hi, rfl⟩ := List.mem_iff_getElem.1 hx
 simp only [j5, List.getElem_zipWith]
 exact mZ _
theorem fS {n : Nat} {a : List Int} (k : Int) (ha : bN n a) : bN n (lY a k) := by
 refine ⟨by simp [lY, ha.1], fun x hx => ?_⟩
 obtain ⟨y, _, rfl⟩ := List.mem_map.1 hx
 exact mZ _
theorem zM {n : Nat} {a b : List Int} (ha : bN n a) (hb : bN n b) : bN n (aLC a b) := q0 ha (fS _ hb)
theorem aXY (a b : List Int) (k : Nat) : ∀ i, jA (cvS a b k i)
 |0 => by unfold cvS jA; omega
 |i + 1 => mZ _
theorem hH {n : Nat} {a : List Int} (b : List Int) (ha : bN n a) : bN n (mulL a b) := by
 refine ⟨by simp [mulL, ha.1], fun x hx => ?_⟩
 obtain ⟨k, _, rfl⟩ := List.mem_map.1 hx
 exact aXY _ _ _ _
theorem o6 (a b : List Int) : ∀ k, (kM a b k).length = k
 |0 => rfl
 |k + 1 => by rw [kM, List.length_append, o6 a b k]; rfl
theorem tJ (a b : List Int) : ∀ k, eD (kM a b k)
 |0 => fun x hx => by cases hx
 |k + 1 => fun x hx => by
  rw [kM, List.mem_append, List.mem_singleton] at hx
  rcases hx with hx | rfl
  ·exact tJ a b k x hx
  ·exact mZ _
theorem pR {n : Nat} {a : List Int} (b : List Int) (ha : bN n a) : bN n (lA a b) := ⟨by rw [lA, o6, ha.1], tJ _ _ _⟩
theorem eX {n : Int} {sz : Nat} (h : jA n) : bN sz (lP n sz) := by
 refine ⟨by simp [lP], fun x hx => ?_⟩
 rw [lP] at hx
 rcases List.mem_or_eq_of_mem_set hx with hx | rfl
 ·have := (List.mem_replicate.1 hx).2
  subst this; unfold jA; omega
 ·exact h
theorem eD.get {l : List Int} (h : eD l) (i : Nat) : jA (l.getD i 0) := by
 rw [List.getD_eq_getElem?_getD]
 rcases Nat.lt_or_ge i l.length with hi | hi
 ·rw [List.getElem?_eq_getElem hi]; exact h _ (List.getElem_mem hi)
 ·rw [List.getElem?_eq_none hi]; unfold jA; simp
def hR (s s' : List Int) : Prop := (s = [] ∧ s' = []) ∨ ∃ x a b, s = x :: a ∧ s' = x :: b
theorem a9K : hR [] [] := .inl ⟨rfl, rfl⟩
theorem hR.hd {s s' : List Int} (h : hR s s') : s.getD 0 0 = s'.getD 0 0 := by
 rcases h with ⟨rfl, rfl⟩ | ⟨x, a, b, rfl, rfl⟩ <;> rfl
theorem aXZ {a a' b b' : List Int} (ha : hR a a') (hb : hR b b') : hR (j5 a b) (j5 a' b') := by
 rcases ha with ⟨rfl, rfl⟩ | ⟨x, a, a', rfl, rfl⟩
 ·exact .inl ⟨rfl, rfl⟩
 ·rcases hb with ⟨rfl, rfl⟩ | ⟨y, b, b', rfl, rfl⟩
  ·exact .inl ⟨rfl, rfl⟩
  ·exact .inr ⟨_, _, _, rfl, rfl⟩
theorem aX0 {a a' : List Int} (n : Int) (ha : hR a a') : hR (lY a n) (lY a' n) := by
 rcases ha with ⟨rfl, rfl⟩ | ⟨x, a, a', rfl, rfl⟩
 ·exact .inl ⟨rfl, rfl⟩
 ·exact .inr ⟨_, _, _, rfl, rfl⟩
theorem a9L {a a' b b' : List Int} (ha : hR a a') (hb : hR b b') : hR (aLC a b) (aLC a' b') := aXZ ha (aX0 _ hb)
theorem zN (x : Int) (a b : List Int) : ∃ t, mulL (x :: a) b = (x * b.getD 0 0) % 1000003 :: t := by
 refine ⟨((List.range a.length).map Nat.succ).map fun k => cvS (x :: a) b k (k + 1), ?_⟩
 rw [mulL, List.length_cons, List.range_succ_eq_map, List.map_cons]
 congr 1
 simp [cvS]
theorem a9M {a a' b b' : List Int} (ha : hR a a') (hb : hR b b') : hR (mulL a b) (mulL a' b') := by
 rcases ha with ⟨rfl, rfl⟩ | ⟨x, a, a', rfl, rfl⟩
 ·exact .inl ⟨rfl, rfl⟩
 ·obtain ⟨t, h⟩ := zN x a b
  obtain ⟨t', h'⟩ := zN x a' b'
  rw [h, h', hb.hd]
  exact .inr ⟨_, _, _, rfl, rfl⟩
theorem vY (x : Int) (a b : List Int) : ∀ k, ∃ t, kM (x :: a) b (k + 1) = x * o5 (b.getD 0 0) % 1000003 :: t
 |0 => ⟨[], rfl⟩
 |k + 1 => by
  obtain ⟨t, h⟩ := vY x a b k
  rw [kM, h]
  exact ⟨_, rfl⟩
theorem a9N {a a' b b' : List Int} (ha : hR a a') (hb : hR b b') : hR (lA a b) (lA a' b') := by
 rcases ha with ⟨rfl, rfl⟩ | ⟨x, a, a', rfl, rfl⟩
 ·exact .inl ⟨rfl, rfl⟩
 ·obtain ⟨t, h⟩ := vY x a b a.length
  obtain ⟨t', h'⟩ := vY x a' b' a'.length
  rw [lA, lA, List.length_cons, List.length_cons, h, h', hb.hd]
  exact .inr ⟨_, _, _, rfl, rfl⟩
theorem aX1 (n : Int) (sz sz' : Nat) : hR (lP n (sz + 1)) (lP n (sz' + 1)) := by
 rw [lP, lP, List.replicate_succ, List.replicate_succ]
 exact .inr ⟨_, _, _, rfl, rfl⟩
def eR : List (List Int) → List (List Int) → Prop
 | [], [] => True
 |s :: l, s' :: l' => hR s s' ∧ eR l l'
 | _, _ => False
theorem eR.get : ∀ {l l' : List (List Int)}, eR l l' → ∀ i, hR (l.getD i []) (l'.getD i [])
 | [], [], _, i => by simp [a9K]
 |s :: l, s' :: l', h, 0 => h.1
 |s :: l, s' :: l', h, i + 1 => by simpa using eR.get h.2 i
 | [], _ :: _, h, _ => h.elim
 | _ :: _, [], h, _ => h.elim
theorem eR.len : ∀ {l l' : List (List Int)}, eR l l' → l.length = l'.length
 | [], [], _ => rfl
 |s :: l, s' :: l', h => by simp [eR.len h.2]
 | [], _ :: _, h => h.elim
 | _ :: _, [], h => h.elim
theorem eR.snoc {s s' : List Int} (h : hR s s') : ∀ {l l' : List (List Int)}, eR l l' → eR (l ++ [s]) (l' ++ [s'])
 | [], [], _ => ⟨h, trivial⟩
 |x :: l, x' :: l', k => ⟨k.1, eR.snoc h k.2⟩
 | [], _ :: _, k => k.elim
 | _ :: _, [], k => k.elim
def oR {α : Type} (R : α → α → Prop) (X Y : Out α) : Prop := match X, Y with
 | .ok (v, t), .ok (v', t') => R v v' ∧ t = t'
 | .error c, .error c' => c = c'
 | _, _ => False
theorem oR.bind {α β : Type} {R : α → α → Prop} {S : β → β → Prop} {X Y : Out α} {F G : α → Nat → Out β} (h : oR R X Y) (hf : ∀ v v' t, R v v' → oR S (F v t) (G v' t)) : oR S (X.andThen F) (Y.andThen G) := by
 cases X with
 |ok p =>
  cases Y with
  |ok q =>
   obtain ⟨v, t⟩ := p
   obtain ⟨v', t'⟩ := q
   obtain ⟨h1, rfl⟩ := h
   exact hf _ _ _ h1
  |error c => exact h.elim
 |error c =>
  cases Y with
  |ok q => exact h.elim
  |error d => exact h
theorem oR.pure {α : Type} {R : α → α → Prop} {v v' : α} {t : Nat} (h : R v v') : oR R (.ok (v, t)) (.ok (v', t)) := ⟨h, rfl⟩
theorem zO {ev ev' : Nat → aC → Out (List Int)} (h : ∀ t e, oR hR (ev t e) (ev' t e)) : ∀ (l : List aC) (t : Nat), oR eR (lS ev l t) (lS ev' l t)
 | [], t => ⟨trivial, rfl⟩
 |e :: l, t => (h t e).bind fun v v' t hv => (zO h l t).bind fun vs vs' t hvs => oR.pure ⟨hv, hvs⟩
theorem aHL {f g : List (List Int) → Nat → Out (List (List Int))} (h : ∀ vs vs' t, eR vs vs' → oR eR (f vs t) (g vs' t)) : ∀ (n : Nat) (vs vs' : List (List Int)) (t : Nat), eR vs vs' → oR eR (pQ f n vs t) (pQ g n vs' t)
 |0, vs, vs', t, hv => ⟨hv, rfl⟩
 |n + 1, vs, vs', t, hv => (h vs vs' t hv).bind fun a a' t ha => aHL h n a a' t ha
theorem aX2 (k : Int) {vs vs' : List (List Int)} (t : Nat) (h : eR vs vs') : oR hR (opE k vs t) (opE k vs' t) := by
 have h0 := h.get 0
 have h1 := h.get 1
 unfold opE
 split
 ·exact oR.pure (aXZ h0 h1)
 split
 ·exact oR.pure (a9L h0 h1)
 split
 ·exact oR.pure (a9M h0 h1)
 split
 ·exact oR.pure (aX0 _ h0)
 rw [h1.hd]
 split
 ·exact rfl
 ·exact oR.pure (a9N h0 h1)
theorem aOW (p : aE) (sz sz' : Nat) : ∀ (n t : Nat) (e : aC) (env env' : List (List Int)), eR env env' → oR hR (iY p (sz + 1) n t e env) (iY p (sz' + 1) n t e env')
 |0, t, e, env, env', h => rfl
 |n + 1, t, e, env, env', h => by
  have ih := aOW p sz sz' n
  rw [iY, iY]
  split
  ·exact rfl
  split
  ·exact oR.pure (aX1 _ _ _)
  split
  ·exact oR.pure (h.get _)
  split
  ·refine (ih _ _ _ _ h).bind fun c c' t hc => ?_
   rw [hc.hd]
   split
   ·exact ih _ _ _ _ h
   ·exact ih _ _ _ _ h
  split
  ·exact (ih _ _ _ _ h).bind fun v v' t hv => ih _ _ _ _ (eR.snoc hv h)
  refine (zO (fun t e => ih t e _ _ h) _ _).bind fun vs vs' t hv => ?_
  split
  ·exact ih _ _ _ _ hv
  split
  ·refine (aHL (f := fun vs t => lS (fun t e => iY p (sz + 1) n t e vs) (p.outs e.bC) t) (g := fun vs t => lS (fun t e => iY p (sz' + 1) n t e vs) (p.outs e.bC) t) (fun a a' u ha => zO (fun u x => ih u x a a' ha) (p.outs e.bC) u) e.cD.toNat vs vs' t hv).bind fun a a' u ha => ?_
   exact oR.pure (ha.get _)
  ·exact aX2 _ _ hv
def vC (p : aE) (sz : Nat) (f : Int) (args : List (List Int)) : Out (List (List Int)) := lS (fun t e => iY p sz 3001 t e args) (p.outs f) 0
theorem aX3 (p : aE) (sz sz' : Nat) (f : Int) (args args' : List (List Int)) (h : eR args args') : oR eR (vC p (sz + 1) f args) (vC p (sz' + 1) f args') :=
 zO (fun t e => aOW p sz sz' _ t e _ _ h) _ _
theorem aX4 (b : Int) : ∀ n : Nat, (b % 1000003) ^ n % 1000003 = b ^ n % 1000003
 |0 => by rw [Int.pow_zero, Int.pow_zero]
 |n + 1 => by
  rw [Int.pow_succ, Int.pow_succ, Int.mul_emod, aX4 b n, Int.emod_emod_of_dvd _ (Int.dvd_refl _), ← Int.mul_emod]
theorem aSY (x b : Int) (n : Nat) : x * b ^ n % 1000003 = (if n % 2 = 1 then x * b % 1000003 else x) * (b * b % 1000003) ^ (n / 2) % 1000003 := by
 have h2 : b ^ n = (b * b) ^ (n / 2) * b ^ (n % 2) := by
  rw [show b * b = b ^ 2 by rw [Int.pow_succ, Int.pow_succ, Int.pow_zero, Int.one_mul], ← Int.pow_mul, ← Int.pow_add]
  congr 1; omega
 have h3 : ∀ y : Int, y * (b * b % 1000003) ^ (n / 2) % 1000003 = y * (b * b) ^ (n / 2) % 1000003 := fun y => by
  rw [Int.mul_emod, aX4, ← Int.mul_emod]
 rw [h3, h2]
 split
 ·rename_i h
  rw [h, Int.pow_succ, Int.pow_zero, Int.one_mul, Int.mul_emod (x * b % 1000003), Int.emod_emod_of_dvd _ (Int.dvd_refl _), ← Int.mul_emod]
  congr 1
  rw [Int.mul_comm ((b * b) ^ (n / 2)) b, Int.mul_assoc]
 ·rename_i h
  have : n % 2 = 0 := by omega
  rw [this, Int.pow_zero, Int.mul_one]
theorem aSZ (x b : Int) (hx : 0 ≤ x ∧ x < 1000003) : x * b ^ 0 % 1000003 = x := by
 rw [Int.pow_zero, Int.mul_one]; omega
theorem aX5 {x b m T : Int} (hm : 0 ≤ m) (h : m % 2 = 1) (hp : x * b ^ m.toNat % 1000003 = T) : (x * b % 1000003) * (b * b % 1000003) ^ (m / 2).toNat % 1000003 = T := by
 rw [← hp, aSY x b m.toNat, if_pos (by omega), show (m / 2).toNat = m.toNat / 2 by omega]
theorem aS0 {x b m T : Int} (hm : 0 ≤ m) (h : ¬ m % 2 = 1) (hp : x * b ^ m.toNat % 1000003 = T) : x * (b * b % 1000003) ^ (m / 2).toNat % 1000003 = T := by
 rw [← hp, aSY x b m.toNat, if_neg (by omega), show (m / 2).toNat = m.toNat / 2 by omega]
theorem aOX (y : Int) : 0 ≤ y % 1000003 ∧ y % 1000003 < 1000003 := by omega
theorem dS {l : List Int} {i : Nat} (h : i < l.length) : l[i]? = some (l.getD i 0) := by
 rw [List.getD_eq_getElem?_getD, List.getElem?_eq_getElem h]; rfl
theorem num_inv (x : Int) : jA (o5 x) := mZ _
theorem xB (o b : List Int) (k : Nat) {r : Int} (hr : jA r) : ∀ i, jA (dvS o b k r i)
 |0 => hr
 |i + 1 => mZ _
theorem aD0 (a b : List Int) {k : Nat} : ∀ n, k ≤ n → (kM a b n).take k = kM a b k
 |0, h => by
  have : k = 0 := by omega
  subst this; rfl
 |n + 1, h => by
  rcases Nat.lt_or_ge k (n + 1) with h1 | h1
  ·rw [kM, List.take_append_of_le_length (by rw [o6]; omega), aD0 a b n (by omega)]
  ·have : k = n + 1 := by omega
   subst this
   rw [List.take_of_length_le (by rw [o6]; omega)]
theorem vZ (a b : List Int) : (lA a b).length = a.length := o6 _ _ _
theorem a19 (a b : List Int) {k : Nat} (hk : k ≤ a.length) : upL (lA a b) k = kM a b k ++ List.replicate (a.length - k) 0 := by
 rw [upL, vZ, lA, aD0 a b _ hk]
theorem aEY {a b : List Int} {k i : Nat} (hk : k ≤ a.length) (hi : i < k) : (upL (lA a b) k)[i]? = some ((kM a b k).getD i 0) := by
 rw [a19 a b hk, List.getElem?_append_left (by rw [o6]; exact hi)]
 exact dS (by rw [o6]; exact hi)
theorem aOY {a b : List Int} {k : Nat} (hk : k < a.length) : (lA a b)[k]'(by rw [vZ]; exact hk) = dvS (kM a b k) b k (a.getD k 0) k * o5 (b.getD 0 0) % 1000003 := by
 have h := aEY (a := a) (b := b) (k := k + 1) (i := k) (by omega) (by omega)
 have h2 : (kM a b (k + 1)).getD k 0 = dvS (kM a b k) b k (a.getD k 0) k * o5 (b.getD 0 0) % 1000003 := by
  rw [kM, List.getD_eq_getElem?_getD, List.getElem?_append_right (by rw [o6]; omega), o6, Nat.sub_self]; rfl
 rw [h2, upL, List.getElem?_append_left (by rw [List.length_take, vZ]; omega), List.getElem?_take_of_lt (by omega), List.getElem?_eq_getElem (by rw [vZ]; exact hk)] at h
 exact Option.some.inj h
theorem num_mul {x y : Int} (hx : jA x) (hy : jA y) : 0 ≤ x * y ∧ x * y ≤ 1000004000004 := by
 refine ⟨Int.mul_nonneg hx.1 hy.1, ?_⟩
 have := Int.mul_le_mul hx.2 hy.2 hy.1 (by omega)
 omega
theorem tK (a : List Int) (n : Int) : (lY a n).length = a.length := by simp [lY]
theorem aOZ (a b : List Int) : (mulL a b).length = a.length := by simp [mulL]
theorem rM {l : List Int} (h : eD l) : ∀ x ∈ l, 0 ≤ x ∧ x < 1000003 := fun x hx => by have := h x hx; unfold jA at this; omega
theorem aQ2 {n : Int} (h0 : 0 ≤ n) (h1 : n ≤ 9223372036854775807) : (IntKind.i64.wrap n).tmod 1000003 = n % 1000003 := by
 rw [IntWalk.i64_in _ (by omega), Int.tmod_eq_emod_of_nonneg h0]
theorem aX6 {c : List Int} {k : Nat} (hk : k < c.length) : (upL c k).set k 0 = upL c k := by
 have h := aFJ hk
 apply List.ext_getElem?
 intro i
 rw [List.getElem?_set]
 split
 ·subst_vars
  split
  ·exact h.symm
  ·rename_i h2
   rw [List.getElem?_eq_none (by omega)]
 ·rfl
theorem aO0 {p : aE} {sz n st : Nat} {e : aC} {env : List (List Int)} (h3 : ¬ st = 3000) (hk : e.aP = 1) : iY p sz (n + 1) st e env = .ok (lP e.bC sz, st + 1) := by rw [iY, if_neg h3, if_pos hk]
theorem aO1 {p : aE} {sz n st : Nat} {e : aC} {env : List (List Int)} (h3 : ¬ st = 3000) (hk : e.aP = 2) : iY p sz (n + 1) st e env = .ok (env.getD e.bC.toNat [], st + 1) := by rw [iY, if_neg h3, if_neg (by omega), if_pos hk]
theorem aHM {p : aE} {sz n st : Nat} {e : aC} {env : List (List Int)} (h3 : ¬ st = 3000) (hk : e.aP = 8) : iY p sz (n + 1) st e env = (iY p sz n (st + 1) (e.nN 0) env).andThen fun c t => if c.getD 0 0 = 0 then iY p sz n t (e.nN 1) env else iY p sz n t (e.nN 2) env := by rw [iY, if_neg h3, if_neg (by omega), if_neg (by omega), if_pos hk]
theorem aO2 {p : aE} {sz n st : Nat} {e : aC} {env : List (List Int)} (h3 : ¬ st = 3000) (hk : e.aP = 9) : iY p sz (n + 1) st e env = (iY p sz n (st + 1) (e.nN 0) env).andThen fun v t => iY p sz n t (e.nN 1) (env ++ [v]) := by rw [iY, if_neg h3, if_neg (by omega), if_neg (by omega), if_neg (by omega), if_pos hk]
theorem aD1 {p : aE} {sz n st : Nat} {e : aC} {env : List (List Int)} (h3 : ¬ st = 3000) (hk : e.aP = 10) : iY p sz (n + 1) st e env = (lS (fun t e => iY p sz n t e env) e.aN (st + 1)).andThen fun vs t => iY p sz n t (p.out e.bC e.cR) vs := by
 rw [iY, if_neg h3, if_neg (by omega), if_neg (by omega), if_neg (by omega), if_neg (by omega)]; simp only [if_pos hk]
theorem aD2 {p : aE} {sz n st : Nat} {e : aC} {env : List (List Int)} (h3 : ¬ st = 3000) (hk : e.aP = 11) : iY p sz (n + 1) st e env = (lS (fun t e => iY p sz n t e env) e.aN (st + 1)).andThen fun vs t => (pQ (fun vs t => lS (fun t e => iY p sz n t e vs) (p.outs e.bC) t) e.cD.toNat vs t).andThen fun vs t => .ok (vs.getD e.cR.toNat [], t) := by
 have h : ¬ e.aP = 10 := by omega
 rw [iY, if_neg h3, if_neg (by omega), if_neg (by omega), if_neg (by omega), if_neg (by omega)]; simp only [if_neg h, if_pos hk]
theorem oU {p : aE} {sz n st : Nat} {e : aC} {env : List (List Int)} (h3 : ¬ st = 3000) (hk : e.aP = 3 ∨ e.aP = 4 ∨ e.aP = 5 ∨ e.aP = 6 ∨ e.aP = 7) : iY p sz (n + 1) st e env = (lS (fun t e => iY p sz n t e env) e.aN (st + 1)).andThen fun vs t => opE e.aP vs t := by
 have h : ¬ e.aP = 10 := by omega
 have h2 : ¬ e.aP = 11 := by omega
 rw [iY, if_neg h3, if_neg (by omega), if_neg (by omega), if_neg (by omega), if_neg (by omega)]; simp only [if_neg h, if_neg h2]
theorem aC.gR {e : aC} {i : Nat} (h : i < e.aN.length) : e.aN[i]? = some (e.nN i) := by
 rw [aC.nN, List.getD_eq_getElem?_getD, List.getElem?_eq_getElem h]; rfl
theorem aC.aLD {e : aC} {i : Nat} (h : i < e.aN.length) : e.nN i = e.aN[i] := by
 have := aC.gR h
 rw [List.getElem?_eq_getElem h] at this
 exact (Option.some.inj this).symm
theorem aC.eP {p : aE} {funcs vars : Int} {e : aC} {i : Nat} (hok : e.ok p funcs vars) (h : i < e.aN.length) : (e.nN i).ok p funcs (iX e.aP i vars) := by
 rw [aC.aLD h]; exact ((aC.dB _ _ _ _).1 hok).2 i h
theorem aC.ld5 (x : aC) : (if 5 ≤ x.c.length then some (aD.agg (List.take 5 x.c)) else none) = some (.agg x.c) := by
 rw [if_pos (by rw [aC.aJG]; exact Nat.le_refl _), List.take_of_length_le (by rw [aC.aJG]; exact Nat.le_refl _)]
theorem hJ {k : Int} {i : Nat} {v : Int} (h : ¬ (k = 9 ∧ i = 1)) : iX k i v = v := if_neg h
theorem iV {sz : Nat} {env : List (List Int)} (h : ∀ s ∈ env, bN sz s) {i : Nat} (hi : i < env.length) : bN sz (env.getD i []) := by
 rw [List.getD_eq_getElem?_getD, List.getElem?_eq_getElem hi]; exact h _ (List.getElem_mem hi)
theorem iP {env : List (List Int)} {i : Nat} (hi : i < env.length) : env[i]? = some (env.getD i []) := by
 rw [List.getD_eq_getElem?_getD, List.getElem?_eq_getElem hi]; rfl
theorem dT {p : aE} {funcs vars : Int} {e : aC} (hok : e.ok p funcs vars) (hk : ¬ (e.aP = 10 ∨ e.aP = 11)) : dR e.aP = e.aN.length := ((dO hk).1 ((aC.dB _ _ _ _).1 hok).1).1
theorem eY {p : aE} {funcs vars : Int} {e : aC} (hok : e.ok p funcs vars) (hk : ¬ e.aP = 9) : ∀ x ∈ e.aN, x.ok p funcs vars := fun x hx => by
 obtain ⟨i, hi, rfl⟩ := List.mem_iff_getElem.1 hx
 have := ((aC.dB _ _ _ _).1 hok).2 i hi
 rwa [hJ (fun q => hk q.1)] at this
structure bGO (p : aE) (e : aC) (f : aT) : Prop where
 get : p.aI[e.bC.toNat]? = some f
 lo : 0 ≤ e.bC
 hi : e.bC < p.aI.length
 pk : 0 ≤ e.cR
 pk2 : e.cR.toNat < f.aQ.length
 kids : (e.aN.length : Int) = f.aW
 params : 0 ≤ f.aW ∧ f.aW ≤ 12
 outs : 1 ≤ f.aQ.length ∧ f.aQ.length ≤ 12
 oks : ∀ x ∈ f.aQ, x.ok p e.bC f.aW
 eq : p.outs e.bC = f.aQ
 out : f.aQ[e.cR.toNat]? = some (p.out e.bC e.cR)
 loop : e.aP = 11 → 0 ≤ e.cD ∧ e.cD ≤ 8 ∧ (f.aQ.length : Int) = f.aW
theorem m6 {p : aE} (hp : p.ok) {e : aC} {funcs vars : Int} (hok : e.ok p funcs vars) (hf : funcs ≤ p.aI.length) (hk : e.aP = 10 ∨ e.aP = 11) : ∃ f, bGO p e f := by
 have h1 := ((aC.dB _ _ _ _).1 hok).1
 have h2 := h1
 unfold l6 at h1
 rw [if_pos hk] at h1
 have hlt : e.bC.toNat < p.aI.length := by omega
 have ef : p.aI[e.bC.toNat]? = some p.aI[e.bC.toNat] := List.getElem?_eq_getElem hlt
 rw [rS hk ef] at h2
 obtain ⟨n1, n2, n3, n4, n5, n6, n7⟩ := h2
 have hF := hp.2 _ _ ef
 have heq : p.outs e.bC = p.aI[e.bC.toNat].aQ := by rw [aE.outs, ef]; rfl
 refine ⟨_, ⟨ef, n1, by omega, n3, by omega, n5, hF.2.1, by have := hF.2.2.1; omega, fun x hx => ?_, heq, ?_, n7⟩⟩
 ·have := (hF.2.2.2.2.2 x hx).2.2.2.2
  rwa [show ((e.bC.toNat : Nat) : Int) = e.bC by omega] at this
 ·rw [aE.out, heq, List.getD_eq_getElem?_getD, List.getElem?_eq_getElem (by omega)]; rfl
def aD3 {α : Type} (X : Out α) : Prop := ∀ c, X = .error c → c = 6 ∨ c = 7
theorem aD3.ok {α : Type} {v : α} {t : Nat} : aD3 (.ok (v, t) : Out α) := fun c h => by cases h
theorem aD3.then {α β : Type} {X : Out α} {F : α → Nat → Out β} (h : aD3 X) (hf : ∀ v t, aD3 (F v t)) : aD3 (X.andThen F) := fun c hc => by
 cases X with
 |ok p => exact hf p.1 p.2 c hc
 |error d => exact h c (by cases hc; rfl)
theorem aCC {ev : Nat → aC → Out (List Int)} (h : ∀ t e, aD3 (ev t e)) : ∀ (l : List aC) (t : Nat), aD3 (lS ev l t)
 | [], t => .ok
 |e :: l, t => (h t e).then fun v t => (aCC h l t).then fun vs t => .ok
theorem aHN {f : List (List Int) → Nat → Out (List (List Int))} (h : ∀ vs t, aD3 (f vs t)) : ∀ (n : Nat) (vs : List (List Int)) (t : Nat), aD3 (pQ f n vs t)
 |0, vs, t => .ok
 |n + 1, vs, t => (h vs t).then fun a t => aHN h n a t
theorem a2B (k : Int) (vs : List (List Int)) (t : Nat) : aD3 (opE k vs t) := by
 unfold opE
 repeat' split
 all_goals first | exact .ok | (intro c h; cases h; exact .inl rfl)
theorem aS2 (p : aE) (sz : Nat) : ∀ (n t : Nat) (e : aC) (env : List (List Int)), aD3 (iY p sz n t e env)
 |0, t, e, env => fun c h => by rw [iY] at h; cases h; exact .inr rfl
 |n + 1, t, e, env => by
  have ih := aS2 p sz n
  rw [iY]
  split
  ·intro c h; cases h; exact .inr rfl
  split
  ·exact .ok
  split
  ·exact .ok
  split
  ·refine (ih _ _ _).then fun v t => ?_
   split
   ·exact ih _ _ _
   ·exact ih _ _ _
  split
  ·exact (ih _ _ _).then fun v t => ih _ _ _
  refine (aCC (fun t e => ih t e env) _ _).then fun vs t => ?_
  split
  ·exact ih _ _ _
  split
  ·exact (aHN (fun vs t => aCC (fun t e => ih t e vs) _ t) _ _ _).then fun vs t => .ok
  ·exact a2B _ _ _
theorem aCD (p : aE) (sz : Nat) (f : Int) (args : List (List Int)) : aD3 (vC p sz f args) := aCC (fun t e => aS2 p sz 3001 t e args) _ _
def okP {α : Type} (P : α → Prop) (X : Out α) : Prop := ∀ v u, X = .ok (v, u) → P v
theorem okP.then {α β : Type} {P : α → Prop} {Q : β → Prop} {X : Out α} {F : α → Nat → Out β} (h : okP P X) (hf : ∀ v t, P v → okP Q (F v t)) : okP Q (X.andThen F) := fun w u hw => by
 cases X with
 |ok p => obtain ⟨v, t⟩ := p; exact hf v t (h v t rfl) w u hw
 |error c => cases hw
theorem okP.pure {α : Type} {P : α → Prop} {v : α} {t : Nat} (h : P v) : okP P (.ok (v, t)) := fun w u e => by cases e; exact h
theorem okP.err {α : Type} {P : α → Prop} {c : Int} : okP P (.error c : Out α) := fun w u e => by cases e
def aVB (sz n : Nat) (l : List (List Int)) : Prop := l.length = n ∧ ∀ s ∈ l, bN sz s
theorem v7 {ev : Nat → aC → Out (List Int)} {sz : Nat} : ∀ (l : List aC) (t : Nat), (∀ e ∈ l, ∀ t, okP (bN sz) (ev t e)) → okP (aVB sz l.length) (lS ev l t)
 | [], t, _ => okP.pure ⟨rfl, by simp⟩
 |e :: l, t, h => (h e List.mem_cons_self t).then fun v t hv => (v7 l t fun x hx => h x (List.mem_cons_of_mem _ hx)).then fun vs t hvs => okP.pure ⟨by rw [List.length_cons, hvs.1]; rfl, fun s hs => by
   rcases List.mem_cons.1 hs with rfl | hs
   ·exact hv
   ·exact hvs.2 s hs⟩
theorem aJL {f : List (List Int) → Nat → Out (List (List Int))} {P : List (List Int) → Prop} (h : ∀ vs t, P vs → okP P (f vs t)) : ∀ (n : Nat) (vs : List (List Int)) (t : Nat), P vs → okP P (pQ f n vs t)
 |0, vs, t, hv => okP.pure hv
 |n + 1, vs, t, hv => (h vs t hv).then fun a t ha => aJL h n a t ha
theorem aVB.get {sz n i : Nat} {l : List (List Int)} (h : aVB sz n l) (hi : i < n) : bN sz (l.getD i []) := by
 rw [List.getD_eq_getElem?_getD, List.getElem?_eq_getElem (by rw [h.1]; exact hi)]; exact h.2 _ (List.getElem_mem _)
theorem rA {p : aE} {e : aC} {vars funcs : Int} (h : l6 p e vars funcs) : e.aP = 1 ∨ e.aP = 2 ∨ e.aP = 3 ∨ e.aP = 4 ∨ e.aP = 5 ∨ e.aP = 6 ∨ e.aP = 7 ∨ e.aP = 8 ∨ e.aP = 9 ∨ e.aP = 10 ∨ e.aP = 11 := by
 by_cases hk : e.aP = 10 ∨ e.aP = 11
 ·omega
 ·have h1 := ((dO hk).1 h).1
  unfold dR at h1
  repeat' (split at h1)
  all_goals omega
theorem aS3 {p : aE} (hp : p.ok) {sz : Nat} (hsz : 1 ≤ sz) : ∀ (n t : Nat) (e : aC) (env : List (List Int)) (funcs : Int), e.ok p funcs env.length → funcs ≤ p.aI.length → (∀ s ∈ env, bN sz s) → okP (bN sz) (iY p sz n t e env)
 |0, t, e, env, funcs, _, _, _ => okP.err
 |n + 1, t, e, env, funcs, hok, hf, henv => by
  have ih := aS3 hp hsz n
  have hnode := ((aC.dB _ _ _ _).1 hok).1
  by_cases h3 : t = 3000
  ·rw [iY, if_pos h3]; exact okP.err
  rcases rA hnode with hk | hk | hk | hk | hk | hk | hk | hk | hk | hk | hk
  ·rw [aO0 h3 hk]; exact okP.pure (eX (((dO (by omega)).1 hnode).2.2.2.1 hk))
  ·rw [aO1 h3 hk]
   have := ((dO (by omega)).1 hnode).2.2.2.2.1 hk
   exact okP.pure (iV henv (by omega))
  iterate 5
   ·have hlen := dT hok (by omega)
    rw [hk] at hlen
    rw [oU h3 (by omega)]
    refine (v7 _ _ fun x hx t => ih t x env funcs (eY hok (by omega) x hx) hf henv).then fun vs t hv => ?_
    have h0 := hv.get (i := 0) (by unfold dR at hlen; simp at hlen; omega)
    rw [hk]
    unfold opE
    first
    |exact okP.pure (fS _ h0)
    |(have h1 := hv.get (i := 1) (by unfold dR at hlen; simp at hlen; omega); first | exact okP.pure (q0 h0 h1) | exact okP.pure (zM h0 h1) | exact okP.pure (hH _ h0) | (simp only [if_neg (show ¬ (6 : Int) = 3 by decide), if_neg (show ¬ (6 : Int) = 4 by decide), if_neg (show ¬ (6 : Int) = 5 by decide), if_neg (show ¬ (6 : Int) = 7 by decide)]; split; exact okP.err; exact okP.pure (pR _ h0)))
  ·have hlen := dT hok (by omega)
   rw [hk, show dR 8 = 3 from rfl] at hlen
   have o0 := aC.eP hok (i := 0) (by omega)
   have o1 := aC.eP hok (i := 1) (by omega)
   have o2 := aC.eP hok (i := 2) (by omega)
   rw [hJ (by omega)] at o0 o1 o2
   rw [aHM h3 hk]
   refine (ih _ _ _ _ o0 hf henv).then fun c t hc => ?_
   split
   ·exact ih _ _ _ _ o1 hf henv
   ·exact ih _ _ _ _ o2 hf henv
  ·have hlen := dT hok (by omega)
   rw [hk, show dR 9 = 2 from rfl] at hlen
   have o0 := aC.eP hok (i := 0) (by omega)
   have o1 := aC.eP hok (i := 1) (by omega)
   rw [hJ (by omega)] at o0
   rw [hk, show iX 9 1 (env.length : Int) = env.length + 1 from rfl] at o1
   rw [aO2 h3 hk]
   refine (ih _ _ _ _ o0 hf henv).then fun v t hv => ih _ _ _ _ (by rw [List.length_append]; exact o1) hf fun s hs => ?_
   rcases List.mem_append.1 hs with hs | hs
   ·exact henv s hs
   ·rw [List.mem_singleton.1 hs]; exact hv
  ·obtain ⟨f, F⟩ := m6 hp hok hf (.inl hk)
   have f2 := F.hi
   have f4 := F.pk2
   rw [aD1 h3 hk]
   refine (v7 _ _ fun x hx t => ih t x env funcs (eY hok (by omega) x hx) hf henv).then fun vs t hv => ?_
   exact ih _ _ _ e.bC (by rw [hv.1, F.kids]; exact F.oks _ (List.mem_of_getElem? F.out)) (by omega) hv.2
  ·obtain ⟨f, F⟩ := m6 hp hok hf (.inr hk)
   have f2 := F.hi
   have f4 := F.pk2
   have f9 := F.loop hk
   rw [aD2 h3 hk]
   refine (v7 _ _ fun x hx t => ih t x env funcs (eY hok (by omega) x hx) hf henv).then fun vs t hv => ?_
   refine (aJL (P := aVB sz f.aQ.length) (fun us u hu => ?_) _ _ _ ⟨by have := hv.1; have := F.kids; omega, hv.2⟩).then fun us u hu => okP.pure (hu.get f4)
   rw [F.eq]
   exact v7 _ _ fun x hx t => ih t x us e.bC (by rw [hu.1, f9.2.2]; exact F.oks x hx) (by omega) hu.2
theorem kR {p : aE} (hp : p.ok) {f : Int} (hf : 0 ≤ f ∧ f < p.aI.length) : ∃ F, p.aI[f.toNat]? = some F ∧ (1 ≤ F.aQ.length ∧ F.aQ.length ≤ 12) ∧ (0 ≤ F.aW ∧ F.aW ≤ 12) ∧ p.outs f = F.aQ ∧ ∀ x ∈ F.aQ, x.ok p f F.aW := by
 have hlt : f.toNat < p.aI.length := by omega
 have ef : p.aI[f.toNat]? = some p.aI[f.toNat] := List.getElem?_eq_getElem hlt
 have hF := hp.2 _ _ ef
 refine ⟨_, ef, by have := hF.2.2.1; omega, hF.2.1, by rw [aE.outs, ef]; rfl, fun x hx => ?_⟩
 have := (hF.2.2.2.2.2 x hx).2.2.2.2
 rwa [show ((f.toNat : Nat) : Int) = f by omega] at this
theorem aCF {p : aE} (hp : p.ok) {sz : Nat} (hsz : 1 ≤ sz) (f : Int) (hf : 0 ≤ f ∧ f < p.aI.length) (args : List (List Int)) (ha : ∀ s ∈ args, bN sz s) (hl : ∀ F, p.aI[f.toNat]? = some F → (args.length : Int) = F.aW) : okP (fun l => aVB sz (p.outs f).length l) (vC p sz f args) := by
 obtain ⟨F, ef, hF1, hF2, hF3, hF4⟩ := kR hp hf
 exact v7 _ _ fun x hx t => aS3 hp hsz _ _ x args f (by rw [hl F ef]; exact hF4 x (by rw [← hF3]; exact hx)) (by omega) ha
set_option maxRecDepth 100000
open Go.Proofs
set_option linter.unusedVariables false
set_option linter.unusedSimpArgs false
@[go_sem] def aS5 : List Nat := [0, 1, 4, 5, 6, 11, 12, 13]
@[go_sem] def a6L : List Nat := []
@[go_sem] def a6M : Marks := fun _ => ([], .nil, [])
theorem a2C (a : List Int) (m : Int) (hm : jA m) (hl : a.length ≤ 1048576) (ha : eD a) : x9 Tryz.prog 109 [eZ 1 (fun n => [I n]) a, I m] (QS (OS (oP I) 1 (lY a m))) := by
 refine yA 27 aS5 a6L a6M mix Tryz.func109 rfl (by kernel_rfl) (by simp) fun h => ?_
 simp -dsimp -implicitDefEqProofs only [go_sem, ↓reduceIte, Tryz.f109]
 intro _
 refine ⟨Nat.zero_lt_one, Nat.le_refl _, by omega, by omega, fun n hn _ => ?_⟩
 have hc := tK a m
 rw [rL]
 refine tX (keep := aS5) (ib := a6L) (mk := a6M) mix (by kernel_rfl) (fun k : Nat => [(0, eZ 1 (fun n => [I n]) a), (1, I m), (5, .os n 1 0 a.length), (11, I a.length), (12, I k)]) n (fun k => .row 1 (((upL (lY a m) k).map fun n => [I n]).map (List.map .v))) (fun k => k ≤ a.length) (fun k => a.length - k) 0 ⟨by simp [cV, bZ], by rw [aG, aB5, hc], Nat.zero_le _⟩ ?_
 intro k hk
 rcases Nat.lt_or_ge k a.length with hlt | hge
 ·have ea : a[k]? = some a[k] := List.getElem?_eq_getElem hlt
  have eu := aFJ (c := lY a m) (k := k) (by omega)
  have el := aFI (lY a m) (k := k) (by omega)
  simp -dsimp -implicitDefEqProofs only [go_sem, ↓reduceIte, Tryz.f109, aK, hlt, ea, eu, el, hc]
  have h1 := num_mul (ha _ (List.getElem_mem hlt)) hm
  refine ⟨k + 1, by rw [IntWalk.i64_in _ (by omega)]; rfl, ?_, by omega, by omega⟩
  have hv : (lY a m)[k]'(by omega) = a[k] * m % 1000003 := by simp [lY]
  rw [aQ2 h1.1 (by omega), ← aFK (by omega), hv, ← vB I]
  exact aB.le_refl _
 ·have hk' : k = a.length := by omega
  subst hk'
  simp -dsimp -implicitDefEqProofs only [go_sem, ↓reduceIte, Tryz.f109, aK, Nat.lt_irrefl]
  have hu : upL (lY a m) a.length = lY a m := by rw [← hc]; exact aFH _
  rw [hu, show a.length = (lY a m).length from hc.symm]
  exact w6 hn
theorem aAN {P : Program} {f : FuncId} {args : List aD} {l : List Int} (a : x9 P f args (QS (OS (oP I) 1 l))) : fL P f args (eZ 1 (fun n => [I n]) l) := QS.eQ a (fun y hy => OS.qW (c := fun n => [I n]) (fun _ _ q => yW q) hy)
theorem scaled (a : List Int) (m : Int) (hm : jA m) (hl : a.length ≤ 1048576) (ha : eD a) : fL Tryz.prog 109 [eZ 1 (fun n => [I n]) a, I m] (eZ 1 (fun n => [I n]) (lY a m)) := aAN (a2C a m hm hl ha)
theorem a9O (a b : List Int) (hab : b.length = a.length) (hl : a.length ≤ 1048576) (ha : eD a) (hb : eD b) : fL Tryz.prog 69 [eZ 1 (fun n => [I n]) a, eZ 1 (fun n => [I n]) b] (eZ 1 (fun n => [I n]) (j5 a b)) := aAN (added a b hab hl (rM ha) (rM hb))
@[go_sem] def a2D : List Nat := [0, 1, 4]
@[go_sem] def bGP : List Nat := []
@[go_sem] def bGQ : Marks := fun _ => ([], .nil, [])
theorem aX7 (a b : List Int) (hab : b.length = a.length) (hl : a.length ≤ 1048576) (ha : eD a) (hb : eD b) : x9 Tryz.prog 107 [eZ 1 (fun n => [I n]) a, eZ 1 (fun n => [I n]) b] (QS (OS (oP I) 1 (aLC a b))) := by
 refine yA 9 a2D bGP bGQ mix Tryz.func107 rfl (by kernel_rfl) (by simp) fun h => ?_
 simp -dsimp -implicitDefEqProofs only [go_sem, ↓reduceIte, Tryz.f107]
 first | refine aH.mk (scaled b 1000002 (by unfold jA; omega) (by omega) hb) ?_ | refine aF.mk (scaled b 1000002 (by unfold jA; omega) (by omega) hb) ?_ | refine aH.bS (scaled b 1000002 (by unfold jA; omega) (by omega) hb) ?_ | refine aF.mk (bM.eQ (scaled b 1000002 (by unfold jA; omega) (by omega) hb)) ?_
 simp -dsimp -implicitDefEqProofs only [go_sem, ↓reduceIte, Tryz.f107]
 refine aH.wn0 (added a (lY b 1000002) (by rw [tK]; exact hab) hl (rM ha) (rM (fS _ ⟨rfl, hb⟩).2)) ?_
 rintro r l g ⟨y, oy, rfl, rfl⟩ wn
 simp -dsimp -implicitDefEqProofs only [go_sem, ↓reduceIte, Tryz.f107, oy.flat, oy.one]
 exact ⟨_, g, _, bI _ _, ⟨y, oy, rfl, rfl⟩, wn⟩
theorem reduced (a b : List Int) (hab : b.length = a.length) (hl : a.length ≤ 1048576) (ha : eD a) (hb : eD b) : fL Tryz.prog 107 [eZ 1 (fun n => [I n]) a, eZ 1 (fun n => [I n]) b] (eZ 1 (fun n => [I n]) (aLC a b)) := aAN (aX7 a b hab hl ha hb)
@[go_sem] def a2E : List Nat := [0, 1, 4]
@[go_sem] def bGR : List Nat := []
@[go_sem] def bGS : Marks := fun _ => ([], .nil, [])
theorem minus (a b : Int) : fL Tryz.prog 130 [I a, I b] (I ((a - b) % 1000003)) := by
 refine fT 10 a2E bGR bGS mix Tryz.func130 rfl (by kernel_rfl) (by simp) fun h => ?_
 simp -dsimp -implicitDefEqProofs only [go_sem, ↓reduceIte, Tryz.f130]
 first | refine aH.mk (h8 b) ?_ | refine aF.mk (h8 b) ?_ | refine aH.bS (h8 b) ?_ | refine aF.mk (bM.eQ (h8 b)) ?_
 simp -dsimp -implicitDefEqProofs only [go_sem, ↓reduceIte, Tryz.f130]
 rw [IntWalk.i64_in _ (by omega)]
 first | refine aH.mk (aDY a (1000003 - b % 1000003)) ?_ | refine aF.mk (aDY a (1000003 - b % 1000003)) ?_ | refine aH.bS (aDY a (1000003 - b % 1000003)) ?_ | refine aF.mk (bM.eQ (aDY a (1000003 - b % 1000003))) ?_
 simp -dsimp -implicitDefEqProofs only [go_sem, ↓reduceIte, Tryz.f130]
 omega
@[go_sem] def aLE : List Nat := [0, 1, 4, 5, 6, 7, 12, 13, 14, 18]
@[go_sem] def aX8 : List Nat := []
@[go_sem] def aX9 : Marks := fun id => match id with | 8 => ([5, 20], (.op 0 (.op 1 (.op 2 (.op 3 (.op 4 (.op 6 (.op 7 (.op 8 (.op 9 (.op 10 (.op 11 (.op 12 (.op 13 (.op 14 (.op 15 (.op 16 (.op 5 (.op 17 (.op 18 (.op 19 (.op 20 .nil))))))))))))))))))))), []) | _ => ([], .nil, [])
theorem aYA (a b : List Int) (hab : b.length = a.length) (hl : a.length ≤ 1048576) (ha : eD a) (hb : eD b) : x9 Tryz.prog 108 [eZ 1 (fun n => [I n]) a, eZ 1 (fun n => [I n]) b] (QS (OS (oP I) 1 (mulL a b))) := by
 refine yA 43 aLE aX8 aX9 mix Tryz.func108 rfl (by kernel_rfl) (by simp) fun h => ?_
 simp -dsimp -implicitDefEqProofs only [go_sem, ↓reduceIte, Tryz.f108]
 intro _
 refine ⟨Nat.zero_lt_one, Nat.le_refl _, by omega, by omega, fun n hn _ => ?_⟩
 have hc := aOZ a b
 rw [rL]
 refine tX (keep := aLE) (ib := aX8) (mk := aX9) mix (by kernel_rfl) (fun k : Nat => [(0, eZ 1 (fun n => [I n]) a), (1, eZ 1 (fun n => [I n]) b), (5, .os n 1 0 a.length), (12, I a.length), (13, I k)]) n (fun k => .row 1 (((upL (mulL a b) k).map fun n => [I n]).map (List.map .v))) (fun k => k ≤ a.length) (fun k => a.length - k) 0 ⟨by simp [cV, bZ], by rw [aG, aB5, hc], Nat.zero_le _⟩ ?_
 intro k hk
 rcases Nat.lt_or_ge k a.length with hlt | hge
 ·simp -dsimp -implicitDefEqProofs only [go_sem, ↓reduceIte, Tryz.f108, aK, hlt]
  refine tX (keep := aLE) (ib := aX8) (mk := aX9) mix (by kernel_rfl) (fun i : Nat => [(0, eZ 1 (fun n => [I n]) a), (1, eZ 1 (fun n => [I n]) b), (5, .os n 1 0 a.length), (6, I k), (7, I i), (12, I a.length), (13, I k)]) n (fun i => .row 1 ((((upL (mulL a b) k).set k (cvS a b k i)).map fun n => [I n]).map (List.map .v))) (fun i => i ≤ k + 1) (fun i => k + 1 - i) 0 ⟨by simp [cV, bZ], by rw [aG, cvS, aX6 (by omega)], Nat.zero_le _⟩ ?_
  intro i hi
  have el : ((upL (mulL a b) k).set k (cvS a b k i)).length = a.length := by rw [List.length_set, aFI _ (by omega), hc]
  have eu : ((upL (mulL a b) k).set k (cvS a b k i))[k]? = some (cvS a b k i) := by rw [List.getElem?_set_self (by rw [List.length_set] at el; omega)]
  rcases Nat.lt_or_ge i (k + 1) with kJ | aE6
  ·have ea := dS (l := a) (i := i) (by omega)
   have eb := dS (l := b) (i := k - i) (by omega)
   have ew : IntKind.i64.wrap ((k : Int) - (i : Int)) = ((k - i : Nat) : Int) := by rw [IntWalk.i64_in _ (by omega)]; omega
   simp -dsimp -implicitDefEqProofs only [go_sem, ↓reduceIte, Tryz.f108, aK, hlt, ea, eb, eu, el, hc, ew]
   refine ⟨fun _ => ⟨by omega, by omega, i + 1, by rw [IntWalk.i64_in _ (by omega)]; rfl, ?_, by omega, by omega⟩, fun q => absurd (by omega) q⟩
   have h1 := num_mul (ha.get i) (hb.get (k - i))
   have h2 := aXY a b k i
   unfold jA at h2
   rw [IntWalk.i64_in (a.getD i 0 * b.getD (k - i) 0) (by omega), aQ2 (by omega) (by omega), show (upL (mulL a b) k).set k (cvS a b k (i + 1)) = ((upL (mulL a b) k).set k (cvS a b k i)).set k ((cvS a b k i + a.getD i 0 * b.getD (k - i) 0) % 1000003) by rw [List.set_set, cvS], ← vB I]
   exact aB.le_refl _
  ·have hi' : i = k + 1 := by omega
   subst hi'
   simp -dsimp -implicitDefEqProofs only [go_sem, ↓reduceIte, Tryz.f108, aK, hlt]
   refine ⟨fun q => absurd q (by omega), fun _ => ⟨k + 1, by rw [IntWalk.i64_in _ (by omega)]; rfl, ?_, by omega, by omega⟩⟩
   have hv : (mulL a b)[k]'(by omega) = cvS a b k (k + 1) := by simp [mulL]
   rw [← hv, aFK (by omega)]
   exact aB.le_refl _
 ·have hk' : k = a.length := by omega
  subst hk'
  simp -dsimp -implicitDefEqProofs only [go_sem, ↓reduceIte, Tryz.f108, aK, Nat.lt_irrefl]
  have hu : upL (mulL a b) a.length = mulL a b := by rw [← hc]; exact aFH _
  rw [hu, show a.length = (mulL a b).length from hc.symm]
  exact w6 hn
theorem product (a b : List Int) (hab : b.length = a.length) (hl : a.length ≤ 1048576) (ha : eD a) (hb : eD b) : fL Tryz.prog 108 [eZ 1 (fun n => [I n]) a, eZ 1 (fun n => [I n]) b] (eZ 1 (fun n => [I n]) (mulL a b)) := aAN (aYA a b hab hl ha hb)
@[go_sem] def aS6 : List Nat := [0, 1, 4, 5, 6, 8, 12, 17]
@[go_sem] def a6N : List Nat := []
@[go_sem] def a6O : Marks := fun _ => ([], .nil, [])
theorem Power (a n : Int) (hn : 0 ≤ n) (hn2 : n ≤ 4294967296) : fL Tryz.prog 155 [I a, I n] (I (pwN (a % 1000003) n.toNat)) := by
 refine fT 27 aS6 a6N a6O mix Tryz.func155 rfl (by kernel_rfl) (by simp) fun h => ?_
 simp -dsimp -implicitDefEqProofs only [go_sem, ↓reduceIte, Tryz.f155]
 refine ⟨fun q => absurd q (by omega), fun _ => ?_⟩
 first | refine aH.mk (h8 a) ?_ | refine aF.mk (h8 a) ?_ | refine aH.bS (h8 a) ?_ | refine aF.mk (bM.eQ (h8 a)) ?_
 simp -dsimp -implicitDefEqProofs only [go_sem, ↓reduceIte, Tryz.f155]
 generalize hT : pwN (a % 1000003) n.toNat = T
 refine oY (keep := aS6) (ib := a6N) (mk := a6O) mix (by kernel_rfl) (fun x : Int × Int × Int => [(1, I x.2.2), (5, I x.1), (6, I x.2.1)]) (fun x => (0 ≤ x.1 ∧ x.1 < 1000003) ∧ (0 ≤ x.2.1 ∧ x.2.1 < 1000003) ∧ (0 ≤ x.2.2 ∧ x.2.2 ≤ 4294967296) ∧ x.1 * x.2.1 ^ x.2.2.toNat % 1000003 = T) (fun x => x.2.2.toNat) (1, a % 1000003, n) ⟨by simp [cV, bZ], ⟨by simp, by simp⟩, aOX _, ⟨hn, hn2⟩, by rw [Int.one_mul]; exact hT⟩ ?_
 rintro ⟨x, b, m⟩ ⟨hx, hb, hm, hp⟩
 simp only at hx hb hm hp ⊢
 simp -dsimp -implicitDefEqProofs only [go_sem, ↓reduceIte, Tryz.f155]
 have h1 := num_mul (x := x) (y := b) (by unfold jA; omega) (by unfold jA; omega)
 have h2 := num_mul (x := b) (y := b) (by unfold jA; omega) (by unfold jA; omega)
 rw [Int.tmod_eq_emod_of_nonneg hm.1, Int.tdiv_eq_ediv_of_nonneg hm.1, IntWalk.i64_in (m / 2) (by omega), aQ2 h1.1 (by omega), aQ2 h2.1 (by omega)]
 refine ⟨fun hg => ⟨fun ho => ⟨(x * b % 1000003, b * b % 1000003, m / 2), ⟨rfl, rfl, rfl⟩, ⟨aOX _, aOX _, (show 0 ≤ m / 2 ∧ m / 2 ≤ 4294967296 by omega), aX5 hm.1 ho hp⟩, by simp only; omega⟩, fun ho => ⟨(x, b * b % 1000003, m / 2), ⟨rfl, rfl, rfl⟩, ⟨hx, aOX _, (show 0 ≤ m / 2 ∧ m / 2 ≤ 4294967296 by omega), aS0 hm.1 ho hp⟩, by simp only; omega⟩⟩, fun hg => ?_⟩
 have : m.toNat = 0 := by omega
 rw [this, aSZ x b hx] at hp
 exact hp
@[go_sem] def a2F : List Nat := [0, 2]
@[go_sem] def bGU : List Nat := []
@[go_sem] def bGV : Marks := fun _ => ([], .nil, [])
theorem uC (a : Int) : fL Tryz.prog 129 [I a] (I (o5 a)) := by
 refine fT 5 a2F bGU bGV mix Tryz.func129 rfl (by kernel_rfl) (by simp) fun h => ?_
 simp -dsimp -implicitDefEqProofs only [go_sem, ↓reduceIte, Tryz.f129]
 first | refine aH.mk (Power a 1000001 (by decide) (by decide)) ?_ | refine aF.mk (Power a 1000001 (by decide) (by decide)) ?_ | refine aH.bS (Power a 1000001 (by decide) (by decide)) ?_ | refine aF.mk (bM.eQ (Power a 1000001 (by decide) (by decide))) ?_
 simp -dsimp -implicitDefEqProofs only [go_sem, ↓reduceIte, Tryz.f129]
 rfl
@[go_sem] def aLF : List Nat := [0, 1, 4, 5, 6, 7, 8, 9, 18, 19, 20, 28]
@[go_sem] def aYB : List Nat := []
@[go_sem] def aYC : Marks := fun id => match id with | 1 => ([2], (.op 0 (.op 1 (.op 3 (.op 4 (.op 5 (.op 6 (.op 2 (.op 7 (.op 8 .nil))))))))), []) | 9 => ([4], (.op 0 (.op 1 (.op 2 (.op 3 (.op 5 (.op 6 (.op 7 (.op 8 (.op 9 (.op 10 (.op 4 (.op 11 (.op 12 (.op 13 .nil)))))))))))))), []) | _ => ([], .nil, [])
theorem aVC (a b : List Int) (hab : b.length = a.length) (hl : a.length ≤ 1048576) (h0 : 0 < a.length) (ha : eD a) (hb : eD b) : x9 Tryz.prog 110 [eZ 1 (fun n => [I n]) a, eZ 1 (fun n => [I n]) b] (QS (OS (oP I) 1 (lA a b))) := by
 have e0 : b[Int.toNat 0]? = some (b.getD 0 0) := dS (l := b) (i := 0) (by omega)
 refine yA 53 aLF aYB aYC mix Tryz.func110 rfl (by kernel_rfl) (by simp) fun h => ?_
 simp -dsimp -implicitDefEqProofs only [go_sem, ↓reduceIte, Tryz.f110, e0]
 refine ⟨by omega, ?_⟩
 first | refine aH.mk (uC (b.getD 0 0)) ?_ | refine aF.mk (uC (b.getD 0 0)) ?_ | refine aH.bS (uC (b.getD 0 0)) ?_ | refine aF.mk (bM.eQ (uC (b.getD 0 0))) ?_
 simp -dsimp -implicitDefEqProofs only [go_sem, ↓reduceIte, Tryz.f110]
 refine ⟨Nat.zero_lt_one, Nat.le_refl _, by omega, by omega, fun n hn _ => ?_⟩
 have hc := vZ a b
 rw [rL]
 refine tX (keep := aLF) (ib := aYB) (mk := aYC) mix (by kernel_rfl) (fun k : Nat => [(0, eZ 1 (fun n => [I n]) a), (1, eZ 1 (fun n => [I n]) b), (5, .os n 1 0 a.length), (6, I (o5 (b.getD 0 0))), (18, I a.length), (19, I k)]) n (fun k => .row 1 (((upL (lA a b) k).map fun n => [I n]).map (List.map .v))) (fun k => k ≤ a.length) (fun k => a.length - k) 0 ⟨by simp [cV, bZ], by rw [aG, aB5, hc], Nat.zero_le _⟩ ?_
 intro k hk
 rcases Nat.lt_or_ge k a.length with hlt | hge
 ·have ek := dS hlt
  simp -dsimp -implicitDefEqProofs only [go_sem, ↓reduceIte, Tryz.f110, aK, hlt, ek]
  refine oY (keep := aLF) (ib := aYB) (mk := aYC) mix (by kernel_rfl) (fun i : Nat => [(0, eZ 1 (fun n => [I n]) a), (1, eZ 1 (fun n => [I n]) b), (5, .os n 1 0 a.length), (6, I (o5 (b.getD 0 0))), (7, I k), (8, I (dvS (kM a b k) b k (a.getD k 0) i)), (9, I i), (18, I a.length), (19, I k)]) (fun i => i ≤ k) (fun i => k - i) 0 ⟨by simp [cV, bZ, dvS], Nat.zero_le _⟩ ?_
  intro i hi
  have el := aFI (lA a b) (k := k) (by omega)
  have eu := aFJ (c := lA a b) (k := k) (by omega)
  rcases Nat.lt_or_ge i k with kJ | aE6
  ·have ei := aEY (a := a) (b := b) (i := i) hk kJ
   have eb := dS (l := b) (i := k - i) (by omega)
   have ew : IntKind.i64.wrap ((k : Int) - (i : Int)) = ((k - i : Nat) : Int) := by rw [IntWalk.i64_in _ (by omega)]; omega
   simp -dsimp -implicitDefEqProofs only [go_sem, ↓reduceIte, Tryz.f110, aK, kJ, ei, eb, el, hc, ew]
   have h1 := num_mul ((tJ a b k).get i) (hb.get (k - i))
   refine ⟨by omega, by omega, ?_⟩
   rw [IntWalk.i64_in _ (by omega)]
   first | refine aH.mk (minus (dvS (kM a b k) b k (a.getD k 0) i) ((kM a b k).getD i 0 * b.getD (k - i) 0)) ?_ | refine aF.mk (minus (dvS (kM a b k) b k (a.getD k 0) i) ((kM a b k).getD i 0 * b.getD (k - i) 0)) ?_ | refine aH.bS (minus (dvS (kM a b k) b k (a.getD k 0) i) ((kM a b k).getD i 0 * b.getD (k - i) 0)) ?_ | refine aF.mk (bM.eQ (minus (dvS (kM a b k) b k (a.getD k 0) i) ((kM a b k).getD i 0 * b.getD (k - i) 0))) ?_
   simp -dsimp -implicitDefEqProofs only [go_sem, ↓reduceIte, Tryz.f110, aK, kJ, ei, eb, el, hc, ew]
   exact ⟨i + 1, ⟨rfl, by rw [IntWalk.i64_in _ (by omega)]; rfl⟩, by omega, by omega⟩
  ·have hi' : i = k := by omega
   subst hi'
   simp -dsimp -implicitDefEqProofs only [go_sem, ↓reduceIte, Tryz.f110, aK, Nat.lt_irrefl, hlt, eu, el, hc]
   have h1 := num_mul (xB (kM a b i) b i (ha.get i) i) (num_inv (b.getD 0 0))
   refine ⟨i + 1, by rw [IntWalk.i64_in _ (by omega)]; rfl, ?_, by omega, by omega⟩
   rw [aQ2 h1.1 (by omega), ← aOY hlt, ← aFK (by omega), ← vB I]
   exact aB.le_refl _
 ·have hk' : k = a.length := by omega
  subst hk'
  simp -dsimp -implicitDefEqProofs only [go_sem, ↓reduceIte, Tryz.f110, aK, Nat.lt_irrefl]
  have hu : upL (lA a b) a.length = lA a b := by rw [← hc]; exact aFH _
  rw [hu, show a.length = (lA a b).length from hc.symm]
  exact w6 hn
theorem quotient (a b : List Int) (hab : b.length = a.length) (hl : a.length ≤ 1048576) (h0 : 0 < a.length) (ha : eD a) (hb : eD b) : fL Tryz.prog 110 [eZ 1 (fun n => [I n]) a, eZ 1 (fun n => [I n]) b] (eZ 1 (fun n => [I n]) (lA a b)) := aAN (aVC a b hab hl h0 ha hb)
theorem fH {h h' : aB} {n : Nat} (l : List Int) (h0 : h n = none) (hl : (aR h n (.row 1 ((l.map fun n => [I n]).map (List.map .v)))).le h') {len : Nat} (e : len = l.length) : Shift (.os n 1 0 len) h' (eZ 1 (fun n => [I n]) l) h :=
 zL (l.map fun n => [I n]) h0 hl len (by rw [List.length_map]; exact e)
theorem aA2 (n : Int) (sz : Nat) : (lP n sz).length = sz := by simp [lP]
theorem aLG {sz : Nat} {x : List aD} (h : 0 < sz) : (List.replicate sz x)[Int.toNat 0]? = some x := by
 show (List.replicate sz x)[0]? = some x
 rw [List.getElem?_replicate, if_pos h]
theorem aHO (n : Int) (sz : Nat) : ((List.replicate sz [aD.int .i64 0]).map (List.map Cell.v)).set 0 [Cell.v (I n)] = ((lP n sz).map fun n => [I n]).map (List.map .v) := by
 rw [rL, lP, vB I]
@[go_sem] def a2G : List Nat := [0, 1, 4, 5]
@[go_sem] def bGW : List Nat := []
@[go_sem] def bGX : Marks := fun _ => ([], .nil, [])
theorem lX (h : aB) (nb : Nat) (c0 c2 c3 : Cell) (n : Int) (sz : Nat) (hb : h nb = some (.row 4 [[c0, .v (I ((sz : Int) - 1)), c2, c3]])) (ho : 1 ≤ sz ∧ sz ≤ 1048576) : iH Tryz.prog 147 [.op nb 4 0 0, I n] h fun r h' => r = eZ 1 (fun n => [I n]) (lP n sz) ∧ h' = h := by
 have e1 : IntKind.i64.wrap ((sz : Int) - 1 + 1) = (sz : Int) := by rw [IntWalk.i64_in _ (by omega)]; omega
 have e2 := aLG (x := [aD.int .i64 0]) ho.1
 refine j4 16 a2G bGW bGX mix Tryz.func147 rfl (by kernel_rfl) (by simp) ?_
 simp -dsimp -implicitDefEqProofs only [go_sem, ↓reduceIte, Tryz.f147, hb, e1, Int.toNat_natCast, e2]
 refine ⟨Nat.zero_lt_one, by omega, by omega, by omega, fun m hm => ⟨by omega, ?_⟩⟩
 rw [aK, show Int.toNat 0 = 0 from rfl, aHO]
 exact ⟨_, h, fH _ hm (aB.le_refl _) (aA2 n sz).symm, rfl, rfl⟩
set_option maxRecDepth 100000
open Go.Proofs
set_option linter.unusedVariables false
set_option linter.unusedSimpArgs false
def dG (p : aE) (sz st : Nat) (c : Int) : bP := .row 4 [[.v (eZ 3 aT.c p.aI), .v (I ((sz : Int) - 1)), .v (I st), .v (I c)]]
abbrev c7 (l : List (List Int)) : aD := eZ 1 (fun s => [ints s]) l
def EvQ (h : aB) (nb : Nat) (p : aE) (sz st : Nat) (c : Int) (X : Out (List Int)) : aD → aB → Prop := fun r h' => ∃ s t c', r = ints s ∧ h' = aR h nb (dG p sz t c') ∧ bN sz s ∧ st ≤ t ∧ t ≤ 3000 ∧ jF (oT c X) s t c'
def bN6 (h : aB) (nb : Nat) (p : aE) (sz st : Nat) (c : Int) (n : Nat) (X : Out (List (List Int))) : aD → aB → Prop := fun r h' => ∃ l t c', r = c7 l ∧ h' = aR h nb (dG p sz t c') ∧ l.length = n ∧ (∀ s ∈ l, bN sz s) ∧ st ≤ t ∧ t ≤ 3000 ∧ jF (oT c X) l t c'
@[go_sem] def nU : List Nat := [0, 1, 2, 4, 6, 7, 8, 13, 20, 34, 35, 41, 48, 59, 74, 102, 106, 107, 126, 138, 159, 168, 177, 186, 197]
@[go_sem] def v8 : List Nat := [4, 90]
@[go_sem] def v9 : Marks := fun id => match id with | 17 => ([6, 13, 15, 16], (.op 0 (.op 1 (.op 2 (.op 3 (.op 4 (.op 5 (.op 7 (.op 8 (.op 9 (.op 10 (.op 11 (.op 12 (.op 6 (.op 13 (.op 14 (.op 15 (.op 16 (.op 17 .nil)))))))))))))))))), []) | 23 => ([5, 16], (.op 0 (.op 1 (.op 2 (.op 3 (.op 4 (.op 6 (.op 7 (.op 11 (.op 12 (.op 15 (.op 5 (.op 8 (.op 9 (.op 10 (.op 13 (.op 14 (.op 16 (.op 17 .nil)))))))))))))))))), []) | 28 => ([5, 12], (.op 0 (.op 1 (.op 2 (.op 3 (.op 4 (.op 6 (.op 7 (.op 11 (.op 5 (.op 8 (.op 9 (.op 10 (.op 12 (.op 13 .nil)))))))))))))), []) | 31 => ([6], (.op 0 (.op 1 (.op 2 (.op 3 (.op 4 (.op 5 (.op 6 (.op 7 .nil)))))))), []) | 33 => ([6], (.op 0 (.op 1 (.op 2 (.op 3 (.op 4 (.op 5 (.op 6 (.op 7 .nil)))))))), []) | 35 => ([6], (.op 0 (.op 1 (.op 2 (.op 3 (.op 4 (.op 5 (.op 6 (.op 7 .nil)))))))), []) | 41 => ([6], (.op 0 (.op 1 (.op 2 (.op 3 (.op 4 (.op 5 (.op 6 (.op 7 .nil)))))))), []) | _ => ([], .nil, [])
def nV (p : aE) (sz n : Nat) : Prop := ∀ (h : aB) (nb st : Nat) (c : Int) (e : aC) (env : List (List Int)) (funcs : Int), h nb = some (dG p sz st c) → st ≤ 3000 → 3001 ≤ n + st → e.ok p funcs env.length → 0 ≤ funcs → funcs ≤ p.aI.length → (∀ s ∈ env, bN sz s) → env.length ≤ 412 + st →
 iH Tryz.prog 118 [.op nb 4 0 0, .agg e.c, c7 env] h (EvQ h nb p sz st c (iY p sz n st e env))
@[go_sem] def aYD : List Nat := [0, 1, 2, 6, 7, 9, 11, 12, 13, 14]
@[go_sem] def bGY : List Nat := [10, 22]
@[go_sem] def bGZ : Marks := fun _ => ([], .nil, [])
theorem xC {p : aE} {sz n : Nat} (hv : nV p sz n) (h : aB) (nb st : Nat) (c : Int) (l : List aC) (env : List (List Int)) (funcs : Int) (hb : h nb = some (dG p sz st c)) (hst : st ≤ 3000) (hn : 3001 ≤ n + st)
  (hl : l.length ≤ 1048576) (hok : ∀ e ∈ l, e.ok p funcs env.length) (fN : 0 ≤ funcs) (hf : funcs ≤ p.aI.length) (henv : ∀ s ∈ env, bN sz s) (hel : env.length ≤ 412 + st) :
  iH Tryz.prog 92 [.op nb 4 0 0, eZ 5 aC.c l, c7 env] h (bN6 h nb p sz st c l.length (lS (fun t e => iY p sz n t e env) l st)) := by
 refine j4 26 aYD bGY bGZ mix Tryz.func92 rfl (by kernel_rfl) (by simp) ?_
 simp -dsimp -implicitDefEqProofs only [go_sem, ↓reduceIte, Tryz.f92]
 refine ⟨Nat.zero_lt_one, fun _ => ?_⟩
 refine cS (keep := aYD) (ib := bGY) (mk := bGZ) mix (by kernel_rfl) (fun x : Nat × List (List Int) × Nat × Int × Option Nat => [(0, .op nb 4 0 0), (2, c7 env), (7, jC 1 x.2.1.length x.2.2.2.2), (11, eZ 5 aC.c l), (12, I l.length), (13, I x.1)]) (fun x => cK (aR h nb (dG p sz x.2.2.1 x.2.2.2.1)) (.row 1 ((x.2.1.map fun s => [ints s]).map (List.map .v))) x.2.2.2.2) (fun x => x.1 ≤ l.length ∧ x.2.1.length = x.1 ∧ (∀ s ∈ x.2.1, bN sz s) ∧ st ≤ x.2.2.1 ∧ x.2.2.1 ≤ 3000 ∧ jF (oT c (lS (fun t e => iY p sz n t e env) (l.take x.1) st)) x.2.1 x.2.2.1 x.2.2.2.1 ∧ fK h x.2.1 x.2.2.2.2) (fun x => l.length - x.1) (0, [], st, c, none) ⟨by simp [cV, bZ, jC], by simp only [aO]; rw [rQ hb]; exact aB.le_refl _, Nat.zero_le _, rfl, by simp, Nat.le_refl _, hst, gO _ _ _, rfl⟩ ?_
 rintro ⟨k, vs, t, c', o⟩ ⟨hk, hvl, hvs, ht0, ht, ho, hos⟩
 simp only at hk hvl hvs ht0 ht ho hos ⊢
 rcases Nat.lt_or_ge k l.length with hlt | hge
 ·have ek : l[k]? = some l[k] := List.getElem?_eq_getElem hlt
  have hnext : ∀ (s : List Int) (t2 : Nat) (c2 : Int), jF (oT c' (iY p sz n t l[k] env)) s t2 c2 → jF (oT c (lS (fun t e => iY p sz n t e env) (l.take (k + 1)) st)) (vs ++ [s]) t2 c2 := fun s t2 c2 h3 => by
   rw [List.take_succ_eq_append_getElem hlt, vX]
   exact ho.dP (h3.dP (gO _ _ _))
  have hall : ∀ s, bN sz s → ∀ x ∈ vs ++ [s], bN sz x := fun s hs x hx => by
   rcases List.mem_append.1 hx with hx | hx
   ·exact hvs x hx
   ·rw [List.mem_singleton.1 hx]; exact hs
  cases o with
  |none =>
   rw [bD] at hos
   subst hos
   simp -dsimp -implicitDefEqProofs only [go_sem, ↓reduceIte, Tryz.f92, bO, aO, hlt, ek, aC.aU]
   intro m9 cJ
   have xD : ¬ m9 = nb := by first | exact cJ.1 | exact cJ | exact cJ.2.1 | exact cJ.2 | exact cJ.2.2.1 | exact cJ.2.2 | exact cJ.2.2.2.1 | exact cJ.2.2.2 | exact cJ.2.2.2.2.1 | exact cJ.2.2.2.2 | exact cJ.2.2.2.2.2.1 | exact cJ.2.2.2.2.2 | exact cJ.2.2.2.2.2.2.1 | exact cJ.2.2.2.2.2.2 | exact cJ.2.2.2.2.2.2.2.1 | exact cJ.2.2.2.2.2.2.2 | exact cJ.2.2.2.2.2.2.2.2.1 | exact cJ.2.2.2.2.2.2.2.2 | exact cJ.2.2.2.2.2.2.2.2.2.1 | exact cJ.2.2.2.2.2.2.2.2.2 | exact cJ.2.2.2.2.2.2.2.2.2.2.1 | exact cJ.2.2.2.2.2.2.2.2.2.2 | exact cJ.2.2.2.2.2.2.2.2.2.2.2.1 | exact cJ.2.2.2.2.2.2.2.2.2.2.2 | exact cJ.2.2.2.2.2.2.2.2.2.2.2.2.1 | exact cJ.2.2.2.2.2.2.2.2.2.2.2.2 | exact cJ.2.2.2.2.2.2.2.2.2.2.2.2.2.1 | exact cJ.2.2.2.2.2.2.2.2.2.2.2.2.2
   have aFO : (m9 = nb) = False := eq_false xD
   have aFP : (nb = m9) = False := eq_false (Ne.symm xD)
   have aLH : ¬ nb = m9 := Ne.symm xD
   have bN7 : h m9 = none := by first | exact cJ.1 | exact cJ | exact cJ.2.1 | exact cJ.2 | exact cJ.2.2.1 | exact cJ.2.2 | exact cJ.2.2.2.1 | exact cJ.2.2.2 | exact cJ.2.2.2.2.1 | exact cJ.2.2.2.2 | exact cJ.2.2.2.2.2.1 | exact cJ.2.2.2.2.2 | exact cJ.2.2.2.2.2.2.1 | exact cJ.2.2.2.2.2.2 | exact cJ.2.2.2.2.2.2.2.1 | exact cJ.2.2.2.2.2.2.2 | exact cJ.2.2.2.2.2.2.2.2.1 | exact cJ.2.2.2.2.2.2.2.2 | exact cJ.2.2.2.2.2.2.2.2.2.1 | exact cJ.2.2.2.2.2.2.2.2.2 | exact cJ.2.2.2.2.2.2.2.2.2.2.1 | exact cJ.2.2.2.2.2.2.2.2.2.2 | exact cJ.2.2.2.2.2.2.2.2.2.2.2.1 | exact cJ.2.2.2.2.2.2.2.2.2.2.2 | exact cJ.2.2.2.2.2.2.2.2.2.2.2.2.1 | exact cJ.2.2.2.2.2.2.2.2.2.2.2.2 | exact cJ.2.2.2.2.2.2.2.2.2.2.2.2.2.1 | exact cJ.2.2.2.2.2.2.2.2.2.2.2.2.2
   rw [aK]
   have hvk := hv (aR (aR h nb (dG p sz t c')) m9 (.row 5 [l[k].c.map .v])) nb t c' l[k] env funcs (by rw [aA _ _ _ _ aLH, aG]) ht (by omega) (hok _ (List.getElem_mem _)) fN hf henv (by omega)
   rw [aC.aU] at hvk
   refine aH.fG hvk ?_
   rintro r h' ⟨s, t2, c2, rfl, rfl, hs, h1, h2, h3⟩
   simp -dsimp -implicitDefEqProofs only [go_sem, ↓reduceIte, Tryz.f92]
   refine ⟨Nat.zero_lt_one, Nat.zero_lt_one, Nat.zero_lt_one, ?_⟩
   intro b aL
   have dC : ¬ b = nb := by first | exact aL.1 | exact aL | exact aL.2.1 | exact aL.2 | exact aL.2.2.1 | exact aL.2.2 | exact aL.2.2.2.1 | exact aL.2.2.2 | exact aL.2.2.2.2.1 | exact aL.2.2.2.2 | exact aL.2.2.2.2.2.1 | exact aL.2.2.2.2.2 | exact aL.2.2.2.2.2.2.1 | exact aL.2.2.2.2.2.2 | exact aL.2.2.2.2.2.2.2.1 | exact aL.2.2.2.2.2.2.2 | exact aL.2.2.2.2.2.2.2.2.1 | exact aL.2.2.2.2.2.2.2.2 | exact aL.2.2.2.2.2.2.2.2.2.1 | exact aL.2.2.2.2.2.2.2.2.2 | exact aL.2.2.2.2.2.2.2.2.2.2.1 | exact aL.2.2.2.2.2.2.2.2.2.2 | exact aL.2.2.2.2.2.2.2.2.2.2.2.1 | exact aL.2.2.2.2.2.2.2.2.2.2.2 | exact aL.2.2.2.2.2.2.2.2.2.2.2.2.1 | exact aL.2.2.2.2.2.2.2.2.2.2.2.2 | exact aL.2.2.2.2.2.2.2.2.2.2.2.2.2.1 | exact aL.2.2.2.2.2.2.2.2.2.2.2.2.2
   have eV : (b = nb) = False := eq_false dC
   have eW : (nb = b) = False := eq_false (Ne.symm dC)
   have jO : ¬ nb = b := Ne.symm dC
   have vD : ¬ b = m9 := by first | exact aL.1 | exact aL | exact aL.2.1 | exact aL.2 | exact aL.2.2.1 | exact aL.2.2 | exact aL.2.2.2.1 | exact aL.2.2.2 | exact aL.2.2.2.2.1 | exact aL.2.2.2.2 | exact aL.2.2.2.2.2.1 | exact aL.2.2.2.2.2 | exact aL.2.2.2.2.2.2.1 | exact aL.2.2.2.2.2.2 | exact aL.2.2.2.2.2.2.2.1 | exact aL.2.2.2.2.2.2.2 | exact aL.2.2.2.2.2.2.2.2.1 | exact aL.2.2.2.2.2.2.2.2 | exact aL.2.2.2.2.2.2.2.2.2.1 | exact aL.2.2.2.2.2.2.2.2.2 | exact aL.2.2.2.2.2.2.2.2.2.2.1 | exact aL.2.2.2.2.2.2.2.2.2.2 | exact aL.2.2.2.2.2.2.2.2.2.2.2.1 | exact aL.2.2.2.2.2.2.2.2.2.2.2 | exact aL.2.2.2.2.2.2.2.2.2.2.2.2.1 | exact aL.2.2.2.2.2.2.2.2.2.2.2.2 | exact aL.2.2.2.2.2.2.2.2.2.2.2.2.2.1 | exact aL.2.2.2.2.2.2.2.2.2.2.2.2.2
   have aHP : (b = m9) = False := eq_false vD
   have aHQ : (m9 = b) = False := eq_false (Ne.symm vD)
   have aQ3 : ¬ m9 = b := Ne.symm vD
   have z_b : h b = none := by first | exact aL.1 | exact aL | exact aL.2.1 | exact aL.2 | exact aL.2.2.1 | exact aL.2.2 | exact aL.2.2.2.1 | exact aL.2.2.2 | exact aL.2.2.2.2.1 | exact aL.2.2.2.2 | exact aL.2.2.2.2.2.1 | exact aL.2.2.2.2.2 | exact aL.2.2.2.2.2.2.1 | exact aL.2.2.2.2.2.2 | exact aL.2.2.2.2.2.2.2.1 | exact aL.2.2.2.2.2.2.2 | exact aL.2.2.2.2.2.2.2.2.1 | exact aL.2.2.2.2.2.2.2.2 | exact aL.2.2.2.2.2.2.2.2.2.1 | exact aL.2.2.2.2.2.2.2.2.2 | exact aL.2.2.2.2.2.2.2.2.2.2.1 | exact aL.2.2.2.2.2.2.2.2.2.2 | exact aL.2.2.2.2.2.2.2.2.2.2.2.1 | exact aL.2.2.2.2.2.2.2.2.2.2.2 | exact aL.2.2.2.2.2.2.2.2.2.2.2.2.1 | exact aL.2.2.2.2.2.2.2.2.2.2.2.2 | exact aL.2.2.2.2.2.2.2.2.2.2.2.2.2.1 | exact aL.2.2.2.2.2.2.2.2.2.2.2.2.2
   refine ⟨(k + 1, [s], t2, c2, some b), ⟨rfl, by rw [IntWalk.i64_in _ (by omega)]; rfl⟩, (j7 (by repeat' (first | exact iM _ _ | refine j8 (by simp only [c6, ↓reduceIte, eq_self, if_true, aFP, eW, aFO, aHQ, eV, aHP, List.map_cons, List.map_nil]) ?_ | refine gB (by first | exact .inr (by assumption) | exact .inl (by simp)) ?_))), ⟨by omega, by simp only [List.length_nil] at hvl; subst hvl; rfl, fun x hx => hall s hs x hx, Nat.le_trans ht0 h1, h2, hnext s t2 c2 h3, z_b⟩, by simp only; omega⟩
  |some m =>
   rw [aV] at hos
   have fU : ¬ m = nb := fun e => by rw [e, hb] at hos; cases hos
   have gC : ¬ nb = m := Ne.symm fU
   have iF : (m = nb) = False := eq_false fU
   have iG : (nb = m) = False := eq_false gC
   simp -dsimp -implicitDefEqProofs only [go_sem, ↓reduceIte, Tryz.f92, aX, aJ, hlt, ek, aC.aU]
   intro m9 cJ
   have y6 : ¬ m9 = m := by first | exact cJ.1 | exact cJ | exact cJ.2.1 | exact cJ.2 | exact cJ.2.2.1 | exact cJ.2.2 | exact cJ.2.2.2.1 | exact cJ.2.2.2 | exact cJ.2.2.2.2.1 | exact cJ.2.2.2.2 | exact cJ.2.2.2.2.2.1 | exact cJ.2.2.2.2.2 | exact cJ.2.2.2.2.2.2.1 | exact cJ.2.2.2.2.2.2 | exact cJ.2.2.2.2.2.2.2.1 | exact cJ.2.2.2.2.2.2.2 | exact cJ.2.2.2.2.2.2.2.2.1 | exact cJ.2.2.2.2.2.2.2.2 | exact cJ.2.2.2.2.2.2.2.2.2.1 | exact cJ.2.2.2.2.2.2.2.2.2 | exact cJ.2.2.2.2.2.2.2.2.2.2.1 | exact cJ.2.2.2.2.2.2.2.2.2.2 | exact cJ.2.2.2.2.2.2.2.2.2.2.2.1 | exact cJ.2.2.2.2.2.2.2.2.2.2.2 | exact cJ.2.2.2.2.2.2.2.2.2.2.2.2.1 | exact cJ.2.2.2.2.2.2.2.2.2.2.2.2 | exact cJ.2.2.2.2.2.2.2.2.2.2.2.2.2.1 | exact cJ.2.2.2.2.2.2.2.2.2.2.2.2.2
   have aHS : (m9 = m) = False := eq_false y6
   have aHT : (m = m9) = False := eq_false (Ne.symm y6)
   have aYE : ¬ m = m9 := Ne.symm y6
   have xD : ¬ m9 = nb := by first | exact cJ.1 | exact cJ | exact cJ.2.1 | exact cJ.2 | exact cJ.2.2.1 | exact cJ.2.2 | exact cJ.2.2.2.1 | exact cJ.2.2.2 | exact cJ.2.2.2.2.1 | exact cJ.2.2.2.2 | exact cJ.2.2.2.2.2.1 | exact cJ.2.2.2.2.2 | exact cJ.2.2.2.2.2.2.1 | exact cJ.2.2.2.2.2.2 | exact cJ.2.2.2.2.2.2.2.1 | exact cJ.2.2.2.2.2.2.2 | exact cJ.2.2.2.2.2.2.2.2.1 | exact cJ.2.2.2.2.2.2.2.2 | exact cJ.2.2.2.2.2.2.2.2.2.1 | exact cJ.2.2.2.2.2.2.2.2.2 | exact cJ.2.2.2.2.2.2.2.2.2.2.1 | exact cJ.2.2.2.2.2.2.2.2.2.2 | exact cJ.2.2.2.2.2.2.2.2.2.2.2.1 | exact cJ.2.2.2.2.2.2.2.2.2.2.2 | exact cJ.2.2.2.2.2.2.2.2.2.2.2.2.1 | exact cJ.2.2.2.2.2.2.2.2.2.2.2.2 | exact cJ.2.2.2.2.2.2.2.2.2.2.2.2.2.1 | exact cJ.2.2.2.2.2.2.2.2.2.2.2.2.2
   have aFO : (m9 = nb) = False := eq_false xD
   have aFP : (nb = m9) = False := eq_false (Ne.symm xD)
   have aLH : ¬ nb = m9 := Ne.symm xD
   have bN7 : h m9 = none := by first | exact cJ.1 | exact cJ | exact cJ.2.1 | exact cJ.2 | exact cJ.2.2.1 | exact cJ.2.2 | exact cJ.2.2.2.1 | exact cJ.2.2.2 | exact cJ.2.2.2.2.1 | exact cJ.2.2.2.2 | exact cJ.2.2.2.2.2.1 | exact cJ.2.2.2.2.2 | exact cJ.2.2.2.2.2.2.1 | exact cJ.2.2.2.2.2.2 | exact cJ.2.2.2.2.2.2.2.1 | exact cJ.2.2.2.2.2.2.2 | exact cJ.2.2.2.2.2.2.2.2.1 | exact cJ.2.2.2.2.2.2.2.2 | exact cJ.2.2.2.2.2.2.2.2.2.1 | exact cJ.2.2.2.2.2.2.2.2.2 | exact cJ.2.2.2.2.2.2.2.2.2.2.1 | exact cJ.2.2.2.2.2.2.2.2.2.2 | exact cJ.2.2.2.2.2.2.2.2.2.2.2.1 | exact cJ.2.2.2.2.2.2.2.2.2.2.2 | exact cJ.2.2.2.2.2.2.2.2.2.2.2.2.1 | exact cJ.2.2.2.2.2.2.2.2.2.2.2.2 | exact cJ.2.2.2.2.2.2.2.2.2.2.2.2.2.1 | exact cJ.2.2.2.2.2.2.2.2.2.2.2.2.2
   rw [aK]
   have hvk := hv (aR (aR (aR h nb (dG p sz t c')) m (.row 1 ((vs.map fun s => [ints s]).map (List.map .v)))) m9 (.row 5 [l[k].c.map .v])) nb t c' l[k] env funcs (by rw [aA _ _ _ _ aLH, aA _ _ _ _ gC, aG]) ht (by omega) (hok _ (List.getElem_mem _)) fN hf henv (by omega)
   rw [aC.aU] at hvk
   refine aH.fG hvk ?_
   rintro r h' ⟨s, t2, c2, rfl, rfl, hs, h1, h2, h3⟩
   simp -dsimp -implicitDefEqProofs only [go_sem, ↓reduceIte, Tryz.f92, aA, iF, aHT, iG, aFP, aHS, aFO]
   refine ⟨Nat.zero_lt_one, Nat.zero_lt_one, Nat.zero_lt_one, Nat.le_refl _, by omega, by omega, ?_⟩
   intro b aL
   have dC : ¬ b = nb := by first | exact aL.1 | exact aL | exact aL.2.1 | exact aL.2 | exact aL.2.2.1 | exact aL.2.2 | exact aL.2.2.2.1 | exact aL.2.2.2 | exact aL.2.2.2.2.1 | exact aL.2.2.2.2 | exact aL.2.2.2.2.2.1 | exact aL.2.2.2.2.2 | exact aL.2.2.2.2.2.2.1 | exact aL.2.2.2.2.2.2 | exact aL.2.2.2.2.2.2.2.1 | exact aL.2.2.2.2.2.2.2 | exact aL.2.2.2.2.2.2.2.2.1 | exact aL.2.2.2.2.2.2.2.2 | exact aL.2.2.2.2.2.2.2.2.2.1 | exact aL.2.2.2.2.2.2.2.2.2 | exact aL.2.2.2.2.2.2.2.2.2.2.1 | exact aL.2.2.2.2.2.2.2.2.2.2 | exact aL.2.2.2.2.2.2.2.2.2.2.2.1 | exact aL.2.2.2.2.2.2.2.2.2.2.2 | exact aL.2.2.2.2.2.2.2.2.2.2.2.2.1 | exact aL.2.2.2.2.2.2.2.2.2.2.2.2 | exact aL.2.2.2.2.2.2.2.2.2.2.2.2.2.1 | exact aL.2.2.2.2.2.2.2.2.2.2.2.2.2
   have eV : (b = nb) = False := eq_false dC
   have eW : (nb = b) = False := eq_false (Ne.symm dC)
   have jO : ¬ nb = b := Ne.symm dC
   have vD : ¬ b = m9 := by first | exact aL.1 | exact aL | exact aL.2.1 | exact aL.2 | exact aL.2.2.1 | exact aL.2.2 | exact aL.2.2.2.1 | exact aL.2.2.2 | exact aL.2.2.2.2.1 | exact aL.2.2.2.2 | exact aL.2.2.2.2.2.1 | exact aL.2.2.2.2.2 | exact aL.2.2.2.2.2.2.1 | exact aL.2.2.2.2.2.2 | exact aL.2.2.2.2.2.2.2.1 | exact aL.2.2.2.2.2.2.2 | exact aL.2.2.2.2.2.2.2.2.1 | exact aL.2.2.2.2.2.2.2.2 | exact aL.2.2.2.2.2.2.2.2.2.1 | exact aL.2.2.2.2.2.2.2.2.2 | exact aL.2.2.2.2.2.2.2.2.2.2.1 | exact aL.2.2.2.2.2.2.2.2.2.2 | exact aL.2.2.2.2.2.2.2.2.2.2.2.1 | exact aL.2.2.2.2.2.2.2.2.2.2.2 | exact aL.2.2.2.2.2.2.2.2.2.2.2.2.1 | exact aL.2.2.2.2.2.2.2.2.2.2.2.2 | exact aL.2.2.2.2.2.2.2.2.2.2.2.2.2.1 | exact aL.2.2.2.2.2.2.2.2.2.2.2.2.2
   have aHP : (b = m9) = False := eq_false vD
   have aHQ : (m9 = b) = False := eq_false (Ne.symm vD)
   have aQ3 : ¬ m9 = b := Ne.symm vD
   have fJ : ¬ b = m := by first | exact aL.1 | exact aL | exact aL.2.1 | exact aL.2 | exact aL.2.2.1 | exact aL.2.2 | exact aL.2.2.2.1 | exact aL.2.2.2 | exact aL.2.2.2.2.1 | exact aL.2.2.2.2 | exact aL.2.2.2.2.2.1 | exact aL.2.2.2.2.2 | exact aL.2.2.2.2.2.2.1 | exact aL.2.2.2.2.2.2 | exact aL.2.2.2.2.2.2.2.1 | exact aL.2.2.2.2.2.2.2 | exact aL.2.2.2.2.2.2.2.2.1 | exact aL.2.2.2.2.2.2.2.2 | exact aL.2.2.2.2.2.2.2.2.2.1 | exact aL.2.2.2.2.2.2.2.2.2 | exact aL.2.2.2.2.2.2.2.2.2.2.1 | exact aL.2.2.2.2.2.2.2.2.2.2 | exact aL.2.2.2.2.2.2.2.2.2.2.2.1 | exact aL.2.2.2.2.2.2.2.2.2.2.2 | exact aL.2.2.2.2.2.2.2.2.2.2.2.2.1 | exact aL.2.2.2.2.2.2.2.2.2.2.2.2 | exact aL.2.2.2.2.2.2.2.2.2.2.2.2.2.1 | exact aL.2.2.2.2.2.2.2.2.2.2.2.2.2
   have kF : (b = m) = False := eq_false fJ
   have kG : (m = b) = False := eq_false (Ne.symm fJ)
   have lC : ¬ m = b := Ne.symm fJ
   have z_b : h b = none := by first | exact aL.1 | exact aL | exact aL.2.1 | exact aL.2 | exact aL.2.2.1 | exact aL.2.2 | exact aL.2.2.2.1 | exact aL.2.2.2 | exact aL.2.2.2.2.1 | exact aL.2.2.2.2 | exact aL.2.2.2.2.2.1 | exact aL.2.2.2.2.2 | exact aL.2.2.2.2.2.2.1 | exact aL.2.2.2.2.2.2 | exact aL.2.2.2.2.2.2.2.1 | exact aL.2.2.2.2.2.2.2 | exact aL.2.2.2.2.2.2.2.2.1 | exact aL.2.2.2.2.2.2.2.2 | exact aL.2.2.2.2.2.2.2.2.2.1 | exact aL.2.2.2.2.2.2.2.2.2 | exact aL.2.2.2.2.2.2.2.2.2.2.1 | exact aL.2.2.2.2.2.2.2.2.2.2 | exact aL.2.2.2.2.2.2.2.2.2.2.2.1 | exact aL.2.2.2.2.2.2.2.2.2.2.2 | exact aL.2.2.2.2.2.2.2.2.2.2.2.2.1 | exact aL.2.2.2.2.2.2.2.2.2.2.2.2 | exact aL.2.2.2.2.2.2.2.2.2.2.2.2.2.1 | exact aL.2.2.2.2.2.2.2.2.2.2.2.2.2
   refine ⟨(k + 1, vs ++ [s], t2, c2, some b), ⟨by rw [aX, List.length_append]; rfl, by rw [IntWalk.i64_in _ (by omega)]; rfl⟩, ?_, ⟨by omega, by rw [List.length_append, hvl]; rfl, hall s hs, Nat.le_trans ht0 h1, h2, hnext s t2 c2 h3, z_b⟩, by simp only; omega⟩
   simp only [aJ]
   rw [← fI ints]
   exact (j7 (by repeat' (first | exact iM _ _ | refine j8 (by simp only [c6, ↓reduceIte, eq_self, if_true, aFP, eW, iG, aFO, aHQ, aHS, eV, aHP, kF, iF, aHT, kG]) ?_ | refine gB (by first | exact .inr (by assumption) | exact .inl (by simp)) ?_)))
 ·have hk' : k = l.length := by omega
  subst hk'
  rw [List.take_length] at ho
  cases o with
  |none =>
   rw [bD] at hos
   subst hos
   simp -dsimp -implicitDefEqProofs only [go_sem, ↓reduceIte, Tryz.f92, bO, aO, Nat.lt_irrefl]
   exact ⟨c7 [], _, Shift.of (Sub.loose _ _ _) (aB.le_refl _), [], t, c', rfl, rfl, hvl, hvs, ht0, ht, ho⟩
  |some m =>
   rw [aV] at hos
   simp -dsimp -implicitDefEqProofs only [go_sem, ↓reduceIte, Tryz.f92, aX, aJ, Nat.lt_irrefl]
   have hmn : ¬ m = nb := fun e => by rw [e, hb] at hos; cases hos
   exact ⟨c7 vs, _, zL (vs.map fun s => [ints s]) (h := aR h nb (dG p sz t c')) (by rw [aA _ _ _ _ hmn, hos]) (aB.le_refl _) _ (by rw [List.length_map]), vs, t, c', rfl, rfl, hvl, hvs, ht0, ht, ho⟩
end Go.Hl

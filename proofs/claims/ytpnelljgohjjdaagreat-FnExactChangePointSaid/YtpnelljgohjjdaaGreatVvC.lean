/-
  Contracts of functions and laws of the layer over the walk.
-/
import Derived.Test.YtpnelljgohjjdaaGreatVvB
import Derived.Test.YtpnelljgohjjdaaGreatVvA
import Derived.Test.YtpnelljgohjjdaaGreatHlD
namespace Go.Hl
set_option maxRecDepth 100000
open Go.Proofs
set_option linter.unusedVariables false
set_option linter.unusedSimpArgs false
def l7 (p : aI) (e : aA) (vars funcs : Int) : Prop := (0 ≤ vars ∧ vars ≤ 412) ∧ (0 ≤ funcs ∧ funcs ≤ p.aH.length) ∧ (e.s : Int) + 1 ≤ 400 ∧ (e.d : Int) ≤ 60 ∧ e.ok p funcs vars
noncomputable instance (p : aI) (e : aA) (vars funcs : Int) : Decidable (l7 p e vars funcs) := Classical.propDecidable _
def aAO (p : aI) (k : Nat) (f : aV) : Prop := aEC f.eC ∧ (0 ≤ f.bE ∧ f.bE ≤ 12) ∧ (1 ≤ (f.aZ.length : Int) ∧ (f.aZ.length : Int) ≤ 12) ∧ (∀ g ∈ p.aH.take k, g.eC ≠ f.eC) ∧ (uX aA.s f.aZ : Int) ≤ 400 ∧ ∀ e ∈ f.aZ, l7 p e f.bE k
noncomputable instance (p : aI) (k : Nat) (f : aV) : Decidable (aAO p k f) := Classical.propDecidable _
def aI.ok (p : aI) : Prop := (p.aH.length : Int) ≤ 16 ∧ ∀ (k : Nat) (f : aV), p.aH[k]? = some f → aAO p k f
noncomputable instance (p : aI) : Decidable p.ok := Classical.propDecidable _
@[go_sem] def a6B : List Nat := [0, 2]
@[go_sem] def bJZ : List Nat := []
@[go_sem] def bJ0 : Marks := fun _ => ([], .nil, [])
theorem aH0 (n : Int) : e8 Tryz.prog 130 [I n] (.bool (decide (0 ≤ n ∧ n ≤ 412))) := by
 refine eI 5 a6B bJZ bJ0 mix Tryz.func130 rfl (by kernel_rfl) (by simp) fun h => ?_
 simp -dsimp -implicitDefEqProofs only [go_sem, ↓reduceIte, Tryz.f130]
 first | refine aJ.mk (fG n 0 412) ?_ | refine aL.mk (fG n 0 412) ?_ | refine aJ.dF (fG n 0 412) ?_ | refine aL.mk (cZ.gC (fG n 0 412)) ?_
 simp -dsimp -implicitDefEqProofs only [go_sem, ↓reduceIte, Tryz.f130]
@[go_sem] def a6C : List Nat := [0, 2]
@[go_sem] def bJ1 : List Nat := []
@[go_sem] def bJ2 : Marks := fun _ => ([], .nil, [])
theorem aH1 (n : Int) : e8 Tryz.prog 148 [I n] (.bool (decide (0 ≤ n ∧ n ≤ 412))) := by
 refine eI 5 a6C bJ1 bJ2 mix Tryz.func148 rfl (by kernel_rfl) (by simp) fun h => ?_
 simp -dsimp -implicitDefEqProofs only [go_sem, ↓reduceIte, Tryz.f148]
 first | refine aJ.mk (within n 0 412) ?_ | refine aL.mk (within n 0 412) ?_ | refine aJ.dF (within n 0 412) ?_ | refine aL.mk (cZ.gC (within n 0 412)) ?_
 simp -dsimp -implicitDefEqProofs only [go_sem, ↓reduceIte, Tryz.f148]
theorem aJV {left : Int} {n : Nat} : 0 ≤ wL left n ↔ (n : Int) ≤ left := by
 unfold wL; split <;> omega
@[go_sem] def a6D : List Nat := [0, 1, 2, 3, 8]
@[go_sem] def bJ3 : List Nat := []
@[go_sem] def bJ4 : Marks := fun _ => ([], .nil, [])
theorem aWQ (p : aI) (e : aA) (vars funcs : Int) (hs : e.s ≤ 4294966296) (hps : p.s ≤ 4294967296) : e8 Tryz.prog 117 [.ip 1 [p.c] 0 0, .ip 5 [e.c] 0 0, I vars, I funcs] (.bool (decide (l7 p e vars funcs))) := by
 simp only [aI.aN]
 refine eI 37 a6D bJ3 bJ4 mix Tryz.func117 rfl (by kernel_rfl) (by simp) fun h => ?_
 simp -dsimp -implicitDefEqProofs only [go_sem, ↓reduceIte, Tryz.f117]
 first | refine aJ.mk (aH0 vars) ?_ | refine aL.mk (aH0 vars) ?_ | refine aJ.dF (aH0 vars) ?_ | refine aL.mk (cZ.gC (aH0 vars)) ?_
 simp -dsimp -implicitDefEqProofs only [go_sem, ↓reduceIte, Tryz.f117]
 repeat' (with_reducible first | intro _ | refine And.intro ?_ ?_)
 all_goals try (first | (simp [l7, *]; done) | omega | (grind [l7]) | (simp [l7]; omega))
 first | refine aJ.mk (fG funcs 0 p.aH.length) ?_ | refine aL.mk (fG funcs 0 p.aH.length) ?_ | refine aJ.dF (fG funcs 0 p.aH.length) ?_ | refine aL.mk (cZ.gC (fG funcs 0 p.aH.length)) ?_
 simp -dsimp -implicitDefEqProofs only [go_sem, ↓reduceIte, Tryz.f117]
 repeat' (with_reducible first | intro _ | refine And.intro ?_ ?_)
 all_goals try (first | (simp [l7, *]; done) | omega | (grind [l7]) | (simp [l7]; omega))
 first | refine aL.mk ((aED e 400 (by omega) (by omega) (by omega)).sub (by repeat' (first | exact cD.nil | refine cD.cons ?_ ?_ | exact Sub.refl _ | (rw [aA.aN]; exact Sub.refl _) | exact Sub.dM rfl rfl rfl | exact Sub.ip (bS (by omega)) (by simp) | exact Sub.dM (bS (by omega)) rfl rfl | exact Sub.ip (by simp [*]) (by simp) | exact Sub.dM (by simp [*]) (by rfl) (by rfl)))) ?_ | refine aJ.mk ((aED e 400 (by omega) (by omega) (by omega)).sub (by repeat' (first | exact cD.nil | refine cD.cons ?_ ?_ | exact Sub.refl _ | (rw [aA.aN]; exact Sub.refl _) | exact Sub.dM rfl rfl rfl | exact Sub.ip (bS (by omega)) (by simp) | exact Sub.dM (bS (by omega)) rfl rfl | exact Sub.ip (by simp [*]) (by simp) | exact Sub.dM (by simp [*]) (by rfl) (by rfl)))) ?_
 simp -dsimp -implicitDefEqProofs only [go_sem, ↓reduceIte, Tryz.f117]
 repeat' (with_reducible first | intro _ | refine And.intro ?_ ?_)
 ·have hle : ((e.s + 1 : Nat) : Int) ≤ 400 := aJV.1 (by assumption)
  first | refine aL.mk ((aJQ e (by omega)).sub (by repeat' (first | exact cD.nil | refine cD.cons ?_ ?_ | exact Sub.refl _ | (rw [aA.aN]; exact Sub.refl _) | exact Sub.dM rfl rfl rfl | exact Sub.ip (bS (by omega)) (by simp) | exact Sub.dM (bS (by omega)) rfl rfl | exact Sub.ip (by simp [*]) (by simp) | exact Sub.dM (by simp [*]) (by rfl) (by rfl)))) ?_ | refine aJ.mk ((aJQ e (by omega)).sub (by repeat' (first | exact cD.nil | refine cD.cons ?_ ?_ | exact Sub.refl _ | (rw [aA.aN]; exact Sub.refl _) | exact Sub.dM rfl rfl rfl | exact Sub.ip (bS (by omega)) (by simp) | exact Sub.dM (bS (by omega)) rfl rfl | exact Sub.ip (by simp [*]) (by simp) | exact Sub.dM (by simp [*]) (by rfl) (by rfl)))) ?_
  simp -dsimp -implicitDefEqProofs only [go_sem, ↓reduceIte, Tryz.f117]
  repeat' (with_reducible first | intro _ | refine And.intro ?_ ?_)
  ·first | refine aL.mk ((aOG p e vars funcs (by omega) (by omega) (by omega) (by omega) hps).sub (by repeat' (first | exact cD.nil | refine cD.cons ?_ ?_ | exact Sub.refl _ | (rw [aA.aN]; exact Sub.refl _) | exact Sub.dM rfl rfl rfl | exact Sub.ip (bS (by omega)) (by simp) | exact Sub.dM (bS (by omega)) rfl rfl | exact Sub.ip (by simp [*]) (by simp) | exact Sub.dM (by simp [*]) (by rfl) (by rfl)))) ?_ | refine aJ.mk ((aOG p e vars funcs (by omega) (by omega) (by omega) (by omega) hps).sub (by repeat' (first | exact cD.nil | refine cD.cons ?_ ?_ | exact Sub.refl _ | (rw [aA.aN]; exact Sub.refl _) | exact Sub.dM rfl rfl rfl | exact Sub.ip (bS (by omega)) (by simp) | exact Sub.dM (bS (by omega)) rfl rfl | exact Sub.ip (by simp [*]) (by simp) | exact Sub.dM (by simp [*]) (by rfl) (by rfl)))) ?_
   simp -dsimp -implicitDefEqProofs only [go_sem, ↓reduceIte, Tryz.f117]
   rw [decide_eq_decide]
   exact ⟨fun q => ⟨by omega, by omega, by omega, by omega, q⟩, fun q => q.2.2.2.2⟩
  ·exact (decide_eq_false fun q => by have := q.2.2.2.1; omega).symm
 ·rename_i hn
  exact (decide_eq_false fun q => hn (aJV.2 (by have := q.2.2.1; omega))).symm
@[go_sem] def a6E : List Nat := [0, 1, 2, 3, 4, 5, 8]
@[go_sem] def bJ5 : List Nat := [4, 5]
@[go_sem] def bJ6 : Marks := fun _ => ([], .nil, [])
theorem aYR (p : aI) (e : aA) (vars funcs : Int) (hs : e.s ≤ 4294966296) (hps : p.s ≤ 4294967296) : e8 Tryz.prog 124 [.agg p.c, .agg e.c, I vars, I funcs] (.bool (decide (l7 p e vars funcs))) := by
 have h1 := aJO e (by omega)
 have h2 := aMG e (by omega)
 simp only [aA.aN] at h1 h2
 simp only [aI.aN, aA.aN]
 refine eI 36 a6E bJ5 bJ6 mix Tryz.func124 rfl (by kernel_rfl) (by simp) fun h => ?_
 simp -dsimp -implicitDefEqProofs only [go_sem, ↓reduceIte, Tryz.f124]
 first | refine aJ.mk (aH1 vars) ?_ | refine aL.mk (aH1 vars) ?_ | refine aJ.dF (aH1 vars) ?_ | refine aL.mk (cZ.gC (aH1 vars)) ?_
 simp -dsimp -implicitDefEqProofs only [go_sem, ↓reduceIte, Tryz.f124]
 repeat' (with_reducible first | intro _ | refine And.intro ?_ ?_)
 all_goals try (first | (simp [l7, *]; done) | omega | (grind [l7]) | (simp [l7]; omega))
 first | refine aJ.mk (within funcs 0 p.aH.length) ?_ | refine aL.mk (within funcs 0 p.aH.length) ?_ | refine aJ.dF (within funcs 0 p.aH.length) ?_ | refine aL.mk (cZ.gC (within funcs 0 p.aH.length)) ?_
 simp -dsimp -implicitDefEqProofs only [go_sem, ↓reduceIte, Tryz.f124]
 repeat' (with_reducible first | intro _ | refine And.intro ?_ ?_)
 all_goals try (first | (simp [l7, *]; done) | omega | (grind [l7]) | (simp [l7]; omega))
 first | refine aJ.mk (h1) ?_ | refine aL.mk (h1) ?_ | refine aJ.dF (h1) ?_ | refine aL.mk (cZ.gC (h1)) ?_
 simp -dsimp -implicitDefEqProofs only [go_sem, ↓reduceIte, Tryz.f124]
 repeat' (with_reducible first | intro _ | refine And.intro ?_ ?_)
 ·first | refine aJ.mk (h2) ?_ | refine aL.mk (h2) ?_ | refine aJ.dF (h2) ?_ | refine aL.mk (cZ.gC (h2)) ?_
  simp -dsimp -implicitDefEqProofs only [go_sem, ↓reduceIte, Tryz.f124]
  repeat' (with_reducible first | intro _ | refine And.intro ?_ ?_)
  ·have h3 := aEG p e vars funcs (by omega) (by omega) (by omega) (by omega) hps
   simp only [aA.aN] at h3
   first | refine aJ.mk (h3) ?_ | refine aL.mk (h3) ?_ | refine aJ.dF (h3) ?_ | refine aL.mk (cZ.gC (h3)) ?_
   simp -dsimp -implicitDefEqProofs only [go_sem, ↓reduceIte, Tryz.f124]
   rw [decide_eq_decide]
   exact ⟨fun q => ⟨by omega, by omega, by omega, by omega, q⟩, fun q => q.2.2.2.2⟩
  ·exact (decide_eq_false fun q => by have := q.2.2.2.1; omega).symm
 ·exact (decide_eq_false fun q => by have := q.2.2.1; omega).symm
@[go_sem] def aTL : List Nat := [0, 1, 4, 5, 6, 7, 8, 37, 40, 55, 62, 90]
@[go_sem] def bC7 : List Nat := []
@[go_sem] def bC8 : Marks := fun id => match id with | 7 => ([], (.op 0 (.op 1 (.op 2 (.op 3 (.op 4 (.op 5 (.op 6 (.op 7 (.op 8 (.op 9 (.op 10 (.op 11 (.op 12 .nil))))))))))))), []) | 14 => ([], (.op 0 (.op 1 (.op 2 (.op 3 (.op 4 (.op 5 (.op 6 (.op 7 (.op 8 (.op 9 (.op 10 (.op 11 (.op 12 (.op 13 (.op 14 (.op 15 (.op 16 (.op 17 .nil)))))))))))))))))), []) | _ => ([], .nil, [])
theorem aWR (p : aI) (k : Nat) (f : aV) (ef : p.aH[k]? = some f) (hps : p.s ≤ 4194304) : e8 Tryz.prog 99 [.ip 1 [p.c] 0 0, I k] (.bool (decide (aAO p k f))) := by
 have hk : k < p.aH.length := (List.getElem?_eq_some_iff.1 ef).1
 have hfs := aI.aJS (List.mem_of_getElem? ef)
 have hl := p.aJR
 have hos := f.aJT
 simp only [aI.aN]
 have no (q : ¬ (aEC f.eC ∧ (0 ≤ f.bE ∧ f.bE ≤ 12) ∧ (1 ≤ (f.aZ.length : Int) ∧ (f.aZ.length : Int) ≤ 12))) : false = decide (aAO p k f) := (decide_eq_false fun z => q ⟨z.1, z.2.1, z.2.2.1⟩).symm
 refine eI 91 aTL bC7 bC8 mix Tryz.func99 rfl (by kernel_rfl) (by simp) fun h => ?_
 simp -dsimp -implicitDefEqProofs only [go_sem, ↓reduceIte, Tryz.f99, ef, aV.aN, Int.toNat_natCast]
 repeat' (with_reducible first | intro _ | refine And.intro ?_ ?_)
 all_goals try omega
 first | refine aJ.mk (x9 f.eC) ?_ | refine aL.mk (x9 f.eC) ?_ | refine aJ.dF (x9 f.eC) ?_ | refine aL.mk (cZ.gC (x9 f.eC)) ?_
 simp -dsimp -implicitDefEqProofs only [go_sem, ↓reduceIte, Tryz.f99, ef, aV.aN]
 repeat' (with_reducible first | intro _ | refine And.intro ?_ ?_)
 ·first | refine aJ.mk (fG f.bE 0 12) ?_ | refine aL.mk (fG f.bE 0 12) ?_ | refine aJ.dF (fG f.bE 0 12) ?_ | refine aL.mk (cZ.gC (fG f.bE 0 12)) ?_
  simp -dsimp -implicitDefEqProofs only [go_sem, ↓reduceIte, Tryz.f99, ef, aV.aN]
  repeat' (with_reducible first | intro _ | refine And.intro ?_ ?_)
  ·first | refine aJ.mk (fG f.aZ.length 1 12) ?_ | refine aL.mk (fG f.aZ.length 1 12) ?_ | refine aJ.dF (fG f.aZ.length 1 12) ?_ | refine aL.mk (cZ.gC (fG f.aZ.length 1 12)) ?_
   simp -dsimp -implicitDefEqProofs only [go_sem, ↓reduceIte, Tryz.f99, ef, aV.aN]
   repeat' (with_reducible first | intro _ | refine And.intro ?_ ?_)
   ·exact no fun z => by simp_all
   ·rename_i q1 q2 q3
    refine cS (keep := aTL) (ib := bC7) (mk := bC8) mix (by kernel_rfl) (fun j : Nat => [(0, .ip 1 [p.c] 0 0), (1, I k), (5, .ip 3 (p.aH.map aV.c) k 0), (6, I j)]) (fun _ => h) (fun j => j ≤ k ∧ ∀ g ∈ p.aH.take j, g.eC ≠ f.eC) (fun j => k - j) 0 (by refine ⟨by simp [dA, cH, aI.aN], by repeat' (with_reducible first | exact aB.le_refl _ | refine (bD (by first | assumption | exact And.right (by assumption) | exact bU.2 (by assumption))).2 ?_), by simp⟩) ?_
    intro j ⟨hj, hp⟩
    simp only [aI.aN]
    rcases Nat.lt_or_ge j k with hlt | hge
    ·have eg : p.aH[j]? = some p.aH[j] := List.getElem?_eq_getElem (by omega)
     simp -dsimp -implicitDefEqProofs only [go_sem, ↓reduceIte, Tryz.f99, ef, eg, aV.aN, Int.toNat_natCast]
     repeat' (with_reducible first | intro _ | refine And.intro ?_ ?_)
     all_goals try omega
     ·rename_i he
      refine (decide_eq_false fun z => z.2.2.2.1 p.aH[j] ?_ he).symm
      exact List.mem_take_iff_getElem.2 ⟨j, by omega, rfl⟩
     ·rename_i he
      refine ⟨j + 1, ?_⟩
      repeat' (with_reducible refine And.intro ?_ ?_)
      all_goals try (rw [IntWalk.i64_in _ (by omega)]; first | rfl | omega)
      all_goals try omega
      all_goals try (repeat' (with_reducible first | exact aB.le_refl _ | refine (bD (by first | assumption | exact And.right (by assumption) | exact bU.2 (by assumption))).2 ?_))
      all_goals try (simp only [aI.aN]; done)
      exact kG (P := fun g : aV => g.eC ≠ f.eC) (by omega) hp he
    ·have hj' : j = k := by omega
     rw [hj'] at hp
     simp -dsimp -implicitDefEqProofs only [go_sem, ↓reduceIte, Tryz.f99, hj', Int.lt_irrefl]
     have part (i : Nat) (hi : i < f.aZ.length) : i + ((f.aZ.take i).map aA.s).sum + f.aZ[i].s + 1 ≤ uX aA.s f.aZ := by
      have h1 := gI aA.s f.aZ i hi
      have h2 := mM aA.s f.aZ (i + 1)
      rw [eN]; omega
     have hszs : uX aA.s f.aZ ≤ f.s := by rw [f.fR]; omega
     refine cS (keep := aTL) (ib := bC7) (mk := bC8) mix (by kernel_rfl) (fun i : Nat => [(0, .ip 1 [p.c] 0 0), (1, I k), (5, .ip 3 (p.aH.map aV.c) k 0), (7, I (400 - (i + ((f.aZ.take i).map aA.s).sum : Nat))), (8, I i)]) (fun _ => h) (fun i => i ≤ f.aZ.length ∧ i + ((f.aZ.take i).map aA.s).sum ≤ 400 ∧ ∀ e ∈ f.aZ.take i, l7 p e f.bE k) (fun i => f.aZ.length - i) 0 (by refine ⟨by simp [dA, cH, aI.aN], by repeat' (with_reducible first | exact aB.le_refl _ | refine (bD (by first | assumption | exact And.right (by assumption) | exact bU.2 (by assumption))).2 ?_), by simp⟩) ?_
     intro i ⟨hi, hsum, hall⟩
     simp only [aI.aN]
     rcases Nat.lt_or_ge i f.aZ.length with hlt | hge
     ·have h1 := gI aA.s f.aZ i hlt
      have hpt := part i hlt
      have hout := aV.a9R (List.getElem_mem hlt)
      simp -dsimp -implicitDefEqProofs only [go_sem, ↓reduceIte, Tryz.f99, ef, aV.aN, Int.toNat_natCast]
      repeat' (with_reducible first | intro _ | refine And.intro ?_ ?_)
      all_goals try omega
      first | refine aL.mk ((aED f.aZ[i] (400 - (i + ((f.aZ.take i).map aA.s).sum : Nat)) (by omega) (by omega) (by omega)).sub (by repeat' (first | exact cD.nil | refine cD.cons ?_ ?_ | exact Sub.refl _ | (rw [aA.aN]; exact Sub.refl _) | exact Sub.dM rfl rfl rfl | exact Sub.ip (bS (by omega)) (by simp) | exact Sub.dM (bS (by omega)) rfl rfl | exact Sub.ip (by simp [*]) (by simp) | exact Sub.dM (by simp [*]) (by rfl) (by rfl)))) ?_ | refine aJ.mk ((aED f.aZ[i] (400 - (i + ((f.aZ.take i).map aA.s).sum : Nat)) (by omega) (by omega) (by omega)).sub (by repeat' (first | exact cD.nil | refine cD.cons ?_ ?_ | exact Sub.refl _ | (rw [aA.aN]; exact Sub.refl _) | exact Sub.dM rfl rfl rfl | exact Sub.ip (bS (by omega)) (by simp) | exact Sub.dM (bS (by omega)) rfl rfl | exact Sub.ip (by simp [*]) (by simp) | exact Sub.dM (by simp [*]) (by rfl) (by rfl)))) ?_
      simp -dsimp -implicitDefEqProofs only [go_sem, ↓reduceIte, Tryz.f99, ef, aV.aN]
      rcases o9 (400 - (i + ((f.aZ.take i).map aA.s).sum : Nat)) (f.aZ[i].s + 1) with ⟨e, hl1⟩ | ⟨e, hl1⟩
      ·simp -dsimp -implicitDefEqProofs only [go_sem, ↓reduceIte, Tryz.f99, e]
       repeat' (with_reducible first | intro _ | refine And.intro ?_ ?_)
       all_goals try omega
       all_goals exact (decide_eq_false fun z => by have := z.2.2.2.2.1; omega).symm
      ·simp -dsimp -implicitDefEqProofs only [go_sem, ↓reduceIte, Tryz.f99, e]
       repeat' (with_reducible first | intro _ | refine And.intro ?_ ?_)
       all_goals try omega
       first | refine aL.mk ((aWQ p f.aZ[i] f.bE k (by omega) (by omega)).sub (by repeat' (first | exact cD.nil | refine cD.cons ?_ ?_ | exact Sub.refl _ | (rw [aA.aN]; exact Sub.refl _) | exact Sub.dM rfl rfl rfl | exact Sub.ip (bS (by omega)) (by simp) | exact Sub.dM (bS (by omega)) rfl rfl | exact Sub.ip (by simp [*]) (by simp) | exact Sub.dM (by simp [*]) (by rfl) (by rfl)))) ?_ | refine aJ.mk ((aWQ p f.aZ[i] f.bE k (by omega) (by omega)).sub (by repeat' (first | exact cD.nil | refine cD.cons ?_ ?_ | exact Sub.refl _ | (rw [aA.aN]; exact Sub.refl _) | exact Sub.dM rfl rfl rfl | exact Sub.ip (bS (by omega)) (by simp) | exact Sub.dM (bS (by omega)) rfl rfl | exact Sub.ip (by simp [*]) (by simp) | exact Sub.dM (by simp [*]) (by rfl) (by rfl)))) ?_
       simp -dsimp -implicitDefEqProofs only [go_sem, ↓reduceIte, Tryz.f99, ef, aV.aN]
       repeat' (with_reducible first | intro _ | refine And.intro ?_ ?_)
       ·rename_i hn
        exact (decide_eq_false fun z => hn (z.2.2.2.2.2 _ (List.getElem_mem hlt))).symm
       ·rename_i hn
        refine ⟨i + 1, ?_⟩
        repeat' (with_reducible refine And.intro ?_ ?_)
        all_goals try (rw [IntWalk.i64_in _ (by omega)]; first | rfl | omega)
        all_goals try omega
        all_goals try (repeat' (with_reducible first | exact aB.le_refl _ | refine (bD (by first | assumption | exact And.right (by assumption) | exact bU.2 (by assumption))).2 ?_))
        all_goals try (simp only [aI.aN]; done)
        exact kG (P := fun e => l7 p e f.bE k) hlt hall hn
     ·have hi' : i = f.aZ.length := by omega
      subst hi'
      rw [List.take_length] at hsum hall
      simp -dsimp -implicitDefEqProofs only [go_sem, ↓reduceIte, Tryz.f99, ef, aV.aN, Nat.lt_irrefl]
      exact fun _ => (decide_eq_true ⟨by assumption, q1, q3, hp, by rw [eN]; omega, hall⟩).symm
  ·exact no fun z => by simp_all
 ·exact no fun z => by simp_all
@[go_sem] def a1J : List Nat := [0, 2, 3, 9, 16, 22]
@[go_sem] def bJ7 : List Nat := []
@[go_sem] def bJ8 : Marks := fun _ => ([], .nil, [])
theorem a9U (p : aI) (hps : p.s ≤ 4194304) : e8 Tryz.prog 76 [.ip 1 [p.c] 0 0] (.bool (decide p.ok)) := by
 simp only [aI.aN]
 refine eI 23 a1J bJ7 bJ8 mix Tryz.func76 rfl (by kernel_rfl) (by simp) fun h => ?_
 simp -dsimp -implicitDefEqProofs only [go_sem, ↓reduceIte, Tryz.f76]
 repeat' (with_reducible first | intro _ | refine And.intro ?_ ?_)
 ·exact (decide_eq_false fun z => by have := z.1; omega).symm
 refine cS (keep := a1J) (ib := bJ7) (mk := bJ8) mix (by kernel_rfl) (fun k : Nat => [(0, .ip 1 [p.c] 0 0), (3, I k)]) (fun _ => h) (fun k => k ≤ p.aH.length ∧ ∀ (j : Nat) (f : aV), j < k → p.aH[j]? = some f → aAO p j f) (fun k => p.aH.length - k) 0 (by refine ⟨by simp [dA, cH, aI.aN], by repeat' (with_reducible first | exact aB.le_refl _ | refine (bD (by first | assumption | exact And.right (by assumption) | exact bU.2 (by assumption))).2 ?_), by simp⟩) ?_
 intro k ⟨hk, hp⟩
 simp only [aI.aN]
 rcases Nat.lt_or_ge k p.aH.length with hlt | hge
 ·have eg : p.aH[k]? = some p.aH[k] := List.getElem?_eq_getElem (by omega)
  simp -dsimp -implicitDefEqProofs only [go_sem, ↓reduceIte, Tryz.f76]
  repeat' (with_reducible first | intro _ | refine And.intro ?_ ?_)
  all_goals try omega
  first | refine aL.mk ((aWR p k p.aH[k] eg hps).sub (by repeat' (first | exact cD.nil | refine cD.cons ?_ ?_ | exact Sub.refl _ | (rw [aA.aN]; exact Sub.refl _) | exact Sub.dM rfl rfl rfl | exact Sub.ip (bS (by omega)) (by simp) | exact Sub.dM (bS (by omega)) rfl rfl | exact Sub.ip (by simp [*]) (by simp) | exact Sub.dM (by simp [*]) (by rfl) (by rfl)))) ?_ | refine aJ.mk ((aWR p k p.aH[k] eg hps).sub (by repeat' (first | exact cD.nil | refine cD.cons ?_ ?_ | exact Sub.refl _ | (rw [aA.aN]; exact Sub.refl _) | exact Sub.dM rfl rfl rfl | exact Sub.ip (bS (by omega)) (by simp) | exact Sub.dM (bS (by omega)) rfl rfl | exact Sub.ip (by simp [*]) (by simp) | exact Sub.dM (by simp [*]) (by rfl) (by rfl)))) ?_
  simp -dsimp -implicitDefEqProofs only [go_sem, ↓reduceIte, Tryz.f76]
  repeat' (with_reducible first | intro _ | refine And.intro ?_ ?_)
  ·rename_i hn
   exact (decide_eq_false fun z => hn (z.2 k _ eg)).symm
  ·rename_i hn
   refine ⟨k + 1, ?_⟩
   repeat' (with_reducible refine And.intro ?_ ?_)
   all_goals try (rw [IntWalk.i64_in _ (by omega)]; first | rfl | omega)
   all_goals try omega
   all_goals try (repeat' (with_reducible first | exact aB.le_refl _ | refine (bD (by first | assumption | exact And.right (by assumption) | exact bU.2 (by assumption))).2 ?_))
   all_goals try (simp only [aI.aN]; done)
   intro j f hj ej
   rcases Nat.lt_succ_iff_lt_or_eq.1 hj with h1 | rfl
   ·exact hp j f h1 ej
   ·rw [eg] at ej; obtain rfl := Option.some.inj ej; exact hn
 ·have hk' : k = p.aH.length := by omega
  subst hk'
  simp -dsimp -implicitDefEqProofs only [go_sem, ↓reduceIte, Tryz.f76, Nat.lt_irrefl]
  exact fun _ => (decide_eq_true ⟨by omega, fun j f ej => hp j f (List.getElem?_eq_some_iff.1 ej).1 ej⟩).symm
set_option maxRecDepth 100000
open Go.Proofs
set_option linter.unusedVariables false
set_option linter.unusedSimpArgs false
@[go_sem] def aWS : List Nat := [0, 1, 4, 5, 7, 8, 9, 16]
@[go_sem] def a9V : List Nat := []
@[go_sem] def a9W : Marks := fun _ => ([], .nil, [])
theorem aTM (a : List aV) (p : aV → Bool) (g : FuncId) (cap : List aD) {h0 : aB} (hc : ∀ x ∈ a, cZ Tryz.prog g ([(.agg (aV.c x))] ++ cap) (.bool (p x)) h0) : cZ Tryz.prog 147 [(c5 3 aV.c a), .fn (.func g) [] cap] (I (idxOf p a)) h0 := by
 refine aG4 19 aWS a9V a9W mix Tryz.func147 rfl (by kernel_rfl) (by simp) fun h hle => ?_
 simp -dsimp -implicitDefEqProofs only [go_sem, ↓reduceIte, Tryz.f147, Tryz.f147]
 intro _
 refine cS (keep := aWS) (ib := a9V) (mk := a9W) mix (by kernel_rfl) (fun k : Nat => [(0, (c5 3 aV.c a)), (1, .fn (.func g) [] cap), (7, I a.length), (8, I k)]) (fun _ => h) (fun k => k ≤ a.length ∧ ∀ x ∈ a.take k, p x = false) (fun k => a.length - k) 0 (by simp [dA, cH, aB.le_refl]) ?_
 intro k ⟨hk, hp⟩
 rcases Nat.lt_or_ge k a.length with hlt | hge
 ·have ea : a[k]? = some a[k] := List.getElem?_eq_getElem hlt
  simp -dsimp -implicitDefEqProofs only [go_sem, ↓reduceIte, Tryz.f147, Tryz.f147, ea, aV.aN]
  repeat' (with_reducible first | intro _ | refine And.intro ?_ ?_)
  all_goals try omega
  have hx := hc a[k] (List.getElem_mem hlt)
  simp only [aV.aN] at hx
  refine aJ.dF (hx.mono hle) ?_
  cases hpk : p a[k] with
  |true =>
   simp -dsimp -implicitDefEqProofs only [go_sem, ↓reduceIte, Tryz.f147, Tryz.f147]
   repeat' (with_reducible first | intro _ | refine And.intro ?_ ?_)
   all_goals first | exact (sU hlt hp hpk).symm | rfl | (rw [sU hlt hp hpk])
  |false =>
   simp -dsimp -implicitDefEqProofs only [go_sem, ↓reduceIte, Tryz.f147, Tryz.f147]
   refine ⟨k + 1, ?_⟩
   repeat' (with_reducible refine And.intro ?_ ?_)
   all_goals try (rw [IntWalk.i64_in _ (by omega)]; first | rfl | omega)
   all_goals try omega
   exact kG (P := fun x => p x = false) hlt hp hpk
 ·have hk' : k = a.length := by omega
  subst hk'
  rw [List.take_length] at hp
  simp -dsimp -implicitDefEqProofs only [go_sem, ↓reduceIte, Tryz.f147, Tryz.f147, Nat.lt_irrefl]
  all_goals first | exact (sT hp).symm | rw [sT hp]
@[go_sem] def a6F : List Nat := [0, 1, 4]
@[go_sem] def bJ9 : List Nat := []
@[go_sem] def bKA : Marks := fun _ => ([], .nil, [])
theorem aTN (a : List aV) (p : aV → Bool) (g : FuncId) (cap : List aD) {h0 : aB} (hc : ∀ x ∈ a, cZ Tryz.prog g ([(.agg (aV.c x))] ++ cap) (.bool (p x)) h0) : cZ Tryz.prog 122 [(c5 3 aV.c a), .fn (.func g) [] cap] (.bool (a.any p)) h0 := by
 refine aG4 9 a6F bJ9 bKA mix Tryz.func122 rfl (by kernel_rfl) (by simp) fun h hle => ?_
 simp -dsimp -implicitDefEqProofs only [go_sem, ↓reduceIte, Tryz.f122, Tryz.f122]
 refine aJ.dF ((aTM a p g cap hc).mono hle) ?_
 simp -dsimp -implicitDefEqProofs only [go_sem, ↓reduceIte, Tryz.f122, Tryz.f122]
 all_goals first | done | exact pA | rw [pA]
@[go_sem] def a6G : List Nat := [0, 1, 2, 3]
@[go_sem] def bKB : List Nat := [2]
@[go_sem] def bKC : Marks := fun _ => ([], .nil, [])
theorem aLT (g f : aV) (n : Nat) {h0 : aB} (hn : h0 n = some (.row 3 [f.c.map .v])) : cZ Tryz.prog 123 [.agg g.c, .op n 3 0 0] (.bool (decide (g.eC = f.eC))) h0 := by
 simp only [aV.aN]
 have hg (h : aB) (hle : h0.le h) := aB.a0B hle hn
 refine aG4 9 a6G bKB bKC mix Tryz.func123 rfl (by kernel_rfl) (by simp) fun h hle => ?_
 simp -dsimp -implicitDefEqProofs only [go_sem, ↓reduceIte, Tryz.f123]
 have hn' := hg h hle
 simp only [aV.aN] at hn'
 simp -dsimp -implicitDefEqProofs only [go_sem, ↓reduceIte, Tryz.f123, hn']
@[go_sem] def aOH : List Nat := [0, 1, 2, 3, 4, 5, 7, 11, 13, 14, 15, 16, 31, 42, 44, 45, 46, 47, 56, 63]
@[go_sem] def a1K : List Nat := [1]
@[go_sem] def a1L : Marks := fun _ => ([], .nil, [])
theorem aOI (p : aI) (hps : p.s ≤ 4194304) : e8 Tryz.prog 105 [.agg p.c] (.bool (decide p.ok)) := by
 simp only [aI.aN]
 refine eI 65 aOH a1K a1L mix Tryz.func105 rfl (by kernel_rfl) (by simp) fun h => ?_
 simp -dsimp -implicitDefEqProofs only [go_sem, ↓reduceIte, Tryz.f105]
 repeat' (with_reducible first | intro _ | refine And.intro ?_ ?_)
 ·exact (decide_eq_false fun z => by have := z.1; omega).symm
 refine cS (keep := aOH) (ib := a1K) (mk := a1L) mix (by kernel_rfl) (fun k : Nat => [(1, .ip 1 [p.c] 0 0), (13, c5 3 aV.c p.aH), (14, I p.aH.length), (15, I k)]) (fun _ => h) (fun k => k ≤ p.aH.length ∧ ∀ (j : Nat) (f : aV), j < k → p.aH[j]? = some f → aAO p j f) (fun k => p.aH.length - k) 0 (by refine ⟨by simp [dA, cH, aI.aN], by repeat' (with_reducible first | exact aB.le_refl _ | refine (bD (by first | assumption | exact And.right (by assumption) | exact bU.2 (by assumption))).2 ?_), by simp⟩) ?_
 intro k ⟨hk, hp⟩
 simp only [aI.aN]
 rcases Nat.lt_or_ge k p.aH.length with hlt | hge
 ·obtain ⟨f, eg⟩ : ∃ f, p.aH[k]? = some f := ⟨_, List.getElem?_eq_getElem hlt⟩
  have hfs := aI.aJS (List.mem_of_getElem? eg)
  have hos := f.aJT
  have no (q : ¬ aAO p k f) : false = decide p.ok := (decide_eq_false fun z => q (z.2 k f eg)).symm
  simp -dsimp -implicitDefEqProofs only [go_sem, ↓reduceIte, Tryz.f105, eg, aV.aN, aF]
  repeat' (with_reducible first | intro _ | refine And.intro ?_ ?_)
  all_goals try omega
  rename_i n hn
  first | refine aJ.mk (aOA f.eC) ?_ | refine aL.mk (aOA f.eC) ?_ | refine aJ.dF (aOA f.eC) ?_ | refine aL.mk (cZ.gC (aOA f.eC)) ?_
  simp -dsimp -implicitDefEqProofs only [go_sem, ↓reduceIte, Tryz.f105, a7, aF]
  repeat' (with_reducible first | intro _ | refine And.intro ?_ ?_)
  all_goals try (repeat' (with_reducible first | exact aB.le_refl _ | refine (bD (by first | assumption | exact And.right (by assumption) | exact bU.2 (by assumption))).2 ?_))
  all_goals try omega
  all_goals try (rename_i hnm; exact no fun z => hnm z.1)
  rename_i hnm
  rw [← List.map_take]
  refine aJ.dF (aTN (p.aH.take k) (fun g => decide (g.eC = f.eC)) 123 [.op n 3 0 0] fun g _ => aLT g f n (by simp [a7, aV.aN])) ?_
  simp -dsimp -implicitDefEqProofs only [go_sem, ↓reduceIte, Tryz.f105, a7, aF]
  repeat' (with_reducible first | intro _ | refine And.intro ?_ ?_)
  all_goals try (repeat' (with_reducible first | exact aB.le_refl _ | refine (bD (by first | assumption | exact And.right (by assumption) | exact bU.2 (by assumption))).2 ?_))
  ·rename_i q
   refine no fun z => ?_
   obtain ⟨g, l8, hg2⟩ := List.any_eq_true.1 q
   exact z.2.2.2.1 g l8 (by simpa using hg2)
  rename_i hnd
  have hnd' : ∀ g ∈ p.aH.take k, g.eC ≠ f.eC := fun g hg => by
   have := List.any_eq_false.1 hnd g hg
   simpa using this
  first | refine aJ.mk (within f.bE 0 12) ?_ | refine aL.mk (within f.bE 0 12) ?_ | refine aJ.dF (within f.bE 0 12) ?_ | refine aL.mk (cZ.gC (within f.bE 0 12)) ?_
  simp -dsimp -implicitDefEqProofs only [go_sem, ↓reduceIte, Tryz.f105, a7, aF]
  repeat' (with_reducible first | intro _ | refine And.intro ?_ ?_)
  all_goals try (repeat' (with_reducible first | exact aB.le_refl _ | refine (bD (by first | assumption | exact And.right (by assumption) | exact bU.2 (by assumption))).2 ?_))
  ·first | refine aJ.mk (within f.aZ.length 1 12) ?_ | refine aL.mk (within f.aZ.length 1 12) ?_ | refine aJ.dF (within f.aZ.length 1 12) ?_ | refine aL.mk (cZ.gC (within f.aZ.length 1 12)) ?_
   simp -dsimp -implicitDefEqProofs only [go_sem, ↓reduceIte, Tryz.f105, a7, aF]
   repeat' (with_reducible first | intro _ | refine And.intro ?_ ?_)
   all_goals try (repeat' (with_reducible first | exact aB.le_refl _ | refine (bD (by first | assumption | exact And.right (by assumption) | exact bU.2 (by assumption))).2 ?_))
   ·rename_i q
    exact no fun z => q z.2.2.1
   ·rename_i q1 q2 q3 q4
    have part (i : Nat) (hi : i < f.aZ.length) : i + ((f.aZ.take i).map aA.s).sum + f.aZ[i].s + 1 ≤ uX aA.s f.aZ := by
     have h1 := gI aA.s f.aZ i hi
     have h2 := mM aA.s f.aZ (i + 1)
     rw [eN]; omega
    have hszs : uX aA.s f.aZ ≤ f.s := by rw [f.fR]; omega
    refine cS (keep := aOH) (ib := a1K) (mk := a1L) mix (by kernel_rfl) (fun i : Nat => [(1, .ip 1 [p.c] 0 0), (3, I k), (4, .op n 3 0 0), (5, I ((i + ((f.aZ.take i).map aA.s).sum : Nat) : Int)), (13, c5 3 aV.c p.aH), (14, I p.aH.length), (15, I k), (44, c5 5 aA.c f.aZ), (45, I f.aZ.length), (46, I i)]) (fun _ => bK h n (.row 3 [f.c.map .v])) (fun i => i ≤ f.aZ.length ∧ ∀ e ∈ f.aZ.take i, l7 p e f.bE k) (fun i => f.aZ.length - i) 0 (by refine ⟨by simp [dA, cH, aI.aN], by simp [aV.aN, aB.le_refl], by simp⟩) ?_
    intro i ⟨hi, hall⟩
    simp only [aI.aN, aV.aN, List.map_cons, List.map_nil]
    rcases Nat.lt_or_ge i f.aZ.length with aAP | a6H
    ·have h1 := gI aA.s f.aZ i aAP
     have hpt := part i aAP
     have hout := aV.a9R (List.getElem_mem aAP)
     have ee : f.aZ[i]? = some f.aZ[i] := List.getElem?_eq_getElem aAP
     have hv := aYR p f.aZ[i] f.bE k (by omega) (by omega)
     have hz := aJO f.aZ[i] (by omega)
     simp only [aA.aN, aI.aN] at hv hz
     simp -dsimp -implicitDefEqProofs only [go_sem, ↓reduceIte, Tryz.f105, ee, aA.aN, aF]
     repeat' (with_reducible first | intro _ | refine And.intro ?_ ?_)
     all_goals try omega
     rename_i m hm
     have hmn : (n = m) = False := eq_false fun e => hm.1 e.symm
     have bC9 : (m = n) = False := eq_false hm.1
     simp -dsimp -implicitDefEqProofs only [go_sem, ↓reduceIte, Tryz.f105, a7, hmn, bC9]
     first | refine aJ.mk (hv) ?_ | refine aL.mk (hv) ?_ | refine aJ.dF (hv) ?_ | refine aL.mk (cZ.gC (hv)) ?_
     simp -dsimp -implicitDefEqProofs only [go_sem, ↓reduceIte, Tryz.f105, a7, hmn, bC9]
     repeat' (with_reducible first | intro _ | refine And.intro ?_ ?_)
     ·rename_i hne
      exact no fun z => hne (z.2.2.2.2.2 _ (List.getElem_mem aAP))
     ·all_goals try (repeat' (with_reducible first | exact aB.le_refl _ | refine (bD (by first | assumption | exact And.right (by assumption) | exact bU.2 (by assumption))).2 ?_))
     ·rename_i hne
      first | refine aJ.mk (hz) ?_ | refine aL.mk (hz) ?_ | refine aJ.dF (hz) ?_ | refine aL.mk (cZ.gC (hz)) ?_
      simp -dsimp -implicitDefEqProofs only [go_sem, ↓reduceIte, Tryz.f105, a7, hmn, bC9]
      refine ⟨i + 1, ?_⟩
      repeat' (with_reducible refine And.intro ?_ ?_)
      all_goals try (rw [IntWalk.i64_in _ (by omega)]; first | rfl | omega)
      all_goals try omega
      all_goals try (repeat' (with_reducible first | exact aB.le_refl _ | refine (bD (by first | assumption | exact And.right (by assumption) | exact bU.2 (by assumption))).2 ?_))
      all_goals try (simp only [aI.aN]; done)
      exact kG (P := fun e => l7 p e f.bE k) aAP hall hne
    ·have hi' : i = f.aZ.length := by omega
     subst hi'
     rw [List.take_length] at hall ⊢
     simp -dsimp -implicitDefEqProofs only [go_sem, ↓reduceIte, Tryz.f105, Nat.lt_irrefl]
     have hss : uX aA.s f.aZ = f.aZ.length + (f.aZ.map aA.s).sum := eN _ _
     repeat' (with_reducible first | intro _ | refine And.intro ?_ ?_)
     all_goals try (repeat' (with_reducible first | exact aB.le_refl _ | refine (bD (by first | assumption | exact And.right (by assumption) | exact bU.2 (by assumption))).2 ?_))
     ·rename_i q
      exact no fun z => by have := z.2.2.2.2.1; omega
     ·rename_i q
      have hfk : aAO p k f := ⟨hnm, q1, q3, hnd', by omega, hall⟩
      refine ⟨k + 1, ?_⟩
      repeat' (with_reducible refine And.intro ?_ ?_)
      all_goals try (rw [IntWalk.i64_in _ (by omega)]; first | rfl | omega)
      all_goals try omega
      all_goals try (repeat' (with_reducible first | exact aB.le_refl _ | refine (bD (by first | assumption | exact And.right (by assumption) | exact bU.2 (by assumption))).2 ?_))
      intro j f' hj ej
      rcases Nat.lt_succ_iff_lt_or_eq.1 hj with h1 | rfl
      ·exact hp j f' h1 ej
      ·rw [eg] at ej; obtain rfl := Option.some.inj ej; exact hfk
  ·rename_i q
   exact no fun z => q z.2.1
 ·have hk' : k = p.aH.length := by omega
  subst hk'
  simp -dsimp -implicitDefEqProofs only [go_sem, ↓reduceIte, Tryz.f105, Nat.lt_irrefl]
  exact (decide_eq_true ⟨by omega, fun j f ej => hp j f (List.getElem?_eq_some_iff.1 ej).1 ej⟩).symm
set_option maxRecDepth 100000
open Go.Proofs
set_option linter.unusedVariables false
set_option linter.unusedSimpArgs false
@[go_sem] def bDA : List Nat := [0, 1, 2, 4, 5, 9]
@[go_sem] def bRD : List Nat := [2]
@[go_sem] def bRE : Marks := fun _ => ([], .nil, [])
theorem a1M (p : aI) (f : Int) (hps : p.s ≤ 4194304) : e8 Tryz.prog 85 [.agg p.c, I f] (I (if p.ok then if 0 ≤ f ∧ f ≤ (p.aH.length : Int) - 1 then 0 else 2 else 1)) := by
 have hv := aOI p hps
 simp only [aI.aN] at hv ⊢
 refine eI 17 bDA bRD bRE mix Tryz.func85 rfl (by kernel_rfl) (by simp) fun h => ?_
 simp -dsimp -implicitDefEqProofs only [go_sem, ↓reduceIte, Tryz.f85]
 first | refine aJ.mk (hv) ?_ | refine aL.mk (hv) ?_ | refine aJ.dF (hv) ?_ | refine aL.mk (cZ.gC (hv)) ?_
 simp -dsimp -implicitDefEqProofs only [go_sem, ↓reduceIte, Tryz.f85]
 repeat' (with_reducible first | intro _ | refine And.intro ?_ ?_)
 ·rename_i hn
  rw [if_neg hn]
 ·rename_i hn _
  rw [if_pos hn]
  all_goals try simp (disch := omega) only [IntWalk.i64_in]
  first | refine aJ.mk (within f 0 (p.aH.length - 1)) ?_ | refine aL.mk (within f 0 (p.aH.length - 1)) ?_ | refine aJ.dF (within f 0 (p.aH.length - 1)) ?_ | refine aL.mk (cZ.gC (within f 0 (p.aH.length - 1))) ?_
  simp -dsimp -implicitDefEqProofs only [go_sem, ↓reduceIte, Tryz.f85]
  repeat' (with_reducible first | intro _ | refine And.intro ?_ ?_)
  ·rename_i q
   rw [if_neg q]
  ·rename_i q
   rw [if_pos q]
def e7.okF (j : e7) (f : aV) : Prop := (0 ≤ j.aX ∧ j.aX ≤ f.bE) ∧ ((j.cX.length : Int) = j.aX ∧ pB j.cX) ∧ (j.bO.length : Int) ≤ 10 ∧ ∀ t ∈ j.bO, (t.length : Int) = f.bE - j.aX ∧ pB t
def e7.ok (j : e7) : Prop := j.bN.ok ∧ (0 ≤ j.b8 ∧ j.b8 ≤ (j.bN.aH.length : Int) - 1) ∧ ∀ f, j.bN.aH[j.b8.toNat]? = some f → j.okF f
noncomputable instance (j : e7) : Decidable j.ok := Classical.propDecidable _
@[go_sem] def a1N : List Nat := [0, 2, 3, 4, 24, 71, 78, 106]
@[go_sem] def bKD : List Nat := []
@[go_sem] def bKE : Marks := fun id => match id with | 1 => ([], (.op 0 (.op 1 (.op 2 (.op 3 (.op 4 (.op 5 (.op 6 (.op 7 (.op 8 (.op 9 (.op 10 (.op 11 (.op 12 (.op 13 (.op 14 (.op 15 (.op 16 (.op 17 (.op 18 (.op 19 .nil)))))))))))))))))))), []) | 3 => ([], (.op 0 (.op 1 (.op 2 (.op 3 (.op 4 (.op 5 (.op 6 (.op 7 (.op 8 (.op 9 (.op 10 (.op 11 (.op 12 .nil))))))))))))), []) | 4 => ([], (.op 0 (.op 1 (.op 2 (.op 3 (.op 4 (.op 5 (.op 6 (.op 7 (.op 8 (.op 9 (.op 10 (.op 11 (.op 12 (.op 13 (.op 14 (.op 15 (.op 16 (.op 17 (.op 18 (.op 19 (.op 20 (.op 21 (.op 22 (.op 23 (.op 24 (.op 25 (.op 26 (.op 27 (.op 28 (.op 29 (.op 30 (.op 31 (.op 32 (.op 33 (.op 34 .nil))))))))))))))))))))))))))))))))))), []) | 9 => ([], (.op 0 (.op 1 (.op 2 (.op 3 (.op 4 (.op 5 (.op 6 (.op 7 (.op 8 (.op 9 (.op 10 (.op 11 (.op 12 (.op 13 (.op 14 (.op 15 (.op 16 (.op 17 (.op 18 (.op 19 (.op 20 (.op 21 (.op 22 (.op 23 (.op 24 (.op 25 .nil)))))))))))))))))))))))))), []) | _ => ([], .nil, [])
theorem a1O (j : e7) (hps : j.bN.s ≤ 4194304) : e8 Tryz.prog 43 [.ip 5 [j.c] 0 0] (.bool (decide j.ok)) := by
 have hl := j.bN.aJR
 have e1 : IntKind.i64.wrap ((j.bN.aH.length : Int) - 1) = j.bN.aH.length - 1 := IntWalk.i64_in _ (by omega)
 simp only [e7.aN]
 refine eI 107 a1N bKD bKE mix Tryz.func43 rfl (by kernel_rfl) (by simp) fun h => ?_
 simp -dsimp -implicitDefEqProofs only [go_sem, ↓reduceIte, Tryz.f43, e1]
 first | refine aL.mk ((a9U j.bN hps).sub (by repeat' (first | exact cD.nil | refine cD.cons ?_ ?_ | exact Sub.refl _ | (rw [aA.aN]; exact Sub.refl _) | exact Sub.dM rfl rfl rfl | exact Sub.ip (bS (by omega)) (by simp) | exact Sub.dM (bS (by omega)) rfl rfl | exact Sub.ip (by simp [*]) (by simp) | exact Sub.dM (by simp [*]) (by rfl) (by rfl)))) ?_ | refine aJ.mk ((a9U j.bN hps).sub (by repeat' (first | exact cD.nil | refine cD.cons ?_ ?_ | exact Sub.refl _ | (rw [aA.aN]; exact Sub.refl _) | exact Sub.dM rfl rfl rfl | exact Sub.ip (bS (by omega)) (by simp) | exact Sub.dM (bS (by omega)) rfl rfl | exact Sub.ip (by simp [*]) (by simp) | exact Sub.dM (by simp [*]) (by rfl) (by rfl)))) ?_
 simp -dsimp -implicitDefEqProofs only [go_sem, ↓reduceIte, Tryz.f43, e1]
 repeat' (with_reducible first | intro _ | refine And.intro ?_ ?_)
 ·rename_i hp
  first | refine aJ.mk (fG j.b8 0 (j.bN.aH.length - 1)) ?_ | refine aL.mk (fG j.b8 0 (j.bN.aH.length - 1)) ?_ | refine aJ.dF (fG j.b8 0 (j.bN.aH.length - 1)) ?_ | refine aL.mk (cZ.gC (fG j.b8 0 (j.bN.aH.length - 1))) ?_
  simp -dsimp -implicitDefEqProofs only [go_sem, ↓reduceIte, Tryz.f43, e1]
  repeat' (with_reducible first | intro _ | refine And.intro ?_ ?_)
  ·rename_i hr
   exact (decide_eq_false fun z => hr z.2.1).symm
  all_goals try omega
  rename_i hr
  obtain ⟨f, ef⟩ : ∃ f, j.bN.aH[j.b8.toNat]? = some f := ⟨_, List.getElem?_eq_getElem (by omega)⟩
  have hfo := hp.2 _ f ef
  have hj : j.ok ↔ j.okF f := ⟨fun z => z.2.2 f ef, fun z => ⟨hp, hr, fun g eg => by rw [ef] at eg; obtain rfl := Option.some.inj eg; exact z⟩⟩
  have hp1 := hfo.2.1
  simp -dsimp -implicitDefEqProofs only [go_sem, ↓reduceIte, Tryz.f43, ef, aV.aN]
  first | refine aJ.mk (fG j.aX 0 f.bE) ?_ | refine aL.mk (fG j.aX 0 f.bE) ?_ | refine aJ.dF (fG j.aX 0 f.bE) ?_ | refine aL.mk (cZ.gC (fG j.aX 0 f.bE)) ?_
  simp -dsimp -implicitDefEqProofs only [go_sem, ↓reduceIte, Tryz.f43]
  repeat' (with_reducible first | intro _ | refine And.intro ?_ ?_)
  ·rename_i hsh hlen
   first | refine aJ.mk (jY j.cX) ?_ | refine aL.mk (jY j.cX) ?_ | refine aJ.dF (jY j.cX) ?_ | refine aL.mk (cZ.gC (jY j.cX)) ?_
   simp -dsimp -implicitDefEqProofs only [go_sem, ↓reduceIte, Tryz.f43]
   repeat' (with_reducible first | intro _ | refine And.intro ?_ ?_)
   ·exact (decide_eq_false fun z => by have := (hj.1 z).2.2.1; omega).symm
   ·have e4 : IntKind.i64.wrap (f.bE - j.aX) = f.bE - j.aX := IntWalk.i64_in _ (by omega)
    refine cS (keep := a1N) (ib := bKD) (mk := bKE) mix (by kernel_rfl) (fun k : Nat => [(0, .ip 5 [j.c] 0 0), (3, I f.bE), (4, I k)]) (fun _ => h) (fun k => k ≤ j.bO.length ∧ ∀ t ∈ j.bO.take k, (t.length : Int) = f.bE - j.aX ∧ pB t) (fun k => j.bO.length - k) 0 (by refine ⟨by simp [dA, cH, e7.aN], by repeat' (with_reducible first | exact aB.le_refl _ | refine (bD (by first | assumption | exact And.right (by assumption) | exact bU.2 (by assumption))).2 ?_), by simp⟩) ?_
    intro k ⟨hk, hall⟩
    simp only [e7.aN]
    rcases Nat.lt_or_ge k j.bO.length with hlt | hge
    ·have ea : j.bO[k]? = some j.bO[k] := List.getElem?_eq_getElem hlt
     have no (q : ¬ ((j.bO[k].length : Int) = f.bE - j.aX ∧ pB j.bO[k])) : false = decide j.ok := (decide_eq_false fun z => q ((hj.1 z).2.2.2 _ (List.getElem_mem hlt))).symm
     simp -dsimp -implicitDefEqProofs only [go_sem, ↓reduceIte, Tryz.f43, ea, e4]
     repeat' (with_reducible first | intro _ | refine And.intro ?_ ?_)
     all_goals try omega
     ·first | refine aJ.mk (jY j.bO[k]) ?_ | refine aL.mk (jY j.bO[k]) ?_ | refine aJ.dF (jY j.bO[k]) ?_ | refine aL.mk (cZ.gC (jY j.bO[k])) ?_
      simp -dsimp -implicitDefEqProofs only [go_sem, ↓reduceIte, Tryz.f43]
      repeat' (with_reducible first | intro _ | refine And.intro ?_ ?_)
      ·rename_i q4 q5
       exact no fun z => q5 z.2
      ·rename_i q4 q5
       refine ⟨k + 1, ?_⟩
       repeat' (with_reducible refine And.intro ?_ ?_)
       all_goals try (rw [IntWalk.i64_in _ (by omega)]; first | rfl | omega)
       all_goals try omega
       all_goals try (repeat' (with_reducible first | exact aB.le_refl _ | refine (bD (by first | assumption | exact And.right (by assumption) | exact bU.2 (by assumption))).2 ?_))
       all_goals try (simp only [e7.aN]; done)
       exact kG (P := fun t : List Int => (t.length : Int) = f.bE - j.aX ∧ pB t) hlt hall ⟨q4, q5⟩
     ·rename_i q4
      exact no fun z => q4 z.1
    ·have hk' : k = j.bO.length := by omega
     subst hk'
     rw [List.take_length] at hall
     simp -dsimp -implicitDefEqProofs only [go_sem, ↓reduceIte, Tryz.f43, Nat.lt_irrefl]
     exact fun _ => (decide_eq_true (hj.2 ⟨hsh, ⟨by assumption, by assumption⟩, by omega, hall⟩)).symm
   ·rename_i q2
    exact (decide_eq_false fun z => q2 (hj.1 z).2.1.2).symm
  ·rename_i q
   exact (decide_eq_false fun z => q (hj.1 z).2.1.1).symm
  ·rename_i q
   exact (decide_eq_false fun z => q (hj.1 z).1).symm
 ·rename_i hp
  exact (decide_eq_false fun z => hp z.1).symm
@[go_sem] def bDB : List Nat := [0, 1, 3]
@[go_sem] def bRF : List Nat := []
@[go_sem] def bRG : Marks := fun _ => ([], .nil, [])
theorem aYS (l : List Int) (c : Int) (n : Nat) {h0 : aB} (hn : h0 n = some (.row 1 [[.v (I c)]])) : cZ Tryz.prog 87 [c5 1 (fun n => [I n]) l, .op n 1 0 0] (.bool (!decide ((l.length : Int) = c ∧ pB l))) h0 := by
 have hg (h : aB) (hle : h0.le h) := aB.a0B hle hn
 refine aG4 8 bDB bRF bRG mix Tryz.func87 rfl (by kernel_rfl) (by simp) fun h hle => ?_
 simp -dsimp -implicitDefEqProofs only [go_sem, ↓reduceIte, Tryz.f87]
 have hn' := hg h hle
 simp -dsimp -implicitDefEqProofs only [go_sem, ↓reduceIte, Tryz.f87, hn']
 first | refine aJ.mk (fW l c) ?_ | refine aL.mk (fW l c) ?_ | refine aJ.dF (fW l c) ?_ | refine aL.mk (cZ.gC (fW l c)) ?_
 simp -dsimp -implicitDefEqProofs only [go_sem, ↓reduceIte, Tryz.f87]
@[go_sem] def aWU : List Nat := [0, 1, 4, 5, 7, 8, 9, 16]
@[go_sem] def a9X : List Nat := []
@[go_sem] def a9Y : Marks := fun _ => ([], .nil, [])
theorem aOJ (a : List (List Int)) (p : (List Int) → Bool) (g : FuncId) (cap : List aD) {h0 : aB} (hc : ∀ x ∈ a, cZ Tryz.prog g ([(c5 1 (fun n => [I n]) x)] ++ cap) (.bool (p x)) h0) : cZ Tryz.prog 106 [(c5 1 (fun x => [c5 1 (fun n => [I n]) x]) a), .fn (.func g) [] cap] (I (idxOf p a)) h0 := by
 refine aG4 19 aWU a9X a9Y mix Tryz.func106 rfl (by kernel_rfl) (by simp) fun h hle => ?_
 simp -dsimp -implicitDefEqProofs only [go_sem, ↓reduceIte, Tryz.f106, Tryz.f106]
 intro _
 refine cS (keep := aWU) (ib := a9X) (mk := a9Y) mix (by kernel_rfl) (fun k : Nat => [(0, (c5 1 (fun x => [c5 1 (fun n => [I n]) x]) a)), (1, .fn (.func g) [] cap), (7, I a.length), (8, I k)]) (fun _ => h) (fun k => k ≤ a.length ∧ ∀ x ∈ a.take k, p x = false) (fun k => a.length - k) 0 (by simp [dA, cH, aB.le_refl]) ?_
 intro k ⟨hk, hp⟩
 rcases Nat.lt_or_ge k a.length with hlt | hge
 ·have ea : a[k]? = some a[k] := List.getElem?_eq_getElem hlt
  simp -dsimp -implicitDefEqProofs only [go_sem, ↓reduceIte, Tryz.f106, Tryz.f106, ea]
  repeat' (with_reducible first | intro _ | refine And.intro ?_ ?_)
  all_goals try omega
  have hx := hc a[k] (List.getElem_mem hlt)
  refine aJ.dF (hx.mono hle) ?_
  cases hpk : p a[k] with
  |true =>
   simp -dsimp -implicitDefEqProofs only [go_sem, ↓reduceIte, Tryz.f106, Tryz.f106]
   repeat' (with_reducible first | intro _ | refine And.intro ?_ ?_)
   all_goals first | exact (sU hlt hp hpk).symm | rfl | (rw [sU hlt hp hpk])
  |false =>
   simp -dsimp -implicitDefEqProofs only [go_sem, ↓reduceIte, Tryz.f106, Tryz.f106]
   refine ⟨k + 1, ?_⟩
   repeat' (with_reducible refine And.intro ?_ ?_)
   all_goals try (rw [IntWalk.i64_in _ (by omega)]; first | rfl | omega)
   all_goals try omega
   exact kG (P := fun x => p x = false) hlt hp hpk
 ·have hk' : k = a.length := by omega
  subst hk'
  rw [List.take_length] at hp
  simp -dsimp -implicitDefEqProofs only [go_sem, ↓reduceIte, Tryz.f106, Tryz.f106, Nat.lt_irrefl]
  all_goals first | exact (sT hp).symm | rw [sT hp]
@[go_sem] def bDC : List Nat := [0, 1, 4]
@[go_sem] def bRH : List Nat := []
@[go_sem] def bRI : Marks := fun _ => ([], .nil, [])
theorem aOK (a : List (List Int)) (p : (List Int) → Bool) (g : FuncId) (cap : List aD) {h0 : aB} (hc : ∀ x ∈ a, cZ Tryz.prog g ([(c5 1 (fun n => [I n]) x)] ++ cap) (.bool (p x)) h0) : cZ Tryz.prog 86 [(c5 1 (fun x => [c5 1 (fun n => [I n]) x]) a), .fn (.func g) [] cap] (.bool (a.any p)) h0 := by
 refine aG4 9 bDC bRH bRI mix Tryz.func86 rfl (by kernel_rfl) (by simp) fun h hle => ?_
 simp -dsimp -implicitDefEqProofs only [go_sem, ↓reduceIte, Tryz.f86, Tryz.f86]
 refine aJ.dF ((aOJ a p g cap hc).mono hle) ?_
 simp -dsimp -implicitDefEqProofs only [go_sem, ↓reduceIte, Tryz.f86, Tryz.f86]
 all_goals first | done | exact pA | rw [pA]
@[go_sem] def a1P : List Nat := [0, 1, 2, 3, 31]
@[go_sem] def bKF : List Nat := [1]
@[go_sem] def bKG : Marks := fun id => match id with | 1 => ([], (.op 0 (.op 1 (.op 2 (.op 3 (.op 4 (.op 5 (.op 6 (.op 7 (.op 8 (.op 9 (.op 10 (.op 11 (.op 12 (.op 13 (.op 14 (.op 15 (.op 16 (.op 17 (.op 18 (.op 19 (.op 20 (.op 21 (.op 22 (.op 23 (.op 24 (.op 25 (.op 26 (.op 27 .nil)))))))))))))))))))))))))))), []) | 3 => ([11, 12], (.op 0 (.op 1 (.op 2 (.op 3 (.op 4 (.op 5 (.op 6 (.op 7 (.op 8 (.op 9 (.op 10 (.op 11 (.op 12 .nil))))))))))))), []) | _ => ([], .nil, [])
theorem a1Q (j : e7) (hps : j.bN.s ≤ 4194304) : e8 Tryz.prog 55 [.agg j.c] (.bool (decide j.ok)) := by
 have hif := a1M j.bN j.b8 hps
 have hl := j.bN.aJR
 simp only [e7.aN, aI.aN] at hif ⊢
 by_cases hp : j.bN.ok ∧ (0 ≤ j.b8 ∧ j.b8 ≤ (j.bN.aH.length : Int) - 1)
 ·obtain ⟨hp, hr⟩ := hp
  rw [if_pos hp, if_pos hr] at hif
  obtain ⟨f, ef⟩ : ∃ f, j.bN.aH[j.b8.toNat]? = some f := ⟨_, List.getElem?_eq_getElem (by omega)⟩
  have hfo := hp.2 _ f ef
  have hj : j.ok ↔ j.okF f := ⟨fun z => z.2.2 f ef, fun z => ⟨hp, hr, fun g eg => by rw [ef] at eg; obtain rfl := Option.some.inj eg; exact z⟩⟩
  have hp1 := hfo.2.1
  refine eI 54 a1P bKF bKG mix Tryz.func55 rfl (by kernel_rfl) (by simp) fun h => ?_
  simp -dsimp -implicitDefEqProofs only [go_sem, ↓reduceIte, Tryz.f55]
  first | refine aJ.mk (hif) ?_ | refine aL.mk (hif) ?_ | refine aJ.dF (hif) ?_ | refine aL.mk (cZ.gC (hif)) ?_
  simp -dsimp -implicitDefEqProofs only [go_sem, ↓reduceIte, Tryz.f55, ef, aV.aN]
  repeat' (with_reducible first | intro _ | refine And.intro ?_ ?_)
  all_goals try omega
  first | refine aJ.mk (within j.aX 0 f.bE) ?_ | refine aL.mk (within j.aX 0 f.bE) ?_ | refine aJ.dF (within j.aX 0 f.bE) ?_ | refine aL.mk (cZ.gC (within j.aX 0 f.bE)) ?_
  simp -dsimp -implicitDefEqProofs only [go_sem, ↓reduceIte, Tryz.f55, ef, aV.aN]
  repeat' (with_reducible first | intro _ | refine And.intro ?_ ?_)
  ·first | refine aJ.mk (fW j.cX j.aX) ?_ | refine aL.mk (fW j.cX j.aX) ?_ | refine aJ.dF (fW j.cX j.aX) ?_ | refine aL.mk (cZ.gC (fW j.cX j.aX)) ?_
   simp -dsimp -implicitDefEqProofs only [go_sem, ↓reduceIte, Tryz.f55, ef, aV.aN]
   repeat' (with_reducible first | intro _ | refine And.intro ?_ ?_)
   all_goals try omega
   ·rename_i q
    exact (decide_eq_false fun z => q (hj.1 z).2.1).symm
   ·rename_i n hn q1 q2
    rw [IntWalk.i64_in _ (by omega)]
    refine aJ.dF (aOK j.bO (fun t => !decide ((t.length : Int) = f.bE - j.aX ∧ pB t)) 87 [.op n 1 0 0] fun t _ => aYS t (f.bE - j.aX) n (by simp [a7])) ?_
    simp -dsimp -implicitDefEqProofs only [go_sem, ↓reduceIte, Tryz.f55]
    repeat' (with_reducible first | intro _ | refine And.intro ?_ ?_)
    all_goals try (repeat' (with_reducible first | exact aB.le_refl _ | refine (bD (by first | assumption | exact And.right (by assumption) | exact bU.2 (by assumption))).2 ?_))
    rw [aWA, decide_eq_decide, hj]
    exact ⟨fun q => ⟨by assumption, by assumption, by omega, q⟩, fun q => q.2.2.2⟩
   ·rename_i q
    exact (decide_eq_false fun z => q (by have := (hj.1 z).2.2.1; omega)).symm
   ·all_goals try (repeat' (with_reducible first | exact aB.le_refl _ | refine (bD (by first | assumption | exact And.right (by assumption) | exact bU.2 (by assumption))).2 ?_))
  ·rename_i q
   exact (decide_eq_false fun z => q (hj.1 z).1).symm
 ·have hne : ¬ (if j.bN.ok then if 0 ≤ j.b8 ∧ j.b8 ≤ (j.bN.aH.length : Int) - 1 then 0 else 2 else 1 : Int) = 0 := by
   intro q
   split at q
   ·split at q
    ·rename_i a b
     exact hp ⟨a, b⟩
    ·cases q
   ·cases q
  refine eI 54 a1P bKF bKG mix Tryz.func55 rfl (by kernel_rfl) (by simp) fun h => ?_
  simp -dsimp -implicitDefEqProofs only [go_sem, ↓reduceIte, Tryz.f55]
  first | refine aJ.mk (hif) ?_ | refine aL.mk (hif) ?_ | refine aJ.dF (hif) ?_ | refine aL.mk (cZ.gC (hif)) ?_
  simp -dsimp -implicitDefEqProofs only [go_sem, ↓reduceIte, Tryz.f55]
  repeat' (with_reducible first | intro _ | refine And.intro ?_ ?_)
  all_goals try (exact absurd (by assumption) hne)
  exact (decide_eq_false fun z => hp ⟨z.1, z.2.1⟩).symm
set_option maxRecDepth 100000
open Go.Proofs
set_option linter.unusedVariables false
set_option linter.unusedSimpArgs false
def aOL (j : e7) (l : List Int) : Prop := (l.length : Int) = j.aX ∧ pB l
def rR (j : e7) (p : bI) : Prop := if p.cM = 0 then nZ p.gB ∧ aOL j p.iJ else (p.cM = 6 ∨ p.cM = 7) ∧ p.gB = 0 ∧ p.iJ = []
noncomputable instance (j : e7) (p : bI) : Decidable (rR j p) := Classical.propDecidable _
def aEH (j : e7) (st ow : Int) (kn : Bool) (p : bI) : Prop := (0 ≤ st ∧ st ≤ 50) ∧ (-1 ≤ ow ∧ ow ≤ 3) ∧ (kn = true → ow = -1 ∧ rR j p) ∧ (kn = false → p.cM = 0 ∧ p.gB = 0 ∧ p.iJ = [])
def aR.ok (s : aR) : Prop := s.bF.ok ∧ (s.aY.length = s.bF.bO.length ∧ s.cB.length = s.bF.bO.length ∧ s.b7.length = s.bF.bO.length ∧ s.b9.length = s.bF.bO.length) ∧
 ∀ (k : Nat) (st ow : Int) (kn : Bool) (p : bI), s.aY[k]? = some st → s.b9[k]? = some ow → s.cB[k]? = some kn → s.b7[k]? = some p → aEH s.bF st ow kn p
noncomputable instance (s : aR) : Decidable s.ok := Classical.propDecidable _
theorem aTO {α : Type} (l : List α) : (l.length : Int) = 0 ↔ l = [] := by cases l <;> simp; omega
@[go_sem] def bDD : List Nat := [0, 1, 4]
@[go_sem] def bRJ : List Nat := []
@[go_sem] def bRK : Marks := fun _ => ([], .nil, [])
theorem aJW (j : e7) (l : List Int) : e8 Tryz.prog 49 [.ip 5 [j.c] 0 0, c5 1 (fun n => [I n]) l] (.bool (decide ((l.length : Int) = j.aX ∧ pB l))) := by
 simp only [e7.aN]
 refine eI 16 bDD bRJ bRK mix Tryz.func49 rfl (by kernel_rfl) (by simp) fun h => ?_
 simp -dsimp -implicitDefEqProofs only [go_sem, ↓reduceIte, Tryz.f49]
 repeat' (with_reducible first | intro _ | refine And.intro ?_ ?_)
 all_goals try (first | (simp [*]; done) | omega | grind)
 first | refine aJ.mk (jY l) ?_ | refine aL.mk (jY l) ?_ | refine aJ.dF (jY l) ?_ | refine aL.mk (cZ.gC (jY l)) ?_
 simp -dsimp -implicitDefEqProofs only [go_sem, ↓reduceIte, Tryz.f49]
 all_goals try (first | (simp [*]; done) | omega | grind)
@[go_sem] def bDE : List Nat := [0, 1, 4, 8, 9, 24]
@[go_sem] def bRL : List Nat := []
@[go_sem] def bRM : Marks := fun _ => ([], .nil, [])
theorem aWV (j : e7) (p : bI) : e8 Tryz.prog 45 [.ip 5 [j.c] 0 0, .ip 3 [p.c] 0 0] (.bool (decide (rR j p))) := by
 simp only [e7.aN, bI.aN]
 refine eI 40 bDE bRL bRM mix Tryz.func45 rfl (by kernel_rfl) (by simp) fun h => ?_
 simp -dsimp -implicitDefEqProofs only [go_sem, ↓reduceIte, Tryz.f45]
 repeat' (with_reducible first | intro _ | refine And.intro ?_ ?_)
 all_goals try (first | (simp [rR, aTO, *]; done) | omega | (grind [rR, aTO]) | (simp [rR, aTO]; omega))
 rename_i hc
 have hp : rR j p ↔ nZ p.gB ∧ aOL j p.iJ := by unfold rR; rw [if_pos hc]
 first | refine aJ.mk (k8 p.gB) ?_ | refine aL.mk (k8 p.gB) ?_ | refine aJ.dF (k8 p.gB) ?_ | refine aL.mk (cZ.gC (k8 p.gB)) ?_
 simp -dsimp -implicitDefEqProofs only [go_sem, ↓reduceIte, Tryz.f45]
 repeat' (with_reducible first | intro _ | refine And.intro ?_ ?_)
 ·first | refine aL.mk ((aJW j p.iJ).sub (by repeat' (first | exact cD.nil | refine cD.cons ?_ ?_ | exact Sub.refl _ | (rw [aA.aN]; exact Sub.refl _) | exact Sub.dM rfl rfl rfl | exact Sub.ip (bS (by omega)) (by simp) | exact Sub.dM (bS (by omega)) rfl rfl | exact Sub.ip (by simp [*]) (by simp) | exact Sub.dM (by simp [*]) (by rfl) (by rfl)))) ?_ | refine aJ.mk ((aJW j p.iJ).sub (by repeat' (first | exact cD.nil | refine cD.cons ?_ ?_ | exact Sub.refl _ | (rw [aA.aN]; exact Sub.refl _) | exact Sub.dM rfl rfl rfl | exact Sub.ip (bS (by omega)) (by simp) | exact Sub.dM (bS (by omega)) rfl rfl | exact Sub.ip (by simp [*]) (by simp) | exact Sub.dM (by simp [*]) (by rfl) (by rfl)))) ?_
  simp -dsimp -implicitDefEqProofs only [go_sem, ↓reduceIte, Tryz.f45]
  rw [decide_eq_decide, hp]
  exact ⟨fun q => ⟨by assumption, q⟩, fun q => q.2⟩
 ·exact (decide_eq_false fun q => by simp_all).symm
@[go_sem] def bDF : List Nat := [0, 1, 2, 3, 4, 7]
@[go_sem] def bRN : List Nat := [2, 3]
@[go_sem] def bRO : Marks := fun _ => ([], .nil, [])
theorem bDG (j : e7) (p : bI) : e8 Tryz.prog 57 [.agg j.c, .agg p.c] (.bool (decide (rR j p))) := by
 simp only [e7.aN, bI.aN]
 refine eI 37 bDF bRN bRO mix Tryz.func57 rfl (by kernel_rfl) (by simp) fun h => ?_
 simp -dsimp -implicitDefEqProofs only [go_sem, ↓reduceIte, Tryz.f57]
 repeat' (with_reducible first | intro _ | refine And.intro ?_ ?_)
 all_goals try (first | (simp [rR, aTO, *]; done) | omega | (grind [rR, aTO]) | (simp [rR, aTO]; omega))
 rename_i hc
 have hp : rR j p ↔ nZ p.gB ∧ aOL j p.iJ := by unfold rR; rw [if_pos hc]
 first | refine aJ.mk (nF p.gB) ?_ | refine aL.mk (nF p.gB) ?_ | refine aJ.dF (nF p.gB) ?_ | refine aL.mk (cZ.gC (nF p.gB)) ?_
 simp -dsimp -implicitDefEqProofs only [go_sem, ↓reduceIte, Tryz.f57]
 repeat' (with_reducible first | intro _ | refine And.intro ?_ ?_)
 ·first | refine aJ.mk (fW p.iJ j.aX) ?_ | refine aL.mk (fW p.iJ j.aX) ?_ | refine aJ.dF (fW p.iJ j.aX) ?_ | refine aL.mk (cZ.gC (fW p.iJ j.aX)) ?_
  simp -dsimp -implicitDefEqProofs only [go_sem, ↓reduceIte, Tryz.f57]
  rw [decide_eq_decide, hp]
  exact ⟨fun q => ⟨by assumption, q⟩, fun q => q.2⟩
 ·exact (decide_eq_false fun q => by simp_all).symm
@[go_sem] def a1R : List Nat := [0, 2, 3, 4, 9, 49, 52, 74, 104, 146]
@[go_sem] def bKH : List Nat := []
@[go_sem] def bKI : Marks := fun id => match id with | 11 => ([], (.op 0 (.op 1 (.op 2 (.op 3 (.op 4 (.op 5 (.op 6 (.op 7 (.op 8 (.op 9 (.op 10 (.op 11 (.op 12 (.op 13 (.op 14 (.op 15 (.op 16 (.op 17 (.op 18 (.op 19 (.op 20 (.op 21 (.op 22 (.op 23 (.op 24 (.op 25 (.op 26 (.op 27 (.op 28 (.op 29 .nil)))))))))))))))))))))))))))))), []) | _ => ([], .nil, [])
theorem bKJ (s : aR) (hps : s.bF.bN.s ≤ 4194304) : e8 Tryz.prog 18 [.ip 9 [s.c] 0 0] (.bool (decide s.ok)) := by
 simp only [aR.aN]
 refine eI 147 a1R bKH bKI mix Tryz.func18 rfl (by kernel_rfl) (by simp) fun h => ?_
 simp -dsimp -implicitDefEqProofs only [go_sem, ↓reduceIte, Tryz.f18]
 first | refine aL.mk ((a1O s.bF hps).sub (by repeat' (first | exact cD.nil | refine cD.cons ?_ ?_ | exact Sub.refl _ | (rw [aA.aN]; exact Sub.refl _) | exact Sub.dM rfl rfl rfl | exact Sub.ip (bS (by omega)) (by simp) | exact Sub.dM (bS (by omega)) rfl rfl | exact Sub.ip (by simp [*]) (by simp) | exact Sub.dM (by simp [*]) (by rfl) (by rfl)))) ?_ | refine aJ.mk ((a1O s.bF hps).sub (by repeat' (first | exact cD.nil | refine cD.cons ?_ ?_ | exact Sub.refl _ | (rw [aA.aN]; exact Sub.refl _) | exact Sub.dM rfl rfl rfl | exact Sub.ip (bS (by omega)) (by simp) | exact Sub.dM (bS (by omega)) rfl rfl | exact Sub.ip (by simp [*]) (by simp) | exact Sub.dM (by simp [*]) (by rfl) (by rfl)))) ?_
 simp -dsimp -implicitDefEqProofs only [go_sem, ↓reduceIte, Tryz.f18]
 repeat' (with_reducible first | intro _ | refine And.intro ?_ ?_)
 all_goals try (exact (decide_eq_false fun z => by have := z.2.1; omega).symm)
 all_goals try (rename_i hn; exact (decide_eq_false fun z => hn z.1).symm)
 have hjob : s.bF.ok := by assumption
 have h1 : s.aY.length = s.bF.bO.length := by assumption
 have h2 : s.cB.length = s.bF.bO.length := by assumption
 have h3 : s.b7.length = s.bF.bO.length := by assumption
 have h4 : s.b9.length = s.bF.bO.length := by assumption
 refine cS (keep := a1R) (ib := bKH) (mk := bKI) mix (by kernel_rfl) (fun k : Nat => [(0, .ip 9 [s.c] 0 0), (3, I s.bF.bO.length), (4, I k)]) (fun _ => h) (fun k => k ≤ s.bF.bO.length ∧ ∀ (j : Nat) (st ow : Int) (kn : Bool) (p : bI), j < k → s.aY[j]? = some st → s.b9[j]? = some ow → s.cB[j]? = some kn → s.b7[j]? = some p → aEH s.bF st ow kn p) (fun k => s.bF.bO.length - k) 0 (by refine ⟨by simp [dA, cH, aR.aN], by repeat' (with_reducible first | exact aB.le_refl _ | refine (bD (by first | assumption | exact And.right (by assumption) | exact bU.2 (by assumption))).2 ?_), by simp⟩) ?_
 intro k ⟨hk, hall⟩
 simp only [aR.aN]
 rcases Nat.lt_or_ge k s.bF.bO.length with hlt | hge
 ·have k1 : k < s.aY.length := by omega
  have k2 : k < s.cB.length := by omega
  have k3 : k < s.b7.length := by omega
  have k4 : k < s.b9.length := by omega
  have g1 : s.aY[k]? = some s.aY[k] := List.getElem?_eq_getElem k1
  have g2 : s.cB[k]? = some s.cB[k] := List.getElem?_eq_getElem k2
  have g3 : s.b7[k]? = some s.b7[k] := List.getElem?_eq_getElem k3
  have g4 : s.b9[k]? = some s.b9[k] := List.getElem?_eq_getElem k4
  have no (q : ¬ aEH s.bF s.aY[k] s.b9[k] s.cB[k] s.b7[k]) : false = decide s.ok := (decide_eq_false fun z => q (z.2.2 k _ _ _ _ g1 g4 g2 g3)).symm
  have nx (q : aEH s.bF s.aY[k] s.b9[k] s.cB[k] s.b7[k]) : ∀ (j : Nat) (st ow : Int) (kn : Bool) (p : bI), j < k + 1 → s.aY[j]? = some st → s.b9[j]? = some ow → s.cB[j]? = some kn → s.b7[j]? = some p → aEH s.bF st ow kn p := by
   intro j st ow kn p hj a b c d
   rcases Nat.lt_succ_iff_lt_or_eq.1 hj with hj | rfl
   ·exact hall j st ow kn p hj a b c d
   ·rw [g1] at a; rw [g4] at b; rw [g2] at c; rw [g3] at d
    obtain rfl := Option.some.inj a
    obtain rfl := Option.some.inj b
    obtain rfl := Option.some.inj c
    obtain rfl := Option.some.inj d
    exact q
  cases hkn : s.cB[k]
  all_goals
   rw [hkn] at g2 no nx
   simp -dsimp -implicitDefEqProofs only [go_sem, ↓reduceIte, Tryz.f18, g1, g2, g3, g4, bI.aN]
   repeat' (with_reducible first | intro _ | refine And.intro ?_ ?_)
   all_goals try omega
  all_goals (first | refine aJ.mk (fG s.aY[k] 0 50) ?_ | refine aL.mk (fG s.aY[k] 0 50) ?_)
  all_goals simp -dsimp -implicitDefEqProofs only [go_sem, ↓reduceIte, Tryz.f18, g1, g2, g3, g4, bI.aN]
  all_goals repeat' (with_reducible first | intro _ | refine And.intro ?_ ?_)
  all_goals try omega
  all_goals try (rename_i q; exact no fun z => q z.1)
  all_goals (first | refine aJ.mk (fG s.b9[k] (-1) 3) ?_ | refine aL.mk (fG s.b9[k] (-1) 3) ?_)
  all_goals simp -dsimp -implicitDefEqProofs only [go_sem, ↓reduceIte, Tryz.f18, g1, g2, g3, g4, bI.aN]
  all_goals repeat' (with_reducible first | intro _ | refine And.intro ?_ ?_)
  all_goals try omega
  all_goals try (rename_i q; exact no fun z => q z.2.1)
  all_goals try (rename_i q; exact no fun z => q (z.2.2.2 rfl).1)
  all_goals try (rename_i q; exact no fun z => q (z.2.2.2 rfl).2.1)
  all_goals try (rename_i q; exact no fun z => q (z.2.2.1 rfl).1)
  all_goals try (rename_i q; exact no fun z => by have := (z.2.2.2 rfl).2.2; rw [this] at q; simp at q)
  ·refine ⟨k + 1, ?_⟩
   repeat' (with_reducible refine And.intro ?_ ?_)
   all_goals try (rw [IntWalk.i64_in _ (by omega)]; first | rfl | omega)
   all_goals try omega
   all_goals try (repeat' (with_reducible first | exact aB.le_refl _ | refine (bD (by first | assumption | exact And.right (by assumption) | exact bU.2 (by assumption))).2 ?_))
   all_goals try (simp only [aR.aN]; done)
   exact nx ⟨by assumption, by assumption, fun z => by simp at z, fun _ => ⟨by assumption, by assumption, (aTO _).1 (by omega)⟩⟩
  ·have hq1 : s.b9[k] = -1 := by assumption
   first | refine aL.mk ((aWV s.bF s.b7[k]).sub (by repeat' (first | exact cD.nil | refine cD.cons ?_ ?_ | exact Sub.refl _ | (rw [aA.aN]; exact Sub.refl _) | exact Sub.dM rfl rfl rfl | exact Sub.ip (bS (by omega)) (by simp) | exact Sub.dM (bS (by omega)) rfl rfl | exact Sub.ip (by simp [*]) (by simp) | exact Sub.dM (by simp [*]) (by rfl) (by rfl)))) ?_ | refine aJ.mk ((aWV s.bF s.b7[k]).sub (by repeat' (first | exact cD.nil | refine cD.cons ?_ ?_ | exact Sub.refl _ | (rw [aA.aN]; exact Sub.refl _) | exact Sub.dM rfl rfl rfl | exact Sub.ip (bS (by omega)) (by simp) | exact Sub.dM (bS (by omega)) rfl rfl | exact Sub.ip (by simp [*]) (by simp) | exact Sub.dM (by simp [*]) (by rfl) (by rfl)))) ?_
   simp -dsimp -implicitDefEqProofs only [go_sem, ↓reduceIte, Tryz.f18, g1, g2, g3, g4, bI.aN]
   repeat' (with_reducible first | intro _ | refine And.intro ?_ ?_)
   all_goals try omega
   all_goals try (rename_i q; exact no fun z => q (z.2.2.1 rfl).2)
   refine ⟨k + 1, ?_⟩
   repeat' (with_reducible refine And.intro ?_ ?_)
   all_goals try (rw [IntWalk.i64_in _ (by omega)]; first | rfl | omega)
   all_goals try omega
   all_goals try (repeat' (with_reducible first | exact aB.le_refl _ | refine (bD (by first | assumption | exact And.right (by assumption) | exact bU.2 (by assumption))).2 ?_))
   all_goals try (simp only [aR.aN]; done)
   exact nx ⟨by assumption, by assumption, fun _ => ⟨hq1, by assumption⟩, fun z => by simp at z⟩
 ·have hk' : k = s.bF.bO.length := by omega
  subst hk'
  simp -dsimp -implicitDefEqProofs only [go_sem, ↓reduceIte, Tryz.f18, Int.lt_irrefl, Nat.lt_irrefl]
  exact (decide_eq_true ⟨hjob, ⟨h1, h2, h3, h4⟩, fun j st ow kn p a b c d => hall j st ow kn p (by have := (List.getElem?_eq_some_iff.1 a).1; omega) a b c d⟩).symm
set_option maxRecDepth 100000
open Go.Proofs
set_option linter.unusedVariables false
set_option linter.unusedSimpArgs false
@[go_sem] def a1S : List Nat := [0, 1, 2, 3, 4, 5, 41, 43, 44, 45, 46, 65, 99]
@[go_sem] def bKK : List Nat := [1]
@[go_sem] def bKL : Marks := fun id => match id with | 9 => ([], (.op 0 (.op 1 (.op 2 (.op 3 (.op 4 (.op 5 (.op 6 (.op 7 (.op 8 (.op 9 (.op 10 (.op 11 (.op 12 (.op 13 (.op 14 (.op 15 (.op 16 (.op 17 (.op 18 (.op 19 (.op 20 (.op 21 (.op 22 (.op 23 (.op 24 (.op 25 (.op 26 (.op 27 (.op 28 (.op 29 (.op 30 (.op 31 (.op 32 (.op 33 .nil)))))))))))))))))))))))))))))))))), []) | _ => ([], .nil, [])
theorem aOM (s : aR) (hps : s.bF.bN.s ≤ 4194304) : e8 Tryz.prog 24 [.agg s.c] (.bool (decide s.ok)) := by
 have hj := a1Q s.bF hps
 simp only [aR.aN, e7.aN] at hj ⊢
 refine eI 101 a1S bKK bKL mix Tryz.func24 rfl (by kernel_rfl) (by simp) fun h => ?_
 simp -dsimp -implicitDefEqProofs only [go_sem, ↓reduceIte, Tryz.f24]
 intro _
 first | refine aJ.mk (hj) ?_ | refine aL.mk (hj) ?_ | refine aJ.dF (hj) ?_ | refine aL.mk (cZ.gC (hj)) ?_
 simp -dsimp -implicitDefEqProofs only [go_sem, ↓reduceIte, Tryz.f24]
 repeat' (with_reducible first | intro _ | refine And.intro ?_ ?_)
 all_goals try (exact (decide_eq_false fun z => by have := z.2.1; omega).symm)
 all_goals try (rename_i hn; exact (decide_eq_false fun z => hn z.1).symm)
 have hjob : s.bF.ok := by assumption
 have h1 : s.aY.length = s.bF.bO.length := by assumption
 have h2 : s.cB.length = s.bF.bO.length := by assumption
 have h3 : s.b7.length = s.bF.bO.length := by assumption
 have h4 : s.b9.length = s.bF.bO.length := by assumption
 refine cS (keep := a1S) (ib := bKK) (mk := bKL) mix (by kernel_rfl) (fun k : Nat => [(1, .ip 9 [s.c] 0 0), (43, c5 1 (fun b => [.bool b]) s.cB), (44, I s.bF.bO.length), (45, I k)]) (fun _ => h) (fun k => k ≤ s.bF.bO.length ∧ ∀ (j : Nat) (st ow : Int) (kn : Bool) (p : bI), j < k → s.aY[j]? = some st → s.b9[j]? = some ow → s.cB[j]? = some kn → s.b7[j]? = some p → aEH s.bF st ow kn p) (fun k => s.bF.bO.length - k) 0 (by refine ⟨by simp [dA, cH, aR.aN, h2], by simp [aB.le_refl], by simp⟩) ?_
 intro k ⟨hk, hall⟩
 simp only [aR.aN]
 rcases Nat.lt_or_ge k s.bF.bO.length with hlt | hge
 ·have k1 : k < s.aY.length := by omega
  have k2 : k < s.cB.length := by omega
  have k3 : k < s.b7.length := by omega
  have k4 : k < s.b9.length := by omega
  have g1 : s.aY[k]? = some s.aY[k] := List.getElem?_eq_getElem k1
  have g2 : s.cB[k]? = some s.cB[k] := List.getElem?_eq_getElem k2
  have g3 : s.b7[k]? = some s.b7[k] := List.getElem?_eq_getElem k3
  have g4 : s.b9[k]? = some s.b9[k] := List.getElem?_eq_getElem k4
  have no (q : ¬ aEH s.bF s.aY[k] s.b9[k] s.cB[k] s.b7[k]) : false = decide s.ok := (decide_eq_false fun z => q (z.2.2 k _ _ _ _ g1 g4 g2 g3)).symm
  have nx (q : aEH s.bF s.aY[k] s.b9[k] s.cB[k] s.b7[k]) : ∀ (j : Nat) (st ow : Int) (kn : Bool) (p : bI), j < k + 1 → s.aY[j]? = some st → s.b9[j]? = some ow → s.cB[j]? = some kn → s.b7[j]? = some p → aEH s.bF st ow kn p := by
   intro j st ow kn p hj a b c d
   rcases Nat.lt_succ_iff_lt_or_eq.1 hj with hj | rfl
   ·exact hall j st ow kn p hj a b c d
   ·rw [g1] at a; rw [g4] at b; rw [g2] at c; rw [g3] at d
    obtain rfl := Option.some.inj a
    obtain rfl := Option.some.inj b
    obtain rfl := Option.some.inj c
    obtain rfl := Option.some.inj d
    exact q
  cases hkn : s.cB[k]
  all_goals
   rw [hkn] at g2 no nx
   simp -dsimp -implicitDefEqProofs only [go_sem, ↓reduceIte, Tryz.f24, g1, g2, g3, g4, bI.aN]
   repeat' (with_reducible first | intro _ | refine And.intro ?_ ?_)
   all_goals try omega
  all_goals (first | refine aJ.mk (within s.aY[k] 0 50) ?_ | refine aL.mk (within s.aY[k] 0 50) ?_)
  all_goals simp -dsimp -implicitDefEqProofs only [go_sem, ↓reduceIte, Tryz.f24, g1, g2, g3, g4, bI.aN]
  all_goals repeat' (with_reducible first | intro _ | refine And.intro ?_ ?_)
  all_goals try omega
  all_goals try (rename_i q; exact no fun z => q z.1)
  all_goals (first | refine aJ.mk (within s.b9[k] (-1) 3) ?_ | refine aL.mk (within s.b9[k] (-1) 3) ?_)
  all_goals simp -dsimp -implicitDefEqProofs only [go_sem, ↓reduceIte, Tryz.f24, g1, g2, g3, g4, bI.aN]
  all_goals repeat' (with_reducible first | intro _ | refine And.intro ?_ ?_)
  all_goals try omega
  all_goals try (rename_i q; exact no fun z => q z.2.1)
  ·have hsp := (a1B s.b7[k] ⟨0, 0, []⟩).sub (.cons (.refl _) (.cons (Sub.agg (.cons (.refl (I 0)) (.cons (.refl (I 0)) (.cons (Sub.nil 1 false) .nil)))) .nil))
   simp only [bI.aN] at hsp
   first | refine aJ.mk (hsp) ?_ | refine aL.mk (hsp) ?_ | refine aJ.dF (hsp) ?_ | refine aL.mk (cZ.gC (hsp)) ?_
   simp -dsimp -implicitDefEqProofs only [go_sem, ↓reduceIte, Tryz.f24]
   repeat' (with_reducible first | intro _ | refine And.intro ?_ ?_)
   ·rename_i q
    exact no fun z => q (bI.eq_iff.2 (z.2.2.2 rfl))
   ·rename_i q
    have := bI.eq_iff.1 q
    refine ⟨k + 1, ?_⟩
    repeat' (with_reducible refine And.intro ?_ ?_)
    all_goals try (rw [IntWalk.i64_in _ (by omega)]; first | rfl | omega)
    all_goals try omega
    all_goals try (repeat' (with_reducible first | exact aB.le_refl _ | refine (bD (by first | assumption | exact And.right (by assumption) | exact bU.2 (by assumption))).2 ?_))
    all_goals try (simp only [aR.aN]; done)
    exact nx ⟨by assumption, by assumption, fun z => by simp at z, fun _ => this⟩
  ·have hip := bDG s.bF s.b7[k]
   simp only [bI.aN, e7.aN] at hip
   first | refine aJ.mk (hip) ?_ | refine aL.mk (hip) ?_ | refine aJ.dF (hip) ?_ | refine aL.mk (cZ.gC (hip)) ?_
   simp -dsimp -implicitDefEqProofs only [go_sem, ↓reduceIte, Tryz.f24, g1, g2, g3, g4, bI.aN]
   repeat' (with_reducible first | intro _ | refine And.intro ?_ ?_)
   all_goals try omega
   all_goals try (rename_i q; exact no fun z => q (z.2.2.1 rfl).2)
   all_goals try (rename_i q; exact no fun z => q (z.2.2.1 rfl).1)
   refine ⟨k + 1, ?_⟩
   repeat' (with_reducible refine And.intro ?_ ?_)
   all_goals try (rw [IntWalk.i64_in _ (by omega)]; first | rfl | omega)
   all_goals try omega
   all_goals try (repeat' (with_reducible first | exact aB.le_refl _ | refine (bD (by first | assumption | exact And.right (by assumption) | exact bU.2 (by assumption))).2 ?_))
   all_goals try (simp only [aR.aN]; done)
   exact nx ⟨by assumption, by assumption, fun _ => ⟨by assumption, by assumption⟩, fun z => by simp at z⟩
 ·have hk' : k = s.bF.bO.length := by omega
  subst hk'
  simp -dsimp -implicitDefEqProofs only [go_sem, ↓reduceIte, Tryz.f24, Int.lt_irrefl, Nat.lt_irrefl]
  exact (decide_eq_true ⟨hjob, ⟨h1, h2, h3, h4⟩, fun j st ow kn p a b c d => hall j st ow kn p (by have := (List.getElem?_eq_some_iff.1 a).1; omega) a b c d⟩).symm
set_option maxRecDepth 100000
open Go.Proofs
set_option linter.unusedVariables false
set_option linter.unusedSimpArgs false
@[go_sem] def bDH : List Nat := [0, 2, 4]
@[go_sem] def bRP : List Nat := [5]
@[go_sem] def bRQ : Marks := fun _ => ([], .nil, [])
theorem rS (l : List Int) (hl : l.length ≤ 1048576) : pN Tryz.prog 27 [c5 1 (fun n => [I n]) l] (QS (OS (oP I) 1 l)) := by
 refine sV 8 bDH bRP bRQ mix Tryz.func27 rfl (by kernel_rfl) (by simp) fun h => ?_
 simp -dsimp -implicitDefEqProofs only [go_sem, ↓reduceIte, Tryz.f27]
 repeat' (with_reducible first | intro _ | refine And.intro ?_ ?_)
 all_goals try (first | exact aN5 (by assumption) | exact aN6 (by assumption) | exact aN7 (by assumption) | omega)
@[go_sem] def bDI : List Nat := [0, 2, 4]
@[go_sem] def bRR : List Nat := [5]
@[go_sem] def bRS : Marks := fun _ => ([], .nil, [])
theorem aON (l : List Bool) (hl : l.length ≤ 1048576) : pN Tryz.prog 63 [c5 1 (fun n => [.bool n]) l] (QS (OS (oP .bool) 1 l)) := by
 refine sV 8 bDI bRR bRS mix Tryz.func63 rfl (by kernel_rfl) (by simp) fun h => ?_
 simp -dsimp -implicitDefEqProofs only [go_sem, ↓reduceIte, Tryz.f63]
 repeat' (with_reducible first | intro _ | refine And.intro ?_ ?_)
 all_goals try (first | exact aN5 (by assumption) | exact aN6 (by assumption) | exact aN7 (by assumption) | omega)
@[go_sem] def bDJ : List Nat := [0, 2]
@[go_sem] def bRT : List Nat := [3]
@[go_sem] def bRU : Marks := fun _ => ([], .nil, [])
theorem kV (l : List Int) (hl : l.length ≤ 1048576) : pN Tryz.prog 47 [c5 1 (fun n => [I n]) l] (QS (OS (oP I) 1 l)) := by
 refine sV 6 bDJ bRT bRU mix Tryz.func47 rfl (by kernel_rfl) (by simp) fun h => ?_
 simp -dsimp -implicitDefEqProofs only [go_sem, ↓reduceIte, Tryz.f47]
 repeat' (with_reducible first | intro _ | refine And.intro ?_ ?_)
 all_goals try (first | exact aN5 (by assumption) | exact aN6 (by assumption) | exact aN7 (by assumption) | omega)
@[go_sem] def aWW : List Nat := [0, 1, 2, 3, 5, 9, 10, 11, 12]
@[go_sem] def a9Z : List Nat := [19]
@[go_sem] def a90 : Marks := fun id => match id with | 6 => ([1, 2, 3, 5, 7], (.op 0 (.op 1 (.op 2 (.op 3 (.op 4 (.op 5 (.op 6 (.op 7 .nil)))))))), [(1, 3)]) | _ => ([], .nil, [])
theorem aJX (x : aA) (hs : x.s ≤ 1048576) (hk : ∀ y ∈ x.aM, pN Tryz.prog 107 [.agg y.c] (QA y.o)) : pN Tryz.prog 107 [.agg x.c] (QA x.o) := by
 have hs' := x.fR
 rw [eN] at hs'
 simp only [aA.aN]
 refine sV 24 aWW a9Z a90 mix Tryz.func107 rfl (by kernel_rfl) (by simp) fun h => ?_
 try simp -dsimp -implicitDefEqProofs only [go_sem, ↓reduceIte, Tryz.f107, aF, aC]
 intro n1 qn1
 have uB := qn1
 intro n2 qn2
 obtain ⟨aCA, kW, kX, a1T⟩ := eL (show ¬ n2 = n1 from qn2.1)
 have bT := qn2.2
 try simp -dsimp -implicitDefEqProofs only [go_sem, ↓reduceIte, Tryz.f107, aF, aC, kW, kX]
 try (with_reducible intro _)
 refine cS (keep := aWW) (ib := a9Z) (mk := a90) mix (by kernel_rfl) (fun s : Nat × List (List OV) × aB × Option Nat => [(1, .op n1 5 0 0), (2, .op n2 5 0 0), (9, c5 5 aA.c x.aM), (10, I x.aM.length), (11, (I s.1))]) (fun s => (bK (bK (dD s.2.2.1 (.row 5 (OV.cells s.2.1)) s.2.2.2) n1 (.row 5 [[.v (I x.a6), .v (I x.bQ), .v (I x.c9), .v (I x.cU), .v (gV 5 s.2.1.length s.2.2.2)]])) n2 (.row 5 [[.v (.int .i64 0), .v (.int .i64 0), .v (.int .i64 0), .v (.int .i64 0), .v (.bC)]]))) (fun s => s.1 ≤ x.aM.length ∧ OR aA.o (x.aM.take s.1) s.2.1 ∧ eM h (OV.bP s.2.1) s.2.2.1 ∧ s.2.2.1 n1 = none ∧ s.2.2.1 n2 = none ∧ tE s.2.2.1 s.2.1 s.2.2.2 ∧ ∀ n : Nat, s.2.2.2 = some n → n ≠ n1 ∧ n ≠ n2) (fun s => x.aM.length - s.1) (0, [], h, none) ?_ ?_
 ·exact ⟨by simp [dA, cH], (by intro q_; simp only [a7, aK, aG, aW, aQ, cA, bY, cO, cP, aP, aT, OV.aS, List.nil_append, List.length_append, List.length_cons, List.length_nil, Nat.zero_add]; grind), Nat.zero_le _, trivial, eM.nil _, uB, bT, rfl, by simp⟩
 rintro ⟨k, es, g_, o_⟩ ⟨hkk, hor, hnew, uB, bT, hos, hon⟩
 simp only at hkk hor hnew uB bT hos hon ⊢
 have hlen : es.length = k := by have := hor.length; simp at this; omega
 rcases Nat.lt_or_ge k x.aM.length with hlt | hge
 ·have ea : x.aM[k]? = some x.aM[k] := List.getElem?_eq_getElem hlt
  have hx := hk x.aM[k] (List.getElem_mem hlt)
  simp only [aA.aN] at hx
  cases o_ with
  |none =>
   rw [gW] at hos
   subst hos
   try simp -dsimp -implicitDefEqProofs only [go_sem, ↓reduceIte, Tryz.f107, aF, aC, kW, kX, ea, hlt, aK, aW, aA.aN]
   intro n5 qn5
   obtain ⟨mU, dP, dQ, aCB⟩ := eL (show ¬ n5 = n2 from qn5.1)
   obtain ⟨aTP, aCC, aCD, bDK⟩ := eL (show ¬ n5 = n1 from qn5.2.1)
   have iO := qn5.2.2
   try simp -dsimp -implicitDefEqProofs only [go_sem, ↓reduceIte, Tryz.f107, aF, aC, kW, kX, dP, dQ, aCC, aCD, ea, hlt, aK, aW, aA.aN]
   refine aJ.wn3 (hx) uB ⟨aCA, bT⟩ ⟨mU, aTP, iO⟩ ?_
   rintro r l_ gb ⟨e_b, oeb, rfl, rfl⟩ wb uB bT iO
   have oob := oeb
   rw [aA.pS] at oob
   obtain ⟨u6, rfl, iP⟩ := oob
   try simp -dsimp -implicitDefEqProofs only [go_sem, ↓reduceIte, Tryz.f107, aF, aC, kW, kX, dP, dQ, aCC, aCD, ea, hlt, aK, aW, iP.flat, iP.one, OV.aO, OV.aE, OV.aS]
   repeat' (with_reducible first | refine And.intro (by first | omega | decide | rfl | trivial | exact Nat.le_of_eq (cW _ _).symm | exact Nat.le_of_eq (cJ _).symm) ?_)
   intro m qm
   obtain ⟨a1U, aJY, aJZ, a1V⟩ := eL (show ¬ m = n5 from qm.1)
   obtain ⟨l9, mA, mB, w7⟩ := eL (show ¬ m = n2 from qm.2.1)
   obtain ⟨aJ0, aJ1, aJ2, a1W⟩ := eL (show ¬ m = n1 from qm.2.2.1)
   have z_m := qm.2.2.2
   try simp -dsimp -implicitDefEqProofs only [go_sem, ↓reduceIte, Tryz.f107, aF, aC, kW, kX, dP, dQ, aCC, aCD, aJY, aJZ, mA, mB, aJ1, aJ2, ea, hlt, aK, aW, iP.flat, iP.one, OV.aO, OV.aE, OV.aS]
   refine ⟨(k + 1, ([] : List (List OV)) ++ [[.v (.int .i64 x.aM[k].a6), .v (.int .i64 x.aM[k].bQ), .v (.int .i64 x.aM[k].c9), .v (.int .i64 x.aM[k].cU), u6]], gb, some m), ?_⟩
   simp only
   refine ⟨?_, (by intro q_; simp only [a7, aK, aG, aW, aQ, cA, bY, cO, cP, aP, aT, OV.aS, List.nil_append, List.length_append, List.length_cons, List.length_nil, Nat.zero_add]; grind), ⟨by omega, OR.snoc hor hlt oeb, hnew.snoc wb, uB, bT, z_m, (fun n_ e_ => by obtain rfl := Option.some.inj e_; exact ⟨aJ0, l9⟩)⟩, by omega⟩
   all_goals (repeat' (with_reducible refine And.intro ?_ ?_))
   all_goals first | rfl | trivial | (rw [IntWalk.i64_in _ (by omega)]; omega)
  |some n =>
   rw [jD] at hos
   have z_n := hos
   have hn := hon n rfl
   obtain ⟨bKN, aHF, aHG, a1X⟩ := eL (show ¬ n = n1 from hn.1)
   obtain ⟨aMI, lD, lE, w8⟩ := eL (show ¬ n = n2 from hn.2)
   try simp -dsimp -implicitDefEqProofs only [go_sem, ↓reduceIte, Tryz.f107, aF, aC, kW, kX, aHF, aHG, lD, lE, ea, hlt, aG, aQ, aA.aN]
   intro n5 qn5
   obtain ⟨mU, dP, dQ, aCB⟩ := eL (show ¬ n5 = n2 from qn5.1)
   obtain ⟨aTP, aCC, aCD, bDK⟩ := eL (show ¬ n5 = n1 from qn5.2.1)
   obtain ⟨a1Y, aJ3, aJ4, bKO⟩ := eL (show ¬ n5 = n from qn5.2.2.1)
   have iO := qn5.2.2.2
   try simp -dsimp -implicitDefEqProofs only [go_sem, ↓reduceIte, Tryz.f107, aF, aC, kW, kX, aHF, aHG, lD, lE, dP, dQ, aCC, aCD, aJ3, aJ4, ea, hlt, aG, aQ, aA.aN]
   refine aJ.wn4 (hx) z_n ⟨a1X, uB⟩ ⟨aCA, w8, bT⟩ ⟨mU, aTP, a1Y, iO⟩ ?_
   rintro r l_ gb ⟨e_b, oeb, rfl, rfl⟩ wb z_n uB bT iO
   have oob := oeb
   rw [aA.pS] at oob
   obtain ⟨u6, rfl, iP⟩ := oob
   try simp -dsimp -implicitDefEqProofs only [go_sem, ↓reduceIte, Tryz.f107, aF, aC, kW, kX, aHF, aHG, lD, lE, dP, dQ, aCC, aCD, aJ3, aJ4, ea, hlt, aG, aQ, iP.flat, iP.one, OV.aO, OV.aE, OV.aS]
   repeat' (with_reducible first | refine And.intro (by first | omega | decide | rfl | trivial | exact Nat.le_of_eq (cW _ _).symm | exact Nat.le_of_eq (cJ _).symm) ?_)
   intro m qm
   obtain ⟨a1U, aJY, aJZ, a1V⟩ := eL (show ¬ m = n5 from qm.1)
   obtain ⟨l9, mA, mB, w7⟩ := eL (show ¬ m = n2 from qm.2.1)
   obtain ⟨aJ0, aJ1, aJ2, a1W⟩ := eL (show ¬ m = n1 from qm.2.2.1)
   obtain ⟨aYT, aF6, aF7, aYU⟩ := eL (show ¬ m = n from qm.2.2.2.1)
   have z_m := qm.2.2.2.2
   try simp -dsimp -implicitDefEqProofs only [go_sem, ↓reduceIte, Tryz.f107, aF, aC, kW, kX, aHF, aHG, lD, lE, dP, dQ, aCC, aCD, aJ3, aJ4, aJY, aJZ, mA, mB, aJ1, aJ2, aF6, aF7, ea, hlt, aG, aQ, iP.flat, iP.one, OV.aO, OV.aE, OV.aS]
   refine ⟨(k + 1, es ++ [[.v (.int .i64 x.aM[k].a6), .v (.int .i64 x.aM[k].bQ), .v (.int .i64 x.aM[k].c9), .v (.int .i64 x.aM[k].cU), u6]], gb, some m), ?_⟩
   simp only
   refine ⟨?_, (by intro q_; simp only [a7, aK, aG, aW, aQ, cA, bY, cO, cP, aP, aT, OV.aS, List.nil_append, List.length_append, List.length_cons, List.length_nil, Nat.zero_add]; grind), ⟨by omega, OR.snoc hor hlt oeb, hnew.snoc wb, uB, bT, z_m, (fun n_ e_ => by obtain rfl := Option.some.inj e_; exact ⟨aJ0, l9⟩)⟩, by omega⟩
   all_goals (repeat' (with_reducible refine And.intro ?_ ?_))
   all_goals first | rfl | trivial | (rw [IntWalk.i64_in _ (by omega)]; omega)
 ·have hk2 : k = x.aM.length := by omega
  subst hk2
  rw [List.take_length] at hor
  have bKP : dD g_ (.row 5 (OV.cells es)) o_ n1 = none := eK uB fun n_ e_ => (hon n_ e_).1
  have aMJ : dD g_ (.row 5 (OV.cells es)) o_ n2 = none := eK bT fun n_ e_ => (hon n_ e_).2
  try simp -dsimp -implicitDefEqProofs only [go_sem, ↓reduceIte, Tryz.f107, aF, aC, kW, kX, eY, fV, Nat.lt_irrefl]
  try (with_reducible intro _)
  refine ⟨_, (dD g_ (.row 5 (OV.cells es)) o_), _, Shift.of (Sub.agg (cD.cons (Sub.refl _) (cD.cons (Sub.refl _) (cD.cons (Sub.refl _) (cD.cons (Sub.refl _) (cD.cons pD cD.nil)))))) (by intro q_; simp only [a7, aK, aG, aW, aQ, cA, bY, cO, cP, aP, aT, OV.aS, List.nil_append, List.length_append, List.length_cons, List.length_nil, Nat.zero_add]; grind), ⟨[.v (I x.a6), .v (I x.bQ), .v (I x.c9), .v (I x.cU), (x8 5 es o_)], ?_, rfl, rfl⟩, ?_⟩
  ·rw [aA.pS]; exact ⟨(x8 5 es o_), rfl, sX hor hos⟩
  ·have hq := (pE (sz := 5) hnew hos)
   simpa only [OV.bL, OV.cF, OV.c8, List.nil_append, List.append_nil, List.append_assoc] using hq
theorem aF8 (x : aA) (hs : x.s ≤ 1048576) : pN Tryz.prog 107 [.agg x.c] (QA x.o) :=
 aJX x hs fun y hy => aF8 y (by have := gG aA.s hy; rw [x.fR, eN] at hs; omega)
termination_by SizeOf.sizeOf x
decreasing_by exact aA.rO hy
@[go_sem] def aWX : List Nat := [0, 2, 3, 4, 28]
@[go_sem] def a91 : List Nat := [40]
@[go_sem] def a92 : Marks := fun id => match id with | 1 => ([17, 18], (.op 0 (.op 1 (.op 2 (.op 3 (.op 4 (.op 5 (.op 6 (.op 7 (.op 8 (.op 9 (.op 10 (.op 11 (.op 12 (.op 13 (.op 14 (.op 15 (.op 16 (.op 17 (.op 18 .nil))))))))))))))))))), []) | 5 => ([1, 8, 10, 12], (.op 0 (.op 2 (.op 3 (.op 4 (.op 5 (.op 6 (.op 7 (.op 1 (.op 8 (.op 9 (.op 10 (.op 11 (.op 12 .nil))))))))))))), [(1, 8)]) | _ => ([], .nil, [])
theorem aRR (x : aA) (hs : x.s ≤ 1048576) (hk : ∀ y ∈ x.aM, pN Tryz.prog 100 [.ip 5 [y.c] 0 0] (QA y.o)) : pN Tryz.prog 100 [.ip 5 [x.c] 0 0] (QA x.o) := by
 have hs' := x.fR
 rw [eN] at hs'
 simp only [aA.aN]
 refine sV 44 aWX a91 a92 mix Tryz.func100 rfl (by kernel_rfl) (by simp) fun h => ?_
 try simp -dsimp -implicitDefEqProofs only [go_sem, ↓reduceIte, Tryz.f100, aF, aC]
 intro n1 qn1
 have uB := qn1
 intro n2 qn2
 obtain ⟨aCA, kW, kX, a1T⟩ := eL (show ¬ n2 = n1 from qn2.1)
 have bT := qn2.2
 try simp -dsimp -implicitDefEqProofs only [go_sem, ↓reduceIte, Tryz.f100, aF, aC, kW, kX]
 try (with_reducible intro _)
 refine cS (keep := aWX) (ib := a91) (mk := a92) mix (by kernel_rfl) (fun s : Nat × List (List OV) × aB × Option Nat => [(0, .ip 5 [[I x.a6, I x.bQ, I x.c9, I x.cU, c5 5 aA.c x.aM]] 0 0), (2, .op n1 5 0 0), (3, .op n2 5 0 0), (4, (I s.1))]) (fun s => (bK (bK (dD s.2.2.1 (.row 5 (OV.cells s.2.1)) s.2.2.2) n1 (.row 5 [[.v (.int .i64 0), .v (.int .i64 0), .v (.int .i64 0), .v (.int .i64 0), .v (.bC)]])) n2 (.row 5 [[.v (I x.a6), .v (I x.bQ), .v (I x.c9), .v (I x.cU), .v (gV 5 s.2.1.length s.2.2.2)]]))) (fun s => s.1 ≤ x.aM.length ∧ OR aA.o (x.aM.take s.1) s.2.1 ∧ eM h (OV.bP s.2.1) s.2.2.1 ∧ s.2.2.1 n1 = none ∧ s.2.2.1 n2 = none ∧ tE s.2.2.1 s.2.1 s.2.2.2 ∧ ∀ n : Nat, s.2.2.2 = some n → n ≠ n1 ∧ n ≠ n2) (fun s => x.aM.length - s.1) (0, [], h, none) ?_ ?_
 ·exact ⟨by simp [dA, cH], (by intro q_; simp only [a7, aK, aG, aW, aQ, cA, bY, cO, cP, aP, aT, OV.aS, List.nil_append, List.length_append, List.length_cons, List.length_nil, Nat.zero_add]; grind), Nat.zero_le _, trivial, eM.nil _, uB, bT, rfl, by simp⟩
 rintro ⟨k, es, g_, o_⟩ ⟨hkk, hor, hnew, uB, bT, hos, hon⟩
 simp only at hkk hor hnew uB bT hos hon ⊢
 have hlen : es.length = k := by have := hor.length; simp at this; omega
 rcases Nat.lt_or_ge k x.aM.length with hlt | hge
 ·have ea : x.aM[k]? = some x.aM[k] := List.getElem?_eq_getElem hlt
  have hx := hk x.aM[k] (List.getElem_mem hlt)
  cases o_ with
  |none =>
   rw [gW] at hos
   subst hos
   try simp -dsimp -implicitDefEqProofs only [go_sem, ↓reduceIte, Tryz.f100, aF, aC, kW, kX, ea, hlt, aK, aW, aA.aN]
   try (with_reducible intro _)
   refine aJ.tM (pN.sub (by repeat' (first | exact cD.nil | refine cD.cons ?_ ?_ | exact Sub.refl _ | (rw [aA.aN]; exact Sub.refl _) | exact Sub.dM rfl rfl rfl | exact Sub.ip (bS (by omega)) (by simp) | exact Sub.dM (bS (by omega)) rfl rfl | exact Sub.ip (by simp [*]) (by simp) | exact Sub.dM (by simp [*]) (by rfl) (by rfl))) hx) uB ⟨aCA, bT⟩ ?_
   rintro r l_ gb ⟨e_b, oeb, rfl, rfl⟩ wb uB bT
   have oob := oeb
   rw [aA.pS] at oob
   obtain ⟨u6, rfl, iP⟩ := oob
   try simp -dsimp -implicitDefEqProofs only [go_sem, ↓reduceIte, Tryz.f100, aF, aC, kW, kX, ea, hlt, aK, aW, iP.flat, iP.one, OV.aO, OV.aE, OV.aS]
   repeat' (with_reducible first | refine And.intro (by first | omega | decide | rfl | trivial | exact Nat.le_of_eq (cW _ _).symm | exact Nat.le_of_eq (cJ _).symm) ?_)
   intro m qm
   obtain ⟨l9, mA, mB, w7⟩ := eL (show ¬ m = n2 from qm.1)
   obtain ⟨aJ0, aJ1, aJ2, a1W⟩ := eL (show ¬ m = n1 from qm.2.1)
   have z_m := qm.2.2
   try simp -dsimp -implicitDefEqProofs only [go_sem, ↓reduceIte, Tryz.f100, aF, aC, kW, kX, mA, mB, aJ1, aJ2, ea, hlt, aK, aW, iP.flat, iP.one, OV.aO, OV.aE, OV.aS]
   refine ⟨(k + 1, ([] : List (List OV)) ++ [[.v (.int .i64 x.aM[k].a6), .v (.int .i64 x.aM[k].bQ), .v (.int .i64 x.aM[k].c9), .v (.int .i64 x.aM[k].cU), u6]], gb, some m), ?_⟩
   simp only
   refine ⟨?_, (by intro q_; simp only [a7, aK, aG, aW, aQ, cA, bY, cO, cP, aP, aT, OV.aS, List.nil_append, List.length_append, List.length_cons, List.length_nil, Nat.zero_add]; grind), ⟨by omega, OR.snoc hor hlt oeb, hnew.snoc wb, uB, bT, z_m, (fun n_ e_ => by obtain rfl := Option.some.inj e_; exact ⟨aJ0, l9⟩)⟩, by omega⟩
   all_goals (repeat' (with_reducible refine And.intro ?_ ?_))
   all_goals first | rfl | trivial | (rw [IntWalk.i64_in _ (by omega)]; omega)
  |some n =>
   rw [jD] at hos
   have z_n := hos
   have hn := hon n rfl
   obtain ⟨bKN, aHF, aHG, a1X⟩ := eL (show ¬ n = n1 from hn.1)
   obtain ⟨aMI, lD, lE, w8⟩ := eL (show ¬ n = n2 from hn.2)
   try simp -dsimp -implicitDefEqProofs only [go_sem, ↓reduceIte, Tryz.f100, aF, aC, kW, kX, aHF, aHG, lD, lE, ea, hlt, aG, aQ, aA.aN]
   try (with_reducible intro _)
   refine aJ.wn3 (pN.sub (by repeat' (first | exact cD.nil | refine cD.cons ?_ ?_ | exact Sub.refl _ | (rw [aA.aN]; exact Sub.refl _) | exact Sub.dM rfl rfl rfl | exact Sub.ip (bS (by omega)) (by simp) | exact Sub.dM (bS (by omega)) rfl rfl | exact Sub.ip (by simp [*]) (by simp) | exact Sub.dM (by simp [*]) (by rfl) (by rfl))) hx) z_n ⟨a1X, uB⟩ ⟨aCA, w8, bT⟩ ?_
   rintro r l_ gb ⟨e_b, oeb, rfl, rfl⟩ wb z_n uB bT
   have oob := oeb
   rw [aA.pS] at oob
   obtain ⟨u6, rfl, iP⟩ := oob
   try simp -dsimp -implicitDefEqProofs only [go_sem, ↓reduceIte, Tryz.f100, aF, aC, kW, kX, aHF, aHG, lD, lE, ea, hlt, aG, aQ, iP.flat, iP.one, OV.aO, OV.aE, OV.aS]
   repeat' (with_reducible first | refine And.intro (by first | omega | decide | rfl | trivial | exact Nat.le_of_eq (cW _ _).symm | exact Nat.le_of_eq (cJ _).symm) ?_)
   intro m qm
   obtain ⟨l9, mA, mB, w7⟩ := eL (show ¬ m = n2 from qm.1)
   obtain ⟨aJ0, aJ1, aJ2, a1W⟩ := eL (show ¬ m = n1 from qm.2.1)
   obtain ⟨aYT, aF6, aF7, aYU⟩ := eL (show ¬ m = n from qm.2.2.1)
   have z_m := qm.2.2.2
   try simp -dsimp -implicitDefEqProofs only [go_sem, ↓reduceIte, Tryz.f100, aF, aC, kW, kX, aHF, aHG, lD, lE, mA, mB, aJ1, aJ2, aF6, aF7, ea, hlt, aG, aQ, iP.flat, iP.one, OV.aO, OV.aE, OV.aS]
   refine ⟨(k + 1, es ++ [[.v (.int .i64 x.aM[k].a6), .v (.int .i64 x.aM[k].bQ), .v (.int .i64 x.aM[k].c9), .v (.int .i64 x.aM[k].cU), u6]], gb, some m), ?_⟩
   simp only
   refine ⟨?_, (by intro q_; simp only [a7, aK, aG, aW, aQ, cA, bY, cO, cP, aP, aT, OV.aS, List.nil_append, List.length_append, List.length_cons, List.length_nil, Nat.zero_add]; grind), ⟨by omega, OR.snoc hor hlt oeb, hnew.snoc wb, uB, bT, z_m, (fun n_ e_ => by obtain rfl := Option.some.inj e_; exact ⟨aJ0, l9⟩)⟩, by omega⟩
   all_goals (repeat' (with_reducible refine And.intro ?_ ?_))
   all_goals first | rfl | trivial | (rw [IntWalk.i64_in _ (by omega)]; omega)
 ·have hk2 : k = x.aM.length := by omega
  subst hk2
  rw [List.take_length] at hor
  have bKP : dD g_ (.row 5 (OV.cells es)) o_ n1 = none := eK uB fun n_ e_ => (hon n_ e_).1
  have aMJ : dD g_ (.row 5 (OV.cells es)) o_ n2 = none := eK bT fun n_ e_ => (hon n_ e_).2
  try simp -dsimp -implicitDefEqProofs only [go_sem, ↓reduceIte, Tryz.f100, aF, aC, kW, kX, eY, fV, Nat.lt_irrefl]
  try (with_reducible intro _)
  refine ⟨_, (dD g_ (.row 5 (OV.cells es)) o_), _, Shift.of (Sub.agg (cD.cons (Sub.refl _) (cD.cons (Sub.refl _) (cD.cons (Sub.refl _) (cD.cons (Sub.refl _) (cD.cons pD cD.nil)))))) (by intro q_; simp only [a7, aK, aG, aW, aQ, cA, bY, cO, cP, aP, aT, OV.aS, List.nil_append, List.length_append, List.length_cons, List.length_nil, Nat.zero_add]; grind), ⟨[.v (I x.a6), .v (I x.bQ), .v (I x.c9), .v (I x.cU), (x8 5 es o_)], ?_, rfl, rfl⟩, ?_⟩
  ·rw [aA.pS]; exact ⟨(x8 5 es o_), rfl, sX hor hos⟩
  ·have hq := (pE (sz := 5) hnew hos)
   simpa only [OV.bL, OV.cF, OV.c8, List.nil_append, List.append_nil, List.append_assoc] using hq
theorem aTQ (x : aA) (hs : x.s ≤ 1048576) : pN Tryz.prog 100 [.ip 5 [x.c] 0 0] (QA x.o) :=
 aRR x hs fun y hy => aTQ y (by have := gG aA.s hy; rw [x.fR, eN] at hs; omega)
termination_by SizeOf.sizeOf x
decreasing_by exact aA.rO hy
end Go.Hl

/-
  Contracts of functions and laws of the layer over the walk.
-/
import Derived.Test.YtoomflalicffnaaGreatVvA
import Derived.Test.YtoomflalicffnaaGreatHlD
namespace Go.Hl
set_option maxRecDepth 100000
open Go.Proofs
set_option linter.unusedVariables false
set_option linter.unusedSimpArgs false
set_option maxHeartbeats 8000000 in
theorem aDX (p : aC) (e : aA) (vars funcs : Int) (hv : 0 ≤ vars) (hv2 : vars + e.s ≤ 4294967296) (c7 : 0 ≤ funcs) (hf : funcs ≤ p.aJ.length) (hps : p.s ≤ 4294967296)
  (hc : ∀ y ∈ e.aI, ∀ vars : Int, 0 ≤ vars → vars + y.s ≤ 4294967296 → dV Tryz.prog 222 [.agg [dB 3 aP.c p.aJ, I funcs], .agg y.c, I vars] (.bool (decide (y.ok p funcs vars)))) (hk : ¬ (e.aQ = 10 ∨ e.aQ = 11)) :
  dV Tryz.prog 222 [.agg [dB 3 aP.c p.aJ, I funcs], .agg e.c, I vars] (.bool (decide (e.ok p funcs vars))) := by
 have hok := aA.cC p funcs e vars
 have hl := p.aF2
 have e1 : IntKind.i64.wrap (funcs - 1) = funcs - 1 := IntWalk.i64_in _ (by omega)
 have e2 : IntKind.i64.wrap (vars - 1) = vars - 1 := IntWalk.i64_in _ (by omega)
 simp only [aA.aN]
 have no1 (hk : ¬ (e.aQ = 10 ∨ e.aQ = 11)) (q : ¬ (eE e.aQ = e.aI.length ∧ e.b7 = 0 ∧ e.bV = 0 ∧ (e.aQ = 1 → iI e.aW) ∧ (e.aQ = 2 → 0 ≤ e.aW ∧ e.aW ≤ vars - 1) ∧ (e.aQ ≠ 1 → e.aQ ≠ 2 → e.aW = 0))) : false = decide (e.ok p funcs vars) :=
  (decide_eq_false fun z => q ((dM hk).1 (hok.1 z).1)).symm
 have a7X (hk : ¬ (e.aQ = 10 ∨ e.aQ = 11)) (q : eE e.aQ = e.aI.length ∧ e.b7 = 0 ∧ e.bV = 0 ∧ (e.aQ = 1 → iI e.aW) ∧ (e.aQ = 2 → 0 ≤ e.aW ∧ e.aW ≤ vars - 1) ∧ (e.aQ ≠ 1 → e.aQ ≠ 2 → e.aW = 0)) : mM p e vars funcs := (dM hk).2 q
 refine dS 177 rG aBG bD mix Tryz.func222 rfl (by kernel_rfl) (by simp) fun h => ?_
 simp (maxSteps := 1000000) -dsimp -implicitDefEqProofs only [go_sem, ↓reduceIte, Tryz.f222, e1, e2]
 repeat' (with_reducible first | intro _ | refine And.intro ?_ ?_)
 all_goals try omega
 all_goals try (refine no1 (by omega) ?_; simp only [eE]; grind)
 ·first | refine aG.mk (oV e.aW) ?_ | refine aE.mk (oV e.aW) ?_ | refine aG.a8 (oV e.aW) ?_ | refine aE.mk (a6.cK (oV e.aW)) ?_
  simp (maxSteps := 1000000) -dsimp -implicitDefEqProofs only [go_sem, ↓reduceIte, Tryz.f222]
  rw [decide_eq_decide, hok, dM hk]
  have : e.aI.length = 0 := by omega
  constructor
  ·intro q
   exact ⟨by simp only [eE]; grind, fun k hk => by omega⟩
  ·intro q
   grind
 ·first | refine aG.mk (within e.aW 0 (vars - 1)) ?_ | refine aE.mk (within e.aW 0 (vars - 1)) ?_ | refine aG.a8 (within e.aW 0 (vars - 1)) ?_ | refine aE.mk (a6.cK (within e.aW 0 (vars - 1))) ?_
  simp (maxSteps := 1000000) -dsimp -implicitDefEqProofs only [go_sem, ↓reduceIte, Tryz.f222]
  rw [decide_eq_decide, hok, dM hk]
  have : e.aI.length = 0 := by omega
  constructor
  ·intro q
   exact ⟨by simp only [eE]; grind, fun k hk => by omega⟩
  ·intro q
   grind
 all_goals
  have hn := a7X hk (by simp only [eE]; grind)
  clear no1 a7X
  refine bX (keep := rG) (ib := aBG) (mk := bD) mix (by kernel_rfl) (fun k : Nat => [(2, I vars), (3, .ip 2 [[dB 3 aP.c p.aJ, I funcs]] 0 0), (4, .ip 5 [e.c] 0 0), (154, dB 5 aA.c e.aI), (155, I e.aI.length), (156, I k)]) (fun _ => h) (fun k => k ≤ e.aI.length ∧ ∀ (j : Nat) (hj : j < e.aI.length), j < k → e.aI[j].ok p funcs (j2 e.aQ j vars)) (fun k => e.aI.length - k) 0 (by refine ⟨by simp [b8, bJ, aA.aN], by repeat' (with_reducible first | exact aB.le_refl _ | refine (bF (by first | assumption | exact And.right (by assumption) | exact b9.2 (by assumption))).2 ?_), by simp⟩) ?_
  intro k ⟨hk, hp⟩
  simp only [aA.aN]
  rcases Nat.lt_or_ge k e.aI.length with hlt | hge
  ·have jF := aA.aBF (List.getElem_mem hlt)
   have nx (q : e.aI[k].ok p funcs (j2 e.aQ k vars)) : ∀ (j : Nat) (hj : j < e.aI.length), j < k + 1 → e.aI[j].ok p funcs (j2 e.aQ j vars) := by
    intro j hj hjk
    rcases Nat.lt_succ_iff_lt_or_eq.1 hjk with h1 | rfl
    ·exact hp j hj h1
    ·exact q
   have no (q : ¬ e.aI[k].ok p funcs (j2 e.aQ k vars)) : false = decide (e.ok p funcs vars) := (decide_eq_false fun z => q ((hok.1 z).2 k hlt)).symm
   have ea : e.aI[k]? = some e.aI[k] := List.getElem?_eq_getElem hlt
   rcases Decidable.em (e.aQ = 9 ∧ k = 1) with e9 | e9
   ·have em : j2 e.aQ k vars = vars + 1 := if_pos e9
    rw [em] at nx no
    have hcy := hc e.aI[k] (List.getElem_mem hlt) (vars + 1) (by omega) (by omega)
    simp only [aA.aN] at hcy
    simp (maxSteps := 1000000) -dsimp -implicitDefEqProofs only [go_sem, ↓reduceIte, Tryz.f222, ea, aA.aN, aK]
    repeat' (with_reducible first | intro _ | refine And.intro ?_ ?_)
    all_goals try omega
    all_goals try simp (disch := omega) only [IntWalk.i64_in]
    all_goals (first | refine aG.mk (hcy) ?_ | refine aE.mk (hcy) ?_)
    all_goals simp (maxSteps := 1000000) -dsimp -implicitDefEqProofs only [go_sem, ↓reduceIte, Tryz.f222]
    all_goals repeat' (with_reducible first | intro _ | refine And.intro ?_ ?_)
    all_goals first | exact no (by assumption) | exact aB.le_refl _ | skip
    all_goals try (exact (bF (by assumption)).2 (aB.le_refl _))
    all_goals
     refine ⟨k + 1, ?_⟩
     repeat' (with_reducible refine And.intro ?_ ?_)
     all_goals try (rw [IntWalk.i64_in _ (by omega)]; first | rfl | omega)
     all_goals try omega
     all_goals try (repeat' (with_reducible first | exact aB.le_refl _ | refine (bF (by first | assumption | exact And.right (by assumption) | exact b9.2 (by assumption))).2 ?_))
     all_goals try (simp only [aA.aN]; done)
     exact nx (by assumption)
   ·have em : j2 e.aQ k vars = vars := if_neg e9
    rw [em] at nx no
    have hcy := hc e.aI[k] (List.getElem_mem hlt) vars (by omega) (by omega)
    simp only [aA.aN] at hcy
    simp (maxSteps := 1000000) -dsimp -implicitDefEqProofs only [go_sem, ↓reduceIte, Tryz.f222, ea, aA.aN, aK]
    repeat' (with_reducible first | intro _ | refine And.intro ?_ ?_)
    all_goals try omega
    all_goals (first | refine aG.mk (hcy) ?_ | refine aE.mk (hcy) ?_)
    all_goals simp (maxSteps := 1000000) -dsimp -implicitDefEqProofs only [go_sem, ↓reduceIte, Tryz.f222]
    all_goals repeat' (with_reducible first | intro _ | refine And.intro ?_ ?_)
    all_goals first | exact no (by assumption) | exact aB.le_refl _ | skip
    all_goals try (exact (bF (by assumption)).2 (aB.le_refl _))
    all_goals
     refine ⟨k + 1, ?_⟩
     repeat' (with_reducible refine And.intro ?_ ?_)
     all_goals try (rw [IntWalk.i64_in _ (by omega)]; first | rfl | omega)
     all_goals try omega
     all_goals try (repeat' (with_reducible first | exact aB.le_refl _ | refine (bF (by first | assumption | exact And.right (by assumption) | exact b9.2 (by assumption))).2 ?_))
     all_goals try (simp only [aA.aN]; done)
     exact nx (by assumption)
  ·have hk' : k = e.aI.length := by omega
   subst hk'
   simp (maxSteps := 1000000) -dsimp -implicitDefEqProofs only [go_sem, ↓reduceIte, Tryz.f222, Nat.lt_irrefl]
   exact (decide_eq_true (hok.2 ⟨hn, fun j hj => hp j hj hj⟩)).symm
theorem yY {p : aC} {e : aA} {vars funcs : Int} {f : aP} (hk : e.aQ = 10 ∨ e.aQ = 11) (ef : p.aJ[e.aW.toNat]? = some f)
  (q : ¬ (0 ≤ e.b7 ∧ e.b7 ≤ (f.aM.length : Int) - 1 ∧ (e.aI.length : Int) = f.aX ∧ (e.aQ = 10 → e.bV = 0) ∧ (e.aQ = 11 → 0 ≤ e.bV ∧ e.bV ≤ 8 ∧ (f.aM.length : Int) = f.aX))) : false = decide (e.ok p funcs vars) :=
 (decide_eq_false fun z => q ((oW hk ef).1 ((aA.cC _ _ _ _).1 z).1).2.2).symm
theorem aKL {p : aC} {e : aA} {vars funcs : Int} (hk : e.aQ = 10 ∨ e.aQ = 11) (q : ¬ (0 ≤ e.aW ∧ e.aW ≤ funcs - 1)) : false = decide (e.ok p funcs vars) :=
 (decide_eq_false fun z => yX hk q ((aA.cC _ _ _ _).1 z).1).symm
set_option maxHeartbeats 8000000 in
theorem aKM (p : aC) (e : aA) (vars funcs : Int) (hv : 0 ≤ vars) (hv2 : vars + e.s ≤ 4294967296) (c7 : 0 ≤ funcs) (hf : funcs ≤ p.aJ.length) (hps : p.s ≤ 4294967296)
  (hc : ∀ y ∈ e.aI, ∀ vars : Int, 0 ≤ vars → vars + y.s ≤ 4294967296 → dV Tryz.prog 222 [.agg [dB 3 aP.c p.aJ, I funcs], .agg y.c, I vars] (.bool (decide (y.ok p funcs vars)))) (hk : e.aQ = 10) :
  dV Tryz.prog 222 [.agg [dB 3 aP.c p.aJ, I funcs], .agg e.c, I vars] (.bool (decide (e.ok p funcs vars))) := by
 have hl := p.aF2
 have e1 : IntKind.i64.wrap (funcs - 1) = funcs - 1 := IntWalk.i64_in _ (by omega)
 simp only [aA.aN]
 by_cases hr : 0 ≤ e.aW ∧ e.aW ≤ funcs - 1
 ·obtain ⟨f, ef⟩ : ∃ f, p.aJ[e.aW.toNat]? = some f := ⟨_, List.getElem?_eq_getElem (by omega)⟩
  have hfs := aC.aDV (List.mem_of_getElem? ef)
  have hos := f.aDW
  have e3 : IntKind.i64.wrap ((f.aM.length : Int) - 1) = f.aM.length - 1 := IntWalk.i64_in _ (by omega)
  refine dS 177 rG aBG bD mix Tryz.func222 rfl (by kernel_rfl) (by simp) fun h => ?_
  simp -dsimp -implicitDefEqProofs only [go_sem, ↓reduceIte, Tryz.f222, e1, e3, hk]
  repeat' (with_reducible first | intro _ | refine And.intro ?_ ?_)
  all_goals try omega
  all_goals (first | refine aG.mk (within e.aW 0 (funcs - 1)) ?_ | refine aE.mk (within e.aW 0 (funcs - 1)) ?_)
  all_goals simp -dsimp -implicitDefEqProofs only [go_sem, ↓reduceIte, Tryz.f222, ef, aP.aN, aK, hk, e3]
  all_goals repeat' (with_reducible first | intro _ | refine And.intro ?_ ?_)
  all_goals try omega
  all_goals try (refine yY (by omega) ef ?_; omega)
  all_goals try (repeat' (with_reducible first | exact aB.le_refl _ | refine (bF (by first | assumption | exact And.right (by assumption) | exact b9.2 (by assumption))).2 ?_))
  all_goals (first | refine aG.mk (within e.b7 0 (f.aM.length - 1)) ?_ | refine aE.mk (within e.b7 0 (f.aM.length - 1)) ?_)
  all_goals simp -dsimp -implicitDefEqProofs only [go_sem, ↓reduceIte, Tryz.f222, ef, aP.aN, aK, hk]
  all_goals repeat' (with_reducible first | intro _ | refine And.intro ?_ ?_)
  all_goals try omega
  all_goals try (refine yY (by omega) ef ?_; omega)
  all_goals try (repeat' (with_reducible first | exact aB.le_refl _ | refine (bF (by first | assumption | exact And.right (by assumption) | exact b9.2 (by assumption))).2 ?_))
  all_goals
   have hn : mM p e vars funcs := (oW (by omega) ef).2 (by omega)
   have hok := aA.cC p funcs e vars
   clear hr hfs hos ef
   refine bX (keep := rG) (ib := aBG) (mk := bD) mix (by kernel_rfl) (fun k : Nat => [(2, I vars), (3, .ip 2 [[dB 3 aP.c p.aJ, I funcs]] 0 0), (4, .ip 5 [e.c] 0 0), (154, dB 5 aA.c e.aI), (155, I e.aI.length), (156, I k)]) (fun _ => h) (fun k => k ≤ e.aI.length ∧ ∀ (j : Nat) (hj : j < e.aI.length), j < k → e.aI[j].ok p funcs vars) (fun k => e.aI.length - k) 0 (by refine ⟨by simp [b8, bJ, aA.aN, hk], by repeat' (with_reducible first | exact aB.le_refl _ | refine (bF (by first | assumption | exact And.right (by assumption) | exact b9.2 (by assumption))).2 ?_), by simp⟩) ?_
   intro k ⟨hk', hp⟩
   simp only [aA.aN]
   rcases Nat.lt_or_ge k e.aI.length with hlt | hge
   ·have jF := aA.aBF (List.getElem_mem hlt)
    have nx (q : e.aI[k].ok p funcs vars) : ∀ (j : Nat) (hj : j < e.aI.length), j < k + 1 → e.aI[j].ok p funcs vars := by
     intro j hj hjk
     rcases Nat.lt_succ_iff_lt_or_eq.1 hjk with h1 | rfl
     ·exact hp j hj h1
     ·exact q
    have no (q : ¬ e.aI[k].ok p funcs vars) : false = decide (e.ok p funcs vars) := (decide_eq_false fun z => q (by have := (hok.1 z).2 k hlt; rwa [show j2 e.aQ k vars = vars from if_neg (by omega)] at this)).symm
    have ea : e.aI[k]? = some e.aI[k] := List.getElem?_eq_getElem hlt
    have hcy := hc e.aI[k] (List.getElem_mem hlt) vars (by omega) (by omega)
    simp only [aA.aN] at hcy
    simp -dsimp -implicitDefEqProofs only [go_sem, ↓reduceIte, Tryz.f222, ea, aA.aN, aK, hk]
    repeat' (with_reducible first | intro _ | refine And.intro ?_ ?_)
    all_goals try omega
    first | refine aG.mk (hcy) ?_ | refine aE.mk (hcy) ?_ | refine aG.a8 (hcy) ?_ | refine aE.mk (a6.cK (hcy)) ?_
    simp -dsimp -implicitDefEqProofs only [go_sem, ↓reduceIte, Tryz.f222]
    repeat' (with_reducible first | intro _ | refine And.intro ?_ ?_)
    all_goals first | exact no (by assumption) | skip
    all_goals try (repeat' (with_reducible first | exact aB.le_refl _ | refine (bF (by first | assumption | exact And.right (by assumption) | exact b9.2 (by assumption))).2 ?_))
    refine ⟨k + 1, ?_⟩
    repeat' (with_reducible refine And.intro ?_ ?_)
    all_goals try (rw [IntWalk.i64_in _ (by omega)]; first | rfl | omega)
    all_goals try omega
    all_goals try (repeat' (with_reducible first | exact aB.le_refl _ | refine (bF (by first | assumption | exact And.right (by assumption) | exact b9.2 (by assumption))).2 ?_))
    all_goals try (simp only [aA.aN, hk]; done)
    exact nx (by assumption)
   ·have hk'' : k = e.aI.length := by omega
    subst hk''
    simp -dsimp -implicitDefEqProofs only [go_sem, ↓reduceIte, Tryz.f222, Nat.lt_irrefl]
    exact (decide_eq_true (hok.2 ⟨hn, fun j hj => by rw [show j2 e.aQ j vars = vars from if_neg (by omega)]; exact hp j hj hj⟩)).symm
 ·refine dS 177 rG aBG bD mix Tryz.func222 rfl (by kernel_rfl) (by simp) fun h => ?_
  simp -dsimp -implicitDefEqProofs only [go_sem, ↓reduceIte, Tryz.f222, e1, hk]
  repeat' (with_reducible first | intro _ | refine And.intro ?_ ?_)
  all_goals try omega
  all_goals (first | refine aG.mk (within e.aW 0 (funcs - 1)) ?_ | refine aE.mk (within e.aW 0 (funcs - 1)) ?_)
  all_goals simp -dsimp -implicitDefEqProofs only [go_sem, ↓reduceIte, Tryz.f222]
  all_goals repeat' (with_reducible first | intro _ | refine And.intro ?_ ?_)
  all_goals try omega
  all_goals exact aKL (by omega) hr
set_option maxHeartbeats 8000000 in
theorem aKN (p : aC) (e : aA) (vars funcs : Int) (hv : 0 ≤ vars) (hv2 : vars + e.s ≤ 4294967296) (c7 : 0 ≤ funcs) (hf : funcs ≤ p.aJ.length) (hps : p.s ≤ 4294967296)
  (hc : ∀ y ∈ e.aI, ∀ vars : Int, 0 ≤ vars → vars + y.s ≤ 4294967296 → dV Tryz.prog 222 [.agg [dB 3 aP.c p.aJ, I funcs], .agg y.c, I vars] (.bool (decide (y.ok p funcs vars)))) (hk : e.aQ = 11) :
  dV Tryz.prog 222 [.agg [dB 3 aP.c p.aJ, I funcs], .agg e.c, I vars] (.bool (decide (e.ok p funcs vars))) := by
 have hl := p.aF2
 have e1 : IntKind.i64.wrap (funcs - 1) = funcs - 1 := IntWalk.i64_in _ (by omega)
 simp only [aA.aN]
 by_cases hr : 0 ≤ e.aW ∧ e.aW ≤ funcs - 1
 ·obtain ⟨f, ef⟩ : ∃ f, p.aJ[e.aW.toNat]? = some f := ⟨_, List.getElem?_eq_getElem (by omega)⟩
  have hfs := aC.aDV (List.mem_of_getElem? ef)
  have hos := f.aDW
  have e3 : IntKind.i64.wrap ((f.aM.length : Int) - 1) = f.aM.length - 1 := IntWalk.i64_in _ (by omega)
  refine dS 177 rG aBG bD mix Tryz.func222 rfl (by kernel_rfl) (by simp) fun h => ?_
  simp -dsimp -implicitDefEqProofs only [go_sem, ↓reduceIte, Tryz.f222, e1, e3, hk]
  repeat' (with_reducible first | intro _ | refine And.intro ?_ ?_)
  all_goals try omega
  all_goals (first | refine aG.mk (within e.aW 0 (funcs - 1)) ?_ | refine aE.mk (within e.aW 0 (funcs - 1)) ?_)
  all_goals simp -dsimp -implicitDefEqProofs only [go_sem, ↓reduceIte, Tryz.f222, ef, aP.aN, aK, hk, e3]
  all_goals repeat' (with_reducible first | intro _ | refine And.intro ?_ ?_)
  all_goals try omega
  all_goals try (refine yY (by omega) ef ?_; omega)
  all_goals try (repeat' (with_reducible first | exact aB.le_refl _ | refine (bF (by first | assumption | exact And.right (by assumption) | exact b9.2 (by assumption))).2 ?_))
  all_goals (first | refine aG.mk (within e.b7 0 (f.aM.length - 1)) ?_ | refine aE.mk (within e.b7 0 (f.aM.length - 1)) ?_)
  all_goals simp -dsimp -implicitDefEqProofs only [go_sem, ↓reduceIte, Tryz.f222, ef, aP.aN, aK, hk]
  all_goals repeat' (with_reducible first | intro _ | refine And.intro ?_ ?_)
  all_goals try omega
  all_goals try (refine yY (by omega) ef ?_; omega)
  all_goals try (repeat' (with_reducible first | exact aB.le_refl _ | refine (bF (by first | assumption | exact And.right (by assumption) | exact b9.2 (by assumption))).2 ?_))
  all_goals (first | refine aG.mk (within e.bV 0 8) ?_ | refine aE.mk (within e.bV 0 8) ?_)
  all_goals simp -dsimp -implicitDefEqProofs only [go_sem, ↓reduceIte, Tryz.f222, aK, hk]
  all_goals repeat' (with_reducible first | intro _ | refine And.intro ?_ ?_)
  all_goals try (refine yY (by omega) ef ?_; omega)
  all_goals try (repeat' (with_reducible first | exact aB.le_refl _ | refine (bF (by first | assumption | exact And.right (by assumption) | exact b9.2 (by assumption))).2 ?_))
  all_goals
   have hn : mM p e vars funcs := (oW (by omega) ef).2 (by omega)
   have hok := aA.cC p funcs e vars
   clear hr hfs hos ef
   refine bX (keep := rG) (ib := aBG) (mk := bD) mix (by kernel_rfl) (fun k : Nat => [(2, I vars), (3, .ip 2 [[dB 3 aP.c p.aJ, I funcs]] 0 0), (4, .ip 5 [e.c] 0 0), (154, dB 5 aA.c e.aI), (155, I e.aI.length), (156, I k)]) (fun _ => h) (fun k => k ≤ e.aI.length ∧ ∀ (j : Nat) (hj : j < e.aI.length), j < k → e.aI[j].ok p funcs vars) (fun k => e.aI.length - k) 0 (by refine ⟨by simp [b8, bJ, aA.aN, hk], by repeat' (with_reducible first | exact aB.le_refl _ | refine (bF (by first | assumption | exact And.right (by assumption) | exact b9.2 (by assumption))).2 ?_), by simp⟩) ?_
   intro k ⟨hk', hp⟩
   simp only [aA.aN]
   rcases Nat.lt_or_ge k e.aI.length with hlt | hge
   ·have jF := aA.aBF (List.getElem_mem hlt)
    have nx (q : e.aI[k].ok p funcs vars) : ∀ (j : Nat) (hj : j < e.aI.length), j < k + 1 → e.aI[j].ok p funcs vars := by
     intro j hj hjk
     rcases Nat.lt_succ_iff_lt_or_eq.1 hjk with h1 | rfl
     ·exact hp j hj h1
     ·exact q
    have no (q : ¬ e.aI[k].ok p funcs vars) : false = decide (e.ok p funcs vars) := (decide_eq_false fun z => q (by have := (hok.1 z).2 k hlt; rwa [show j2 e.aQ k vars = vars from if_neg (by omega)] at this)).symm
    have ea : e.aI[k]? = some e.aI[k] := List.getElem?_eq_getElem hlt
    have hcy := hc e.aI[k] (List.getElem_mem hlt) vars (by omega) (by omega)
    simp only [aA.aN] at hcy
    simp -dsimp -implicitDefEqProofs only [go_sem, ↓reduceIte, Tryz.f222, ea, aA.aN, aK, hk]
    repeat' (with_reducible first | intro _ | refine And.intro ?_ ?_)
    all_goals try omega
    first | refine aG.mk (hcy) ?_ | refine aE.mk (hcy) ?_ | refine aG.a8 (hcy) ?_ | refine aE.mk (a6.cK (hcy)) ?_
    simp -dsimp -implicitDefEqProofs only [go_sem, ↓reduceIte, Tryz.f222]
    repeat' (with_reducible first | intro _ | refine And.intro ?_ ?_)
    all_goals first | exact no (by assumption) | skip
    all_goals try (repeat' (with_reducible first | exact aB.le_refl _ | refine (bF (by first | assumption | exact And.right (by assumption) | exact b9.2 (by assumption))).2 ?_))
    refine ⟨k + 1, ?_⟩
    repeat' (with_reducible refine And.intro ?_ ?_)
    all_goals try (rw [IntWalk.i64_in _ (by omega)]; first | rfl | omega)
    all_goals try omega
    all_goals try (repeat' (with_reducible first | exact aB.le_refl _ | refine (bF (by first | assumption | exact And.right (by assumption) | exact b9.2 (by assumption))).2 ?_))
    all_goals try (simp only [aA.aN, hk]; done)
    exact nx (by assumption)
   ·have hk'' : k = e.aI.length := by omega
    subst hk''
    simp -dsimp -implicitDefEqProofs only [go_sem, ↓reduceIte, Tryz.f222, Nat.lt_irrefl]
    exact (decide_eq_true (hok.2 ⟨hn, fun j hj => by rw [show j2 e.aQ j vars = vars from if_neg (by omega)]; exact hp j hj hj⟩)).symm
 ·refine dS 177 rG aBG bD mix Tryz.func222 rfl (by kernel_rfl) (by simp) fun h => ?_
  simp -dsimp -implicitDefEqProofs only [go_sem, ↓reduceIte, Tryz.f222, e1, hk]
  repeat' (with_reducible first | intro _ | refine And.intro ?_ ?_)
  all_goals try omega
  all_goals (first | refine aG.mk (within e.aW 0 (funcs - 1)) ?_ | refine aE.mk (within e.aW 0 (funcs - 1)) ?_)
  all_goals simp -dsimp -implicitDefEqProofs only [go_sem, ↓reduceIte, Tryz.f222]
  all_goals repeat' (with_reducible first | intro _ | refine And.intro ?_ ?_)
  all_goals try omega
  all_goals exact aKL (by omega) hr
theorem yZ (p : aC) (e : aA) (vars funcs : Int) (hv : 0 ≤ vars) (hv2 : vars + e.s ≤ 4294967296) (c7 : 0 ≤ funcs) (hf : funcs ≤ p.aJ.length) (hps : p.s ≤ 4294967296) :
  dV Tryz.prog 222 [.agg [dB 3 aP.c p.aJ, I funcs], .agg e.c, I vars] (.bool (decide (e.ok p funcs vars))) := by
 by_cases h1 : e.aQ = 10
 ·exact aKM p e vars funcs hv hv2 c7 hf hps (fun y hy vars hv hv2 => yZ p y vars funcs hv hv2 c7 hf hps) h1
 ·by_cases h2 : e.aQ = 11
  ·exact aKN p e vars funcs hv hv2 c7 hf hps (fun y hy vars hv hv2 => yZ p y vars funcs hv hv2 c7 hf hps) h2
  ·exact aDX p e vars funcs hv hv2 c7 hf hps (fun y hy vars hv hv2 => yZ p y vars funcs hv hv2 c7 hf hps) (fun q => q.elim h1 h2)
termination_by SizeOf.sizeOf e
decreasing_by all_goals exact aA.qB hy
def kA (p : aC) (e : aA) (vars funcs : Int) : Prop := (0 ≤ vars ∧ vars ≤ 412) ∧ (0 ≤ funcs ∧ funcs ≤ p.aJ.length) ∧ (e.s : Int) + 1 ≤ 400 ∧ (e.d : Int) ≤ 60 ∧ e.ok p funcs vars
noncomputable instance (p : aC) (e : aA) (vars funcs : Int) : Decidable (kA p e vars funcs) := Classical.propDecidable _
def vO (p : aC) (k : Nat) (f : aP) : Prop := yV f.hJ ∧ (0 ≤ f.aX ∧ f.aX ≤ 12) ∧ (1 ≤ (f.aM.length : Int) ∧ (f.aM.length : Int) ≤ 12) ∧ (∀ g ∈ p.aJ.take k, g.hJ ≠ f.hJ) ∧ (tH aA.s f.aM : Int) ≤ 400 ∧ ∀ e ∈ f.aM, kA p e f.aX k
noncomputable instance (p : aC) (k : Nat) (f : aP) : Decidable (vO p k f) := Classical.propDecidable _
def aC.ok (p : aC) : Prop := (p.aJ.length : Int) ≤ 16 ∧ ∀ (k : Nat) (f : aP), p.aJ[k]? = some f → vO p k f
noncomputable instance (p : aC) : Decidable p.ok := Classical.propDecidable _
theorem aB2 (n : Int) : dV Tryz.prog 227 [I n] (.bool (decide (0 ≤ n ∧ n ≤ 412))) := by
 refine dS 5 aAH bT bD mix Tryz.func227 rfl (by kernel_rfl) (by simp) fun h => ?_
 simp -dsimp -implicitDefEqProofs only [go_sem, ↓reduceIte, Tryz.f227]
 first | refine aG.mk (eD n 0 412) ?_ | refine aE.mk (eD n 0 412) ?_ | refine aG.a8 (eD n 0 412) ?_ | refine aE.mk (a6.cK (eD n 0 412)) ?_
 simp -dsimp -implicitDefEqProofs only [go_sem, ↓reduceIte, Tryz.f227]
theorem aB3 (n : Int) : dV Tryz.prog 220 [I n] (.bool (decide (0 ≤ n ∧ n ≤ 412))) := by
 refine dS 5 aAH bT bD mix Tryz.func220 rfl (by kernel_rfl) (by simp) fun h => ?_
 simp -dsimp -implicitDefEqProofs only [go_sem, ↓reduceIte, Tryz.f220]
 first | refine aG.mk (within n 0 412) ?_ | refine aE.mk (within n 0 412) ?_ | refine aG.a8 (within n 0 412) ?_ | refine aE.mk (a6.cK (within n 0 412)) ?_
 simp -dsimp -implicitDefEqProofs only [go_sem, ↓reduceIte, Tryz.f220]
theorem aDY {left : Int} {n : Nat} : 0 ≤ lft left n ↔ (n : Int) ≤ left := by
 unfold lft; split <;> omega
@[go_sem] def aWT : List Nat := [0, 1, 2, 3, 8]
theorem aO1 (p : aC) (e : aA) (vars funcs : Int) (hs : e.s ≤ 4294966296) (hps : p.s ≤ 4294967296) : dV Tryz.prog 218 [.ip 1 [p.c] 0 0, .ip 5 [e.c] 0 0, I vars, I funcs] (.bool (decide (kA p e vars funcs))) := by
 simp only [aC.aN]
 refine dS 37 aWT bT bD mix Tryz.func218 rfl (by kernel_rfl) (by simp) fun h => ?_
 simp -dsimp -implicitDefEqProofs only [go_sem, ↓reduceIte, Tryz.f218]
 first | refine aG.mk (aB2 vars) ?_ | refine aE.mk (aB2 vars) ?_ | refine aG.a8 (aB2 vars) ?_ | refine aE.mk (a6.cK (aB2 vars)) ?_
 simp -dsimp -implicitDefEqProofs only [go_sem, ↓reduceIte, Tryz.f218]
 repeat' (with_reducible first | intro _ | refine And.intro ?_ ?_)
 all_goals try (first | (simp [kA, *]; done) | omega | (grind [kA]) | (simp [kA]; omega))
 first | refine aG.mk (eD funcs 0 p.aJ.length) ?_ | refine aE.mk (eD funcs 0 p.aJ.length) ?_ | refine aG.a8 (eD funcs 0 p.aJ.length) ?_ | refine aE.mk (a6.cK (eD funcs 0 p.aJ.length)) ?_
 simp -dsimp -implicitDefEqProofs only [go_sem, ↓reduceIte, Tryz.f218]
 repeat' (with_reducible first | intro _ | refine And.intro ?_ ?_)
 all_goals try (first | (simp [kA, *]; done) | omega | (grind [kA]) | (simp [kA]; omega))
 first | refine aE.mk ((yW e 400 (by omega) (by omega) (by omega)).sub (by repeat' (first | exact fH.nil | refine fH.cons ?_ ?_ | exact Sub.refl _ | (rw [aA.aN]; exact Sub.refl _) | exact Sub.fI rfl rfl rfl | exact Sub.ip (bY (by omega)) (by simp) | exact Sub.fI (bY (by omega)) rfl rfl | exact Sub.ip (by simp [*]) (by simp) | exact Sub.fI (by simp [*]) (by rfl) (by rfl)))) ?_ | refine aG.mk ((yW e 400 (by omega) (by omega) (by omega)).sub (by repeat' (first | exact fH.nil | refine fH.cons ?_ ?_ | exact Sub.refl _ | (rw [aA.aN]; exact Sub.refl _) | exact Sub.fI rfl rfl rfl | exact Sub.ip (bY (by omega)) (by simp) | exact Sub.fI (bY (by omega)) rfl rfl | exact Sub.ip (by simp [*]) (by simp) | exact Sub.fI (by simp [*]) (by rfl) (by rfl)))) ?_
 simp -dsimp -implicitDefEqProofs only [go_sem, ↓reduceIte, Tryz.f218]
 repeat' (with_reducible first | intro _ | refine And.intro ?_ ?_)
 ·have hle : ((e.s + 1 : Nat) : Int) ≤ 400 := aDY.1 (by assumption)
  first | refine aE.mk ((aDU e (by omega)).sub (by repeat' (first | exact fH.nil | refine fH.cons ?_ ?_ | exact Sub.refl _ | (rw [aA.aN]; exact Sub.refl _) | exact Sub.fI rfl rfl rfl | exact Sub.ip (bY (by omega)) (by simp) | exact Sub.fI (bY (by omega)) rfl rfl | exact Sub.ip (by simp [*]) (by simp) | exact Sub.fI (by simp [*]) (by rfl) (by rfl)))) ?_ | refine aG.mk ((aDU e (by omega)).sub (by repeat' (first | exact fH.nil | refine fH.cons ?_ ?_ | exact Sub.refl _ | (rw [aA.aN]; exact Sub.refl _) | exact Sub.fI rfl rfl rfl | exact Sub.ip (bY (by omega)) (by simp) | exact Sub.fI (bY (by omega)) rfl rfl | exact Sub.ip (by simp [*]) (by simp) | exact Sub.fI (by simp [*]) (by rfl) (by rfl)))) ?_
  simp -dsimp -implicitDefEqProofs only [go_sem, ↓reduceIte, Tryz.f218]
  repeat' (with_reducible first | intro _ | refine And.intro ?_ ?_)
  ·first | refine aE.mk ((aHK p e vars funcs (by omega) (by omega) (by omega) (by omega) hps).sub (by repeat' (first | exact fH.nil | refine fH.cons ?_ ?_ | exact Sub.refl _ | (rw [aA.aN]; exact Sub.refl _) | exact Sub.fI rfl rfl rfl | exact Sub.ip (bY (by omega)) (by simp) | exact Sub.fI (bY (by omega)) rfl rfl | exact Sub.ip (by simp [*]) (by simp) | exact Sub.fI (by simp [*]) (by rfl) (by rfl)))) ?_ | refine aG.mk ((aHK p e vars funcs (by omega) (by omega) (by omega) (by omega) hps).sub (by repeat' (first | exact fH.nil | refine fH.cons ?_ ?_ | exact Sub.refl _ | (rw [aA.aN]; exact Sub.refl _) | exact Sub.fI rfl rfl rfl | exact Sub.ip (bY (by omega)) (by simp) | exact Sub.fI (bY (by omega)) rfl rfl | exact Sub.ip (by simp [*]) (by simp) | exact Sub.fI (by simp [*]) (by rfl) (by rfl)))) ?_
   simp -dsimp -implicitDefEqProofs only [go_sem, ↓reduceIte, Tryz.f218]
   rw [decide_eq_decide]
   exact ⟨fun q => ⟨by omega, by omega, by omega, by omega, q⟩, fun q => q.2.2.2.2⟩
  ·exact (decide_eq_false fun q => by have := q.2.2.2.1; omega).symm
 ·rename_i hn
  exact (decide_eq_false fun q => hn (aDY.2 (by have := q.2.2.1; omega))).symm
@[go_sem] def aWU : List Nat := [0, 1, 2, 3, 4, 5, 8]
@[go_sem] def a7Y : List Nat := [4, 5]
theorem aQX (p : aC) (e : aA) (vars funcs : Int) (hs : e.s ≤ 4294966296) (hps : p.s ≤ 4294967296) : dV Tryz.prog 201 [.agg p.c, .agg e.c, I vars, I funcs] (.bool (decide (kA p e vars funcs))) := by
 have h1 := aDS e (by omega)
 have h2 := aF1 e (by omega)
 simp only [aA.aN] at h1 h2
 simp only [aC.aN, aA.aN]
 refine dS 36 aWU a7Y bD mix Tryz.func201 rfl (by kernel_rfl) (by simp) fun h => ?_
 simp -dsimp -implicitDefEqProofs only [go_sem, ↓reduceIte, Tryz.f201]
 first | refine aG.mk (aB3 vars) ?_ | refine aE.mk (aB3 vars) ?_ | refine aG.a8 (aB3 vars) ?_ | refine aE.mk (a6.cK (aB3 vars)) ?_
 simp -dsimp -implicitDefEqProofs only [go_sem, ↓reduceIte, Tryz.f201]
 repeat' (with_reducible first | intro _ | refine And.intro ?_ ?_)
 all_goals try (first | (simp [kA, *]; done) | omega | (grind [kA]) | (simp [kA]; omega))
 first | refine aG.mk (within funcs 0 p.aJ.length) ?_ | refine aE.mk (within funcs 0 p.aJ.length) ?_ | refine aG.a8 (within funcs 0 p.aJ.length) ?_ | refine aE.mk (a6.cK (within funcs 0 p.aJ.length)) ?_
 simp -dsimp -implicitDefEqProofs only [go_sem, ↓reduceIte, Tryz.f201]
 repeat' (with_reducible first | intro _ | refine And.intro ?_ ?_)
 all_goals try (first | (simp [kA, *]; done) | omega | (grind [kA]) | (simp [kA]; omega))
 first | refine aG.mk (h1) ?_ | refine aE.mk (h1) ?_ | refine aG.a8 (h1) ?_ | refine aE.mk (a6.cK (h1)) ?_
 simp -dsimp -implicitDefEqProofs only [go_sem, ↓reduceIte, Tryz.f201]
 repeat' (with_reducible first | intro _ | refine And.intro ?_ ?_)
 ·first | refine aG.mk (h2) ?_ | refine aE.mk (h2) ?_ | refine aG.a8 (h2) ?_ | refine aE.mk (a6.cK (h2)) ?_
  simp -dsimp -implicitDefEqProofs only [go_sem, ↓reduceIte, Tryz.f201]
  repeat' (with_reducible first | intro _ | refine And.intro ?_ ?_)
  ·have h3 := yZ p e vars funcs (by omega) (by omega) (by omega) (by omega) hps
   simp only [aA.aN] at h3
   first | refine aG.mk (h3) ?_ | refine aE.mk (h3) ?_ | refine aG.a8 (h3) ?_ | refine aE.mk (a6.cK (h3)) ?_
   simp -dsimp -implicitDefEqProofs only [go_sem, ↓reduceIte, Tryz.f201]
   rw [decide_eq_decide]
   exact ⟨fun q => ⟨by omega, by omega, by omega, by omega, q⟩, fun q => q.2.2.2.2⟩
  ·exact (decide_eq_false fun q => by have := q.2.2.2.1; omega).symm
 ·exact (decide_eq_false fun q => by have := q.2.2.1; omega).symm
@[go_sem] def aHL : List Nat := [0, 1, 4, 5, 6, 7, 8, 37, 40, 55, 62, 90]
@[go_sem] def aS3 : Marks := fun id => match id with | 7 => ([], (.op 0 (.op 1 (.op 2 (.op 3 (.op 4 (.op 5 (.op 6 (.op 7 (.op 8 (.op 9 (.op 10 (.op 11 (.op 12 .nil))))))))))))), []) | 14 => ([], (.op 0 (.op 1 (.op 2 (.op 3 (.op 4 (.op 5 (.op 6 (.op 7 (.op 8 (.op 9 (.op 10 (.op 11 (.op 12 (.op 13 (.op 14 (.op 15 (.op 16 (.op 17 .nil)))))))))))))))))), []) | _ => ([], .nil, [])
theorem aO2 (p : aC) (k : Nat) (f : aP) (ef : p.aJ[k]? = some f) (hps : p.s ≤ 4194304) : dV Tryz.prog 195 [.ip 1 [p.c] 0 0, I k] (.bool (decide (vO p k f))) := by
 have hk : k < p.aJ.length := (List.getElem?_eq_some_iff.1 ef).1
 have hfs := aC.aDV (List.mem_of_getElem? ef)
 have hl := p.aF2
 have hos := f.aDW
 simp only [aC.aN]
 have no (q : ¬ (yV f.hJ ∧ (0 ≤ f.aX ∧ f.aX ≤ 12) ∧ (1 ≤ (f.aM.length : Int) ∧ (f.aM.length : Int) ≤ 12))) : false = decide (vO p k f) := (decide_eq_false fun z => q ⟨z.1, z.2.1, z.2.2.1⟩).symm
 refine dS 91 aHL bT aS3 mix Tryz.func195 rfl (by kernel_rfl) (by simp) fun h => ?_
 simp -dsimp -implicitDefEqProofs only [go_sem, ↓reduceIte, Tryz.f195, ef, aP.aN, Int.toNat_natCast]
 repeat' (with_reducible first | intro _ | refine And.intro ?_ ?_)
 all_goals try omega
 first | refine aG.mk (tR f.hJ) ?_ | refine aE.mk (tR f.hJ) ?_ | refine aG.a8 (tR f.hJ) ?_ | refine aE.mk (a6.cK (tR f.hJ)) ?_
 simp -dsimp -implicitDefEqProofs only [go_sem, ↓reduceIte, Tryz.f195, ef, aP.aN]
 repeat' (with_reducible first | intro _ | refine And.intro ?_ ?_)
 ·first | refine aG.mk (eD f.aX 0 12) ?_ | refine aE.mk (eD f.aX 0 12) ?_ | refine aG.a8 (eD f.aX 0 12) ?_ | refine aE.mk (a6.cK (eD f.aX 0 12)) ?_
  simp -dsimp -implicitDefEqProofs only [go_sem, ↓reduceIte, Tryz.f195, ef, aP.aN]
  repeat' (with_reducible first | intro _ | refine And.intro ?_ ?_)
  ·first | refine aG.mk (eD f.aM.length 1 12) ?_ | refine aE.mk (eD f.aM.length 1 12) ?_ | refine aG.a8 (eD f.aM.length 1 12) ?_ | refine aE.mk (a6.cK (eD f.aM.length 1 12)) ?_
   simp -dsimp -implicitDefEqProofs only [go_sem, ↓reduceIte, Tryz.f195, ef, aP.aN]
   repeat' (with_reducible first | intro _ | refine And.intro ?_ ?_)
   ·exact no fun z => by simp_all
   ·rename_i q1 q2 q3
    refine bX (keep := aHL) (ib := bT) (mk := aS3) mix (by kernel_rfl) (fun j : Nat => [(0, .ip 1 [p.c] 0 0), (1, I k), (5, .ip 3 (p.aJ.map aP.c) k 0), (6, I j)]) (fun _ => h) (fun j => j ≤ k ∧ ∀ g ∈ p.aJ.take j, g.hJ ≠ f.hJ) (fun j => k - j) 0 (by refine ⟨by simp [b8, bJ, aC.aN], by repeat' (with_reducible first | exact aB.le_refl _ | refine (bF (by first | assumption | exact And.right (by assumption) | exact b9.2 (by assumption))).2 ?_), by simp⟩) ?_
    intro j ⟨hj, hp⟩
    simp only [aC.aN]
    rcases Nat.lt_or_ge j k with hlt | hge
    ·have eg : p.aJ[j]? = some p.aJ[j] := List.getElem?_eq_getElem (by omega)
     simp -dsimp -implicitDefEqProofs only [go_sem, ↓reduceIte, Tryz.f195, ef, eg, aP.aN, Int.toNat_natCast]
     repeat' (with_reducible first | intro _ | refine And.intro ?_ ?_)
     all_goals try omega
     ·rename_i he
      refine (decide_eq_false fun z => z.2.2.2.1 p.aJ[j] ?_ he).symm
      exact List.mem_take_iff_getElem.2 ⟨j, by omega, rfl⟩
     ·rename_i he
      refine ⟨j + 1, ?_⟩
      repeat' (with_reducible refine And.intro ?_ ?_)
      all_goals try (rw [IntWalk.i64_in _ (by omega)]; first | rfl | omega)
      all_goals try omega
      all_goals try (repeat' (with_reducible first | exact aB.le_refl _ | refine (bF (by first | assumption | exact And.right (by assumption) | exact b9.2 (by assumption))).2 ?_))
      all_goals try (simp only [aC.aN]; done)
      exact qA (P := fun g : aP => g.hJ ≠ f.hJ) (by omega) hp he
    ·have hj' : j = k := by omega
     rw [hj'] at hp
     simp -dsimp -implicitDefEqProofs only [go_sem, ↓reduceIte, Tryz.f195, hj', Int.lt_irrefl]
     have part (i : Nat) (hi : i < f.aM.length) : i + ((f.aM.take i).map aA.s).sum + f.aM[i].s + 1 ≤ tH aA.s f.aM := by
      have h1 := gY aA.s f.aM i hi
      have h2 := mT aA.s f.aM (i + 1)
      rw [iW]; omega
     have hszs : tH aA.s f.aM ≤ f.s := by rw [f.n8]; omega
     refine bX (keep := aHL) (ib := bT) (mk := aS3) mix (by kernel_rfl) (fun i : Nat => [(0, .ip 1 [p.c] 0 0), (1, I k), (5, .ip 3 (p.aJ.map aP.c) k 0), (7, I (400 - (i + ((f.aM.take i).map aA.s).sum : Nat))), (8, I i)]) (fun _ => h) (fun i => i ≤ f.aM.length ∧ i + ((f.aM.take i).map aA.s).sum ≤ 400 ∧ ∀ e ∈ f.aM.take i, kA p e f.aX k) (fun i => f.aM.length - i) 0 (by refine ⟨by simp [b8, bJ, aC.aN], by repeat' (with_reducible first | exact aB.le_refl _ | refine (bF (by first | assumption | exact And.right (by assumption) | exact b9.2 (by assumption))).2 ?_), by simp⟩) ?_
     intro i ⟨hi, hsum, hall⟩
     simp only [aC.aN]
     rcases Nat.lt_or_ge i f.aM.length with hlt | hge
     ·have h1 := gY aA.s f.aM i hlt
      have hpt := part i hlt
      have hout := aP.aZX (List.getElem_mem hlt)
      simp -dsimp -implicitDefEqProofs only [go_sem, ↓reduceIte, Tryz.f195, ef, aP.aN, Int.toNat_natCast]
      repeat' (with_reducible first | intro _ | refine And.intro ?_ ?_)
      all_goals try omega
      first | refine aE.mk ((yW f.aM[i] (400 - (i + ((f.aM.take i).map aA.s).sum : Nat)) (by omega) (by omega) (by omega)).sub (by repeat' (first | exact fH.nil | refine fH.cons ?_ ?_ | exact Sub.refl _ | (rw [aA.aN]; exact Sub.refl _) | exact Sub.fI rfl rfl rfl | exact Sub.ip (bY (by omega)) (by simp) | exact Sub.fI (bY (by omega)) rfl rfl | exact Sub.ip (by simp [*]) (by simp) | exact Sub.fI (by simp [*]) (by rfl) (by rfl)))) ?_ | refine aG.mk ((yW f.aM[i] (400 - (i + ((f.aM.take i).map aA.s).sum : Nat)) (by omega) (by omega) (by omega)).sub (by repeat' (first | exact fH.nil | refine fH.cons ?_ ?_ | exact Sub.refl _ | (rw [aA.aN]; exact Sub.refl _) | exact Sub.fI rfl rfl rfl | exact Sub.ip (bY (by omega)) (by simp) | exact Sub.fI (bY (by omega)) rfl rfl | exact Sub.ip (by simp [*]) (by simp) | exact Sub.fI (by simp [*]) (by rfl) (by rfl)))) ?_
      simp -dsimp -implicitDefEqProofs only [go_sem, ↓reduceIte, Tryz.f195, ef, aP.aN]
      rcases pU (400 - (i + ((f.aM.take i).map aA.s).sum : Nat)) (f.aM[i].s + 1) with ⟨e, hl1⟩ | ⟨e, hl1⟩
      ·simp -dsimp -implicitDefEqProofs only [go_sem, ↓reduceIte, Tryz.f195, e]
       repeat' (with_reducible first | intro _ | refine And.intro ?_ ?_)
       all_goals try omega
       all_goals exact (decide_eq_false fun z => by have := z.2.2.2.2.1; omega).symm
      ·simp -dsimp -implicitDefEqProofs only [go_sem, ↓reduceIte, Tryz.f195, e]
       repeat' (with_reducible first | intro _ | refine And.intro ?_ ?_)
       all_goals try omega
       first | refine aE.mk ((aO1 p f.aM[i] f.aX k (by omega) (by omega)).sub (by repeat' (first | exact fH.nil | refine fH.cons ?_ ?_ | exact Sub.refl _ | (rw [aA.aN]; exact Sub.refl _) | exact Sub.fI rfl rfl rfl | exact Sub.ip (bY (by omega)) (by simp) | exact Sub.fI (bY (by omega)) rfl rfl | exact Sub.ip (by simp [*]) (by simp) | exact Sub.fI (by simp [*]) (by rfl) (by rfl)))) ?_ | refine aG.mk ((aO1 p f.aM[i] f.aX k (by omega) (by omega)).sub (by repeat' (first | exact fH.nil | refine fH.cons ?_ ?_ | exact Sub.refl _ | (rw [aA.aN]; exact Sub.refl _) | exact Sub.fI rfl rfl rfl | exact Sub.ip (bY (by omega)) (by simp) | exact Sub.fI (bY (by omega)) rfl rfl | exact Sub.ip (by simp [*]) (by simp) | exact Sub.fI (by simp [*]) (by rfl) (by rfl)))) ?_
       simp -dsimp -implicitDefEqProofs only [go_sem, ↓reduceIte, Tryz.f195, ef, aP.aN]
       repeat' (with_reducible first | intro _ | refine And.intro ?_ ?_)
       ·rename_i hn
        exact (decide_eq_false fun z => hn (z.2.2.2.2.2 _ (List.getElem_mem hlt))).symm
       ·rename_i hn
        refine ⟨i + 1, ?_⟩
        repeat' (with_reducible refine And.intro ?_ ?_)
        all_goals try (rw [IntWalk.i64_in _ (by omega)]; first | rfl | omega)
        all_goals try omega
        all_goals try (repeat' (with_reducible first | exact aB.le_refl _ | refine (bF (by first | assumption | exact And.right (by assumption) | exact b9.2 (by assumption))).2 ?_))
        all_goals try (simp only [aC.aN]; done)
        exact qA (P := fun e => kA p e f.aX k) hlt hall hn
     ·have hi' : i = f.aM.length := by omega
      subst hi'
      rw [List.take_length] at hsum hall
      simp -dsimp -implicitDefEqProofs only [go_sem, ↓reduceIte, Tryz.f195, ef, aP.aN, Nat.lt_irrefl]
      exact fun _ => (decide_eq_true ⟨by assumption, q1, q3, hp, by rw [iW]; omega, hall⟩).symm
  ·exact no fun z => by simp_all
 ·exact no fun z => by simp_all
@[go_sem] def aO3 : List Nat := [0, 2, 3, 9, 16, 22]
theorem a7Z (p : aC) (hps : p.s ≤ 4194304) : dV Tryz.prog 160 [.ip 1 [p.c] 0 0] (.bool (decide p.ok)) := by
 simp only [aC.aN]
 refine dS 23 aO3 bT bD mix Tryz.func160 rfl (by kernel_rfl) (by simp) fun h => ?_
 simp -dsimp -implicitDefEqProofs only [go_sem, ↓reduceIte, Tryz.f160]
 repeat' (with_reducible first | intro _ | refine And.intro ?_ ?_)
 ·exact (decide_eq_false fun z => by have := z.1; omega).symm
 refine bX (keep := aO3) (ib := bT) (mk := bD) mix (by kernel_rfl) (fun k : Nat => [(0, .ip 1 [p.c] 0 0), (3, I k)]) (fun _ => h) (fun k => k ≤ p.aJ.length ∧ ∀ (j : Nat) (f : aP), j < k → p.aJ[j]? = some f → vO p j f) (fun k => p.aJ.length - k) 0 (by refine ⟨by simp [b8, bJ, aC.aN], by repeat' (with_reducible first | exact aB.le_refl _ | refine (bF (by first | assumption | exact And.right (by assumption) | exact b9.2 (by assumption))).2 ?_), by simp⟩) ?_
 intro k ⟨hk, hp⟩
 simp only [aC.aN]
 rcases Nat.lt_or_ge k p.aJ.length with hlt | hge
 ·have eg : p.aJ[k]? = some p.aJ[k] := List.getElem?_eq_getElem (by omega)
  simp -dsimp -implicitDefEqProofs only [go_sem, ↓reduceIte, Tryz.f160]
  repeat' (with_reducible first | intro _ | refine And.intro ?_ ?_)
  all_goals try omega
  first | refine aE.mk ((aO2 p k p.aJ[k] eg hps).sub (by repeat' (first | exact fH.nil | refine fH.cons ?_ ?_ | exact Sub.refl _ | (rw [aA.aN]; exact Sub.refl _) | exact Sub.fI rfl rfl rfl | exact Sub.ip (bY (by omega)) (by simp) | exact Sub.fI (bY (by omega)) rfl rfl | exact Sub.ip (by simp [*]) (by simp) | exact Sub.fI (by simp [*]) (by rfl) (by rfl)))) ?_ | refine aG.mk ((aO2 p k p.aJ[k] eg hps).sub (by repeat' (first | exact fH.nil | refine fH.cons ?_ ?_ | exact Sub.refl _ | (rw [aA.aN]; exact Sub.refl _) | exact Sub.fI rfl rfl rfl | exact Sub.ip (bY (by omega)) (by simp) | exact Sub.fI (bY (by omega)) rfl rfl | exact Sub.ip (by simp [*]) (by simp) | exact Sub.fI (by simp [*]) (by rfl) (by rfl)))) ?_
  simp -dsimp -implicitDefEqProofs only [go_sem, ↓reduceIte, Tryz.f160]
  repeat' (with_reducible first | intro _ | refine And.intro ?_ ?_)
  ·rename_i hn
   exact (decide_eq_false fun z => hn (z.2 k _ eg)).symm
  ·rename_i hn
   refine ⟨k + 1, ?_⟩
   repeat' (with_reducible refine And.intro ?_ ?_)
   all_goals try (rw [IntWalk.i64_in _ (by omega)]; first | rfl | omega)
   all_goals try omega
   all_goals try (repeat' (with_reducible first | exact aB.le_refl _ | refine (bF (by first | assumption | exact And.right (by assumption) | exact b9.2 (by assumption))).2 ?_))
   all_goals try (simp only [aC.aN]; done)
   intro j f hj ej
   rcases Nat.lt_succ_iff_lt_or_eq.1 hj with h1 | rfl
   ·exact hp j f h1 ej
   ·rw [eg] at ej; obtain rfl := Option.some.inj ej; exact hn
 ·have hk' : k = p.aJ.length := by omega
  subst hk'
  simp -dsimp -implicitDefEqProofs only [go_sem, ↓reduceIte, Tryz.f160, Nat.lt_irrefl]
  exact fun _ => (decide_eq_true ⟨by omega, fun j f ej => hp j f (List.getElem?_eq_some_iff.1 ej).1 ej⟩).symm
theorem aMY (a : List aP) (p : aP → Bool) (g : FuncId) (cap : List aD) {h0 : aB} (hc : ∀ x ∈ a, a6 Tryz.prog g ([(.agg (aP.c x))] ++ cap) (.bool (p x)) h0) : a6 Tryz.prog 219 [(dB 3 aP.c a), .fn (.func g) [] cap] (I (idxOf p a)) h0 := by
 refine aJY 19 aOD bT bD mix Tryz.func219 rfl (by kernel_rfl) (by simp) fun h hle => ?_
 simp -dsimp -implicitDefEqProofs only [go_sem, ↓reduceIte, Tryz.f219, Tryz.f219]
 intro _
 refine bX (keep := aOD) (ib := bT) (mk := bD) mix (by kernel_rfl) (fun k : Nat => [(0, (dB 3 aP.c a)), (1, .fn (.func g) [] cap), (7, I a.length), (8, I k)]) (fun _ => h) (fun k => k ≤ a.length ∧ ∀ x ∈ a.take k, p x = false) (fun k => a.length - k) 0 (by simp [b8, bJ, aB.le_refl]) ?_
 intro k ⟨hk, hp⟩
 rcases Nat.lt_or_ge k a.length with hlt | hge
 ·have ea : a[k]? = some a[k] := List.getElem?_eq_getElem hlt
  simp -dsimp -implicitDefEqProofs only [go_sem, ↓reduceIte, Tryz.f219, Tryz.f219, ea, aP.aN]
  repeat' (with_reducible first | intro _ | refine And.intro ?_ ?_)
  all_goals try omega
  have hx := hc a[k] (List.getElem_mem hlt)
  simp only [aP.aN] at hx
  refine aG.a8 (hx.mono hle) ?_
  cases hpk : p a[k] with
  |true =>
   simp -dsimp -implicitDefEqProofs only [go_sem, ↓reduceIte, Tryz.f219, Tryz.f219]
   repeat' (with_reducible first | intro _ | refine And.intro ?_ ?_)
   all_goals first | exact (tN hlt hp hpk).symm | rfl | (rw [tN hlt hp hpk])
  |false =>
   simp -dsimp -implicitDefEqProofs only [go_sem, ↓reduceIte, Tryz.f219, Tryz.f219]
   refine ⟨k + 1, ?_⟩
   repeat' (with_reducible refine And.intro ?_ ?_)
   all_goals try (rw [IntWalk.i64_in _ (by omega)]; first | rfl | omega)
   all_goals try omega
   exact qA (P := fun x => p x = false) hlt hp hpk
 ·have hk' : k = a.length := by omega
  subst hk'
  rw [List.take_length] at hp
  simp -dsimp -implicitDefEqProofs only [go_sem, ↓reduceIte, Tryz.f219, Tryz.f219, Nat.lt_irrefl]
  all_goals first | exact (tM hp).symm | rw [tM hp]
theorem aMZ (a : List aP) (p : aP → Bool) (g : FuncId) (cap : List aD) {h0 : aB} (hc : ∀ x ∈ a, a6 Tryz.prog g ([(.agg (aP.c x))] ++ cap) (.bool (p x)) h0) : a6 Tryz.prog 199 [(dB 3 aP.c a), .fn (.func g) [] cap] (.bool (a.any p)) h0 := by
 refine aJY 9 aAI bT bD mix Tryz.func199 rfl (by kernel_rfl) (by simp) fun h hle => ?_
 simp -dsimp -implicitDefEqProofs only [go_sem, ↓reduceIte, Tryz.f199, Tryz.f199]
 refine aG.a8 ((aMY a p g cap hc).mono hle) ?_
 simp -dsimp -implicitDefEqProofs only [go_sem, ↓reduceIte, Tryz.f199, Tryz.f199]
 all_goals first | done | exact pI | rw [pI]
theorem aFE (g f : aP) (n : Nat) {h0 : aB} (hn : h0 n = some (.row 3 [f.c.map .v])) : a6 Tryz.prog 200 [.agg g.c, .op n 3 0 0] (.bool (decide (g.hJ = f.hJ))) h0 := by
 simp only [aP.aN]
 have hg (h : aB) (hle : h0.le h) := aB.a1X hle hn
 refine aJY 9 aMM aML bD mix Tryz.func200 rfl (by kernel_rfl) (by simp) fun h hle => ?_
 simp -dsimp -implicitDefEqProofs only [go_sem, ↓reduceIte, Tryz.f200]
 have hn' := hg h hle
 simp only [aP.aN] at hn'
 simp -dsimp -implicitDefEqProofs only [go_sem, ↓reduceIte, Tryz.f200, hn']
@[go_sem] def aHM : List Nat := [0, 1, 2, 3, 4, 5, 7, 11, 13, 14, 15, 16, 31, 42, 44, 45, 46, 47, 56, 63]
theorem aHN (p : aC) (hps : p.s ≤ 4194304) : dV Tryz.prog 172 [.agg p.c] (.bool (decide p.ok)) := by
 simp only [aC.aN]
 refine dS 65 aHM aAJ bD mix Tryz.func172 rfl (by kernel_rfl) (by simp) fun h => ?_
 simp -dsimp -implicitDefEqProofs only [go_sem, ↓reduceIte, Tryz.f172]
 repeat' (with_reducible first | intro _ | refine And.intro ?_ ?_)
 ·exact (decide_eq_false fun z => by have := z.1; omega).symm
 refine bX (keep := aHM) (ib := aAJ) (mk := bD) mix (by kernel_rfl) (fun k : Nat => [(1, .ip 1 [p.c] 0 0), (13, dB 3 aP.c p.aJ), (14, I p.aJ.length), (15, I k)]) (fun _ => h) (fun k => k ≤ p.aJ.length ∧ ∀ (j : Nat) (f : aP), j < k → p.aJ[j]? = some f → vO p j f) (fun k => p.aJ.length - k) 0 (by refine ⟨by simp [b8, bJ, aC.aN], by repeat' (with_reducible first | exact aB.le_refl _ | refine (bF (by first | assumption | exact And.right (by assumption) | exact b9.2 (by assumption))).2 ?_), by simp⟩) ?_
 intro k ⟨hk, hp⟩
 simp only [aC.aN]
 rcases Nat.lt_or_ge k p.aJ.length with hlt | hge
 ·obtain ⟨f, eg⟩ : ∃ f, p.aJ[k]? = some f := ⟨_, List.getElem?_eq_getElem hlt⟩
  have hfs := aC.aDV (List.mem_of_getElem? eg)
  have hos := f.aDW
  have no (q : ¬ vO p k f) : false = decide p.ok := (decide_eq_false fun z => q (z.2 k f eg)).symm
  simp -dsimp -implicitDefEqProofs only [go_sem, ↓reduceIte, Tryz.f172, eg, aP.aN, aK]
  repeat' (with_reducible first | intro _ | refine And.intro ?_ ?_)
  all_goals try omega
  rename_i n hn
  first | refine aG.mk (aHE f.hJ) ?_ | refine aE.mk (aHE f.hJ) ?_ | refine aG.a8 (aHE f.hJ) ?_ | refine aE.mk (a6.cK (aHE f.hJ)) ?_
  simp -dsimp -implicitDefEqProofs only [go_sem, ↓reduceIte, Tryz.f172, cB, aK]
  repeat' (with_reducible first | intro _ | refine And.intro ?_ ?_)
  all_goals try (repeat' (with_reducible first | exact aB.le_refl _ | refine (bF (by first | assumption | exact And.right (by assumption) | exact b9.2 (by assumption))).2 ?_))
  all_goals try omega
  all_goals try (rename_i hnm; exact no fun z => hnm z.1)
  rename_i hnm
  rw [← List.map_take]
  refine aG.a8 (aMZ (p.aJ.take k) (fun g => decide (g.hJ = f.hJ)) 200 [.op n 3 0 0] fun g _ => aFE g f n (by simp [cB, aP.aN])) ?_
  simp -dsimp -implicitDefEqProofs only [go_sem, ↓reduceIte, Tryz.f172, cB, aK]
  repeat' (with_reducible first | intro _ | refine And.intro ?_ ?_)
  all_goals try (repeat' (with_reducible first | exact aB.le_refl _ | refine (bF (by first | assumption | exact And.right (by assumption) | exact b9.2 (by assumption))).2 ?_))
  ·rename_i q
   refine no fun z => ?_
   obtain ⟨g, iY, hg2⟩ := List.any_eq_true.1 q
   exact z.2.2.2.1 g iY (by simpa using hg2)
  rename_i hnd
  have hnd' : ∀ g ∈ p.aJ.take k, g.hJ ≠ f.hJ := fun g hg => by
   have := List.any_eq_false.1 hnd g hg
   simpa using this
  first | refine aG.mk (within f.aX 0 12) ?_ | refine aE.mk (within f.aX 0 12) ?_ | refine aG.a8 (within f.aX 0 12) ?_ | refine aE.mk (a6.cK (within f.aX 0 12)) ?_
  simp -dsimp -implicitDefEqProofs only [go_sem, ↓reduceIte, Tryz.f172, cB, aK]
  repeat' (with_reducible first | intro _ | refine And.intro ?_ ?_)
  all_goals try (repeat' (with_reducible first | exact aB.le_refl _ | refine (bF (by first | assumption | exact And.right (by assumption) | exact b9.2 (by assumption))).2 ?_))
  ·first | refine aG.mk (within f.aM.length 1 12) ?_ | refine aE.mk (within f.aM.length 1 12) ?_ | refine aG.a8 (within f.aM.length 1 12) ?_ | refine aE.mk (a6.cK (within f.aM.length 1 12)) ?_
   simp -dsimp -implicitDefEqProofs only [go_sem, ↓reduceIte, Tryz.f172, cB, aK]
   repeat' (with_reducible first | intro _ | refine And.intro ?_ ?_)
   all_goals try (repeat' (with_reducible first | exact aB.le_refl _ | refine (bF (by first | assumption | exact And.right (by assumption) | exact b9.2 (by assumption))).2 ?_))
   ·rename_i q
    exact no fun z => q z.2.2.1
   ·rename_i q1 q2 q3 q4
    have part (i : Nat) (hi : i < f.aM.length) : i + ((f.aM.take i).map aA.s).sum + f.aM[i].s + 1 ≤ tH aA.s f.aM := by
     have h1 := gY aA.s f.aM i hi
     have h2 := mT aA.s f.aM (i + 1)
     rw [iW]; omega
    have hszs : tH aA.s f.aM ≤ f.s := by rw [f.n8]; omega
    refine bX (keep := aHM) (ib := aAJ) (mk := bD) mix (by kernel_rfl) (fun i : Nat => [(1, .ip 1 [p.c] 0 0), (3, I k), (4, .op n 3 0 0), (5, I ((i + ((f.aM.take i).map aA.s).sum : Nat) : Int)), (13, dB 3 aP.c p.aJ), (14, I p.aJ.length), (15, I k), (44, dB 5 aA.c f.aM), (45, I f.aM.length), (46, I i)]) (fun _ => a5 h n (.row 3 [f.c.map .v])) (fun i => i ≤ f.aM.length ∧ ∀ e ∈ f.aM.take i, kA p e f.aX k) (fun i => f.aM.length - i) 0 (by refine ⟨by simp [b8, bJ, aC.aN], by simp [aP.aN, aB.le_refl], by simp⟩) ?_
    intro i ⟨hi, hall⟩
    simp only [aC.aN, aP.aN, List.map_cons, List.map_nil]
    rcases Nat.lt_or_ge i f.aM.length with jO | aFF
    ·have h1 := gY aA.s f.aM i jO
     have hpt := part i jO
     have hout := aP.aZX (List.getElem_mem jO)
     have ee : f.aM[i]? = some f.aM[i] := List.getElem?_eq_getElem jO
     have hv := aQX p f.aM[i] f.aX k (by omega) (by omega)
     have hz := aDS f.aM[i] (by omega)
     simp only [aA.aN, aC.aN] at hv hz
     simp -dsimp -implicitDefEqProofs only [go_sem, ↓reduceIte, Tryz.f172, ee, aA.aN, aK]
     repeat' (with_reducible first | intro _ | refine And.intro ?_ ?_)
     all_goals try omega
     rename_i m hm
     have hmn : (n = m) = False := eq_false fun e => hm.1 e.symm
     have a16 : (m = n) = False := eq_false hm.1
     simp -dsimp -implicitDefEqProofs only [go_sem, ↓reduceIte, Tryz.f172, cB, hmn, a16]
     first | refine aG.mk (hv) ?_ | refine aE.mk (hv) ?_ | refine aG.a8 (hv) ?_ | refine aE.mk (a6.cK (hv)) ?_
     simp -dsimp -implicitDefEqProofs only [go_sem, ↓reduceIte, Tryz.f172, cB, hmn, a16]
     repeat' (with_reducible first | intro _ | refine And.intro ?_ ?_)
     ·rename_i hne
      exact no fun z => hne (z.2.2.2.2.2 _ (List.getElem_mem jO))
     ·all_goals try (repeat' (with_reducible first | exact aB.le_refl _ | refine (bF (by first | assumption | exact And.right (by assumption) | exact b9.2 (by assumption))).2 ?_))
     ·rename_i hne
      first | refine aG.mk (hz) ?_ | refine aE.mk (hz) ?_ | refine aG.a8 (hz) ?_ | refine aE.mk (a6.cK (hz)) ?_
      simp -dsimp -implicitDefEqProofs only [go_sem, ↓reduceIte, Tryz.f172, cB, hmn, a16]
      refine ⟨i + 1, ?_⟩
      repeat' (with_reducible refine And.intro ?_ ?_)
      all_goals try (rw [IntWalk.i64_in _ (by omega)]; first | rfl | omega)
      all_goals try omega
      all_goals try (repeat' (with_reducible first | exact aB.le_refl _ | refine (bF (by first | assumption | exact And.right (by assumption) | exact b9.2 (by assumption))).2 ?_))
      all_goals try (simp only [aC.aN]; done)
      exact qA (P := fun e => kA p e f.aX k) jO hall hne
    ·have hi' : i = f.aM.length := by omega
     subst hi'
     rw [List.take_length] at hall ⊢
     simp -dsimp -implicitDefEqProofs only [go_sem, ↓reduceIte, Tryz.f172, Nat.lt_irrefl]
     have hss : tH aA.s f.aM = f.aM.length + (f.aM.map aA.s).sum := iW _ _
     repeat' (with_reducible first | intro _ | refine And.intro ?_ ?_)
     all_goals try (repeat' (with_reducible first | exact aB.le_refl _ | refine (bF (by first | assumption | exact And.right (by assumption) | exact b9.2 (by assumption))).2 ?_))
     ·rename_i q
      exact no fun z => by have := z.2.2.2.2.1; omega
     ·rename_i q
      have hfk : vO p k f := ⟨hnm, q1, q3, hnd', by omega, hall⟩
      refine ⟨k + 1, ?_⟩
      repeat' (with_reducible refine And.intro ?_ ?_)
      all_goals try (rw [IntWalk.i64_in _ (by omega)]; first | rfl | omega)
      all_goals try omega
      all_goals try (repeat' (with_reducible first | exact aB.le_refl _ | refine (bF (by first | assumption | exact And.right (by assumption) | exact b9.2 (by assumption))).2 ?_))
      intro j f' hj ej
      rcases Nat.lt_succ_iff_lt_or_eq.1 hj with h1 | rfl
      ·exact hp j f' h1 ej
      ·rw [eg] at ej; obtain rfl := Option.some.inj ej; exact hfk
  ·rename_i q
   exact no fun z => q z.2.1
 ·have hk' : k = p.aJ.length := by omega
  subst hk'
  simp -dsimp -implicitDefEqProofs only [go_sem, ↓reduceIte, Tryz.f172, Nat.lt_irrefl]
  exact (decide_eq_true ⟨by omega, fun j f ej => hp j f (List.getElem?_eq_some_iff.1 ej).1 ej⟩).symm
@[go_sem] def a17 : List Nat := [0, 1, 2, 4, 5, 9]
theorem aS4 (p : aC) (f : Int) (hps : p.s ≤ 4194304) : dV Tryz.prog 99 [.agg p.c, I f] (I (if p.ok then if 0 ≤ f ∧ f ≤ (p.aJ.length : Int) - 1 then 0 else 2 else 1)) := by
 have hv := aHN p hps
 simp only [aC.aN] at hv ⊢
 refine dS 17 a17 aML bD mix Tryz.func99 rfl (by kernel_rfl) (by simp) fun h => ?_
 simp -dsimp -implicitDefEqProofs only [go_sem, ↓reduceIte, Tryz.f99]
 first | refine aG.mk (hv) ?_ | refine aE.mk (hv) ?_ | refine aG.a8 (hv) ?_ | refine aE.mk (a6.cK (hv)) ?_
 simp -dsimp -implicitDefEqProofs only [go_sem, ↓reduceIte, Tryz.f99]
 repeat' (with_reducible first | intro _ | refine And.intro ?_ ?_)
 ·rename_i hn
  rw [if_neg hn]
 ·rename_i hn _
  rw [if_pos hn]
  all_goals try simp (disch := omega) only [IntWalk.i64_in]
  first | refine aG.mk (within f 0 (p.aJ.length - 1)) ?_ | refine aE.mk (within f 0 (p.aJ.length - 1)) ?_ | refine aG.a8 (within f 0 (p.aJ.length - 1)) ?_ | refine aE.mk (a6.cK (within f 0 (p.aJ.length - 1))) ?_
  simp -dsimp -implicitDefEqProofs only [go_sem, ↓reduceIte, Tryz.f99]
  repeat' (with_reducible first | intro _ | refine And.intro ?_ ?_)
  ·rename_i q
   rw [if_neg q]
  ·rename_i q
   rw [if_pos q]
@[go_sem] def aWV : List Nat := [0, 2, 4]
theorem a18 (l : List Int) (hl : l.length ≤ 1048576) : rQ Tryz.prog 178 [dB 1 (fun n => [I n]) l] (QS (OS (oP I) 1 l)) := by
 refine qD 8 aWV aZJ bD mix Tryz.func178 rfl (by kernel_rfl) (by simp) fun h => ?_
 simp -dsimp -implicitDefEqProofs only [go_sem, ↓reduceIte, Tryz.f178]
 repeat' (with_reducible first | intro _ | refine And.intro ?_ ?_)
 all_goals try (first | exact aOS (by assumption) | exact aOT (by assumption) | exact rC (by assumption) | omega)
theorem aM0 (l : List Int) (hl : l.length ≤ 1048576) : rQ Tryz.prog 128 [dB 1 (fun n => [I n]) l] (QS (OS (oP I) 1 l)) := by
 refine qD 6 aAH aJ1 bD mix Tryz.func128 rfl (by kernel_rfl) (by simp) fun h => ?_
 simp -dsimp -implicitDefEqProofs only [go_sem, ↓reduceIte, Tryz.f128]
 repeat' (with_reducible first | intro _ | refine And.intro ?_ ?_)
 all_goals try (first | exact aOS (by assumption) | exact aOT (by assumption) | exact rC (by assumption) | omega)
theorem aZY (n : Int) : n.tmod 1000003 = n % 1000003 ∨ n.tmod 1000003 = n % 1000003 - 1000003 := by
 by_cases h : 0 ≤ n
 ·exact .inl (Int.tmod_eq_emod_of_nonneg h)
 ·have h1 : n.tmod 1000003 = -((-n) % 1000003) := by
   have h2 : n = -(-n) := by omega
   rw [h2, Int.neg_tmod, Int.tmod_eq_emod_of_nonneg (by omega), Int.neg_neg]
  rw [h1]; omega
theorem gC (n : Int) : dV Tryz.prog 181 [I n] (I (n % 1000003)) := by
 refine dS 7 aAH bT bD mix Tryz.func181 rfl (by kernel_rfl) (by simp) fun h => ?_
 simp -dsimp -implicitDefEqProofs only [go_sem, ↓reduceIte, Tryz.f181]
 rcases aZY n with h | h
 all_goals
  rw [h, IntWalk.i64_in _ (by omega), Int.tmod_eq_emod_of_nonneg (by omega)]
  omega
@[go_sem] def aWW : List Nat := [0, 2, 3, 7]
theorem b6 (n : Int) : dV Tryz.prog 122 [I n] (I (n % 1000003)) := by
 refine dS 11 aWW bT bD mix Tryz.func122 rfl (by kernel_rfl) (by simp) fun h => ?_
 simp -dsimp -implicitDefEqProofs only [go_sem, ↓reduceIte, Tryz.f122]
 rcases aZY n with h | h
 all_goals
  rw [h]
  refine ⟨fun q => ?_, fun q => ?_⟩
  all_goals first | omega | (rw [IntWalk.i64_in _ (by omega)]; omega)
theorem aHO (a b : Int) : dV Tryz.prog 180 [I a, I b] (I ((a + b) % 1000003)) := by
 refine dS 11 aAI bT bD mix Tryz.func180 rfl (by kernel_rfl) (by simp) fun h => ?_
 simp -dsimp -implicitDefEqProofs only [go_sem, ↓reduceIte, Tryz.f180]
 first | refine aG.mk (gC a) ?_ | refine aE.mk (gC a) ?_ | refine aG.a8 (gC a) ?_ | refine aE.mk (a6.cK (gC a)) ?_
 simp -dsimp -implicitDefEqProofs only [go_sem, ↓reduceIte, Tryz.f180]
 first | refine aG.mk (gC b) ?_ | refine aE.mk (gC b) ?_ | refine aG.a8 (gC b) ?_ | refine aE.mk (a6.cK (gC b)) ?_
 simp -dsimp -implicitDefEqProofs only [go_sem, ↓reduceIte, Tryz.f180]
 rw [IntWalk.i64_in _ (by omega), Int.tmod_eq_emod_of_nonneg (by omega)]
 omega
theorem fZ (a b : Int) : dV Tryz.prog 105 [I a, I b] (I ((a + b) % 1000003)) := by
 refine dS 11 aAI bT bD mix Tryz.func105 rfl (by kernel_rfl) (by simp) fun h => ?_
 simp -dsimp -implicitDefEqProofs only [go_sem, ↓reduceIte, Tryz.f105]
 first | refine aG.mk (b6 a) ?_ | refine aE.mk (b6 a) ?_ | refine aG.a8 (b6 a) ?_ | refine aE.mk (a6.cK (b6 a)) ?_
 simp -dsimp -implicitDefEqProofs only [go_sem, ↓reduceIte, Tryz.f105]
 first | refine aG.mk (b6 b) ?_ | refine aE.mk (b6 b) ?_ | refine aG.a8 (b6 b) ?_ | refine aE.mk (a6.cK (b6 b)) ?_
 simp -dsimp -implicitDefEqProofs only [go_sem, ↓reduceIte, Tryz.f105]
 rw [IntWalk.i64_in _ (by omega), Int.tmod_eq_emod_of_nonneg (by omega)]
 omega
def iC (a b : List Int) : List Int := List.zipWith (fun x y => (x + y) % 1000003) a b
theorem aKO {a b : List Int} (h : b.length = a.length) : (iC a b).length = a.length := by simp [iC, h]
@[go_sem] def a70 : Marks := fun id => match id with | 5 => ([13], (.op 0 (.op 1 (.op 2 (.op 3 (.op 4 (.op 5 (.op 6 (.op 7 (.op 8 (.op 9 (.op 10 (.op 11 (.op 12 (.op 13 .nil)))))))))))))), []) | _ => ([], .nil, [])
theorem added (a b : List Int) (hab : b.length = a.length) (hl : a.length ≤ 1048576) (ha : ∀ x ∈ a, 0 ≤ x ∧ x < 1000003) (hb : ∀ x ∈ b, 0 ≤ x ∧ x < 1000003) : rQ Tryz.prog 60 [dB 1 (fun n => [I n]) a, dB 1 (fun n => [I n]) b] (QS (OS (oP I) 1 (iC a b))) := by
 refine qD 30 aOF bT a70 mix Tryz.func60 rfl (by kernel_rfl) (by simp) fun h => ?_
 simp -dsimp -implicitDefEqProofs only [go_sem, ↓reduceIte, Tryz.f60]
 intro _
 refine ⟨Nat.zero_lt_one, Nat.le_refl _, by omega, by omega, fun n hn _ => ?_⟩
 have hc := aKO hab
 rw [rD]
 refine tP (keep := aOF) (ib := bT) (mk := a70) mix (by kernel_rfl) (fun k : Nat => [(0, dB 1 (fun n => [I n]) a), (1, dB 1 (fun n => [I n]) b), (5, .os n 1 0 a.length), (11, I a.length), (12, I k)]) n (fun k => .row 1 (((wE (iC a b) k).map fun n => [I n]).map (List.map .v))) (fun k => k ≤ a.length) (fun k => a.length - k) 0 ⟨by simp [b8, bJ], by rw [aH, vN, hc], Nat.zero_le _⟩ ?_
 intro k hk
 rcases Nat.lt_or_ge k a.length with hlt | hge
 ·have ea : a[k]? = some a[k] := List.getElem?_eq_getElem hlt
  have eb : b[k]? = some b[k] := List.getElem?_eq_getElem (by omega)
  have eu := yU (c := iC a b) (k := k) (by omega)
  have el := yT (iC a b) (k := k) (by omega)
  simp -dsimp -implicitDefEqProofs only [go_sem, ↓reduceIte, Tryz.f60, aK, hlt, ea, eb, eu, el, hc]
  have h1 := ha _ (List.getElem_mem hlt)
  have h2 := hb b[k] (List.getElem_mem (by omega))
  refine ⟨by omega, k + 1, by rw [IntWalk.i64_in _ (by omega)]; rfl, ?_, by omega, by omega⟩
  have hv : (iC a b)[k]'(by omega) = (a[k] + b[k]) % 1000003 := by simp [iC]
  rw [IntWalk.i64_in _ (by omega), Int.tmod_eq_emod_of_nonneg (by omega), ← wF (by omega), hv, ← pC I]
  exact aB.le_refl _
 ·have hk' : k = a.length := by omega
  subst hk'
  simp -dsimp -implicitDefEqProofs only [go_sem, ↓reduceIte, Tryz.f60, aK, Nat.lt_irrefl]
  have hu : wE (iC a b) a.length = iC a b := by rw [← hc]; exact yS _
  rw [hu, show a.length = (iC a b).length from hc.symm]
  exact rC hn
def bC (n : Nat) (s : List Int) : Prop := s.length = n ∧ dP s
def iP (a : List Int) (n : Int) : List Int := a.map fun x => x * n % 1000003
def y3 (a b : List Int) : List Int := iC a (iP b 1000002)
def tS (a b : List Int) (k : Nat) : Nat → Int
 |0 => 0
 |i + 1 => (tS a b k i + a.getD i 0 * b.getD (k - i) 0) % 1000003
def mulL (a b : List Int) : List Int := (List.range a.length).map fun k => tS a b k (k + 1)
def pwN (b : Int) (n : Nat) : Int := b ^ n % 1000003
def iQ (x : Int) : Int := pwN (x % 1000003) 1000001
def y5 (o b : List Int) (k : Nat) (r : Int) : Nat → Int
 |0 => r
 |i + 1 => (y5 o b k r i - o.getD i 0 * b.getD (k - i) 0) % 1000003
def iD (a b : List Int) : Nat → List Int
 |0 => []
 |k + 1 => iD a b k ++ [y5 (iD a b k) b k (a.getD k 0) k * iQ (b.getD 0 0) % 1000003]
def iK (a b : List Int) : List Int := iD a b a.length
def cF (n : Int) (sz : Nat) : List Int := (List.replicate sz 0).set 0 n
def dE : aA := .mk 0 0 0 0 []
def aA.kU (e : aA) (i : Nat) : aA := e.aI.getD i dE
def aC.outs (p : aC) (f : Int) : List aA := ((p.aJ[f.toNat]?).map (·.aM)).getD []
def aC.out (p : aC) (f i : Int) : aA := (p.outs f).getD i.toNat dE
abbrev Out (α : Type) := Except Int (α × Nat)
def Out.andThen {α β : Type} (x : Out α) (f : α → Nat → Out β) : Out β := match x with
 | .ok (a, t) => f a t
 | .error c => .error c
def kB (ev : Nat → aA → Out (List Int)) : List aA → Nat → Out (List (List Int))
 | [], t => .ok ([], t)
 |e :: l, t => (ev t e).andThen fun v t => (kB ev l t).andThen fun vs t => .ok (v :: vs, t)
def nF (f : List (List Int) → Nat → Out (List (List Int))) : Nat → List (List Int) → Nat → Out (List (List Int))
 |0, vs, t => .ok (vs, t)
 |n + 1, vs, t => (f vs t).andThen fun vs t => nF f n vs t
def opE (k : Int) (vs : List (List Int)) (t : Nat) : Out (List Int) :=
 if k = 3 then .ok (iC (vs.getD 0 []) (vs.getD 1 []), t)
 else if k = 4 then .ok (y3 (vs.getD 0 []) (vs.getD 1 []), t)
 else if k = 5 then .ok (mulL (vs.getD 0 []) (vs.getD 1 []), t)
 else if k = 7 then .ok (iP (vs.getD 0 []) 1000002, t)
 else if (vs.getD 1 []).getD 0 0 = 0 then .error 6
 else .ok (iK (vs.getD 0 []) (vs.getD 1 []), t)
def gR (p : aC) (sz : Nat) : Nat → Nat → aA → List (List Int) → Out (List Int)
 |0, _, _, _ => .error 7
 |n + 1, t, e, env =>
  if t = 3000 then .error 7
  else if e.aQ = 1 then .ok (cF e.aW sz, t + 1)
  else if e.aQ = 2 then .ok (env.getD e.aW.toNat [], t + 1)
  else if e.aQ = 8 then (gR p sz n (t + 1) (e.kU 0) env).andThen fun c t => if c.getD 0 0 = 0 then gR p sz n t (e.kU 1) env else gR p sz n t (e.kU 2) env
  else if e.aQ = 9 then (gR p sz n (t + 1) (e.kU 0) env).andThen fun v t => gR p sz n t (e.kU 1) (env ++ [v])
  else (kB (fun t e => gR p sz n t e env) e.aI (t + 1)).andThen fun vs t =>
   if e.aQ = 10 then gR p sz n t (p.out e.aW e.b7) vs
   else if e.aQ = 11 then (nF (fun vs t => kB (fun t e => gR p sz n t e vs) (p.outs e.aW) t) e.bV.toNat vs t).andThen fun vs t => .ok (vs.getD e.b7.toNat [], t)
   else opE e.aQ vs t
def gT {α : Type} (X : Out α) (v : α) (t : Nat) (c : Int) : Prop := match X with
 | .ok (w, u) => c = 0 ∧ v = w ∧ t = u
 | .error d => c = d ∧ d ≠ 0
def lY {α : Type} (c : Int) (X : Out α) : Out α := if c = 0 then X else .error c
theorem cA {α : Type} (X : Out α) : lY 0 X = X := if_pos rfl
theorem gD {α : Type} {c : Int} (X : Out α) (h : ¬ c = 0) : lY c X = .error c := if_neg h
theorem dN {α : Type} {c : Int} (v : α) (t : Nat) (h : ¬ c = 0) : gT (.error c : Out α) v t c := ⟨rfl, h⟩
theorem jP {α : Type} (v : α) (t : Nat) : gT (.ok (v, t) : Out α) v t 0 := ⟨rfl, rfl, rfl⟩
theorem fL {α : Type} (v : α) (t : Nat) (c : Int) : gT (lY c (.ok (v, t))) v t c := by
 by_cases e : c = 0
 ·subst e; rw [cA]; exact jP v t
 ·rw [gD _ e]; exact dN v t e
theorem gT.then {α β : Type} {X : Out α} {F : α → Nat → Out β} {v : α} {t : Nat} {c : Int} {v2 : β} {t2 : Nat} {c2 : Int} (h : gT X v t c) (h2 : gT (lY c (F v t)) v2 t2 c2) : gT (X.andThen F) v2 t2 c2 := by
 cases X with
 |ok p =>
  obtain ⟨w, u⟩ := p
  obtain ⟨rfl, rfl, rfl⟩ := h
  rw [cA] at h2
  exact h2
 |error d =>
  obtain ⟨rfl, h⟩ := h
  rw [gD _ h] at h2
  exact h2
theorem gT.err {α : Type} {X : Out α} {v : α} {t : Nat} {c : Int} (h : gT X v t c) (hc : ¬ c = 0) : X = .error c := by
 cases X with
 |ok p => exact absurd h.1 hc
 |error d => rw [h.1]
theorem gT.cQ {α β : Type} {c0 : Int} {X : Out α} {F : α → Nat → Out β} {v : α} {t : Nat} {c : Int} {v2 : β} {t2 : Nat} {c2 : Int} (h : gT (lY c0 X) v t c) (h2 : gT (lY c (F v t)) v2 t2 c2) : gT (lY c0 (X.andThen F)) v2 t2 c2 := by
 by_cases e : c0 = 0
 ·subst e
  rw [cA] at h ⊢
  exact h.then h2
 ·rw [gD _ e] at h ⊢
  obtain ⟨rfl, h⟩ := h
  rw [gD _ h] at h2
  exact h2
theorem gT.a72 {α : Type} {c0 : Int} {X : Out α} {v : α} {t : Nat} {c : Int} (h : gT (lY c0 X) v t c) (hc : c = 0) : c0 = 0 := by
 by_cases e : c0 = 0
 ·exact e
 ·rw [gD _ e] at h
  exact h.1.symm.trans hc
theorem Out.jW {α β γ : Type} (x : Out α) (f : α → Nat → Out β) (g : β → Nat → Out γ) : (x.andThen f).andThen g = x.andThen fun a t => (f a t).andThen g := by
 cases x <;> rfl
theorem Out.andThen_ok {α β : Type} (a : α) (t : Nat) (f : α → Nat → Out β) : Out.andThen (.ok (a, t)) f = f a t := rfl
theorem sH (ev : Nat → aA → Out (List Int)) (e : aA) : ∀ (l : List aA) (t : Nat), kB ev (l ++ [e]) t = (kB ev l t).andThen fun vs t => (ev t e).andThen fun v t => .ok (vs ++ [v], t)
 | [], t => rfl
 |x :: l, t => by
  simp only [List.cons_append, kB, sH ev e l, Out.jW, Out.andThen_ok]
theorem tT (f : List (List Int) → Nat → Out (List (List Int))) : ∀ (n : Nat) (vs : List (List Int)) (t : Nat), nF f (n + 1) vs t = (nF f n vs t).andThen f
 |0, vs, t => by
  show (f vs t).andThen (fun vs t => .ok (vs, t)) = f vs t
  cases f vs t with
  |ok p => rfl
  |error c => rfl
 |n + 1, vs, t => by
  show (f vs t).andThen (fun vs t => nF f (n + 1) vs t) = ((f vs t).andThen fun vs t => nF f n vs t).andThen f
  rw [Out.jW]
  congr 1
  funext a t
  exact tT f n a t
theorem aF3 {f : List (List Int) → Nat → Out (List (List Int))} {vs : List (List Int)} {t : Nat} {c : Int} : ∀ (n k : Nat), k ≤ n → nF f k vs t = .error c → nF f n vs t = .error c
 |0, k, hk, h => by
  have : k = 0 := by omega
  subst this; exact h
 |n + 1, k, hk, h => by
  rcases Nat.lt_or_ge k (n + 1) with hlt | hge
  ·rw [tT, aF3 n k (by omega) h]; rfl
  ·have : k = n + 1 := by omega
   subst this; exact h
theorem j4 (n : Int) : iI (n % 1000003) := by unfold iI; omega
theorem bC.len {n : Nat} {s : List Int} (h : bC n s) : s.length = n := h.1
theorem lP {n : Nat} {a b : List Int} (ha : bC n a) (hb : bC n b) : bC n (iC a b) := by
 refine ⟨by simp [iC, ha.1, hb.1], fun x hx => ?_⟩
 obtain ⟨i, hi, rfl⟩ := List.mem_iff_getElem.1 hx
 simp only [iC, List.getElem_zipWith]
 exact j4 _
theorem eQ {n : Nat} {a : List Int} (k : Int) (ha : bC n a) : bC n (iP a k) := by
 refine ⟨by simp [iP, ha.1], fun x hx => ?_⟩
 obtain ⟨y, _, rfl⟩ := List.mem_map.1 hx
 exact j4 _
theorem oD {n : Nat} {a b : List Int} (ha : bC n a) (hb : bC n b) : bC n (y3 a b) := lP ha (eQ _ hb)
theorem aS5 (a b : List Int) (k : Nat) : ∀ i, iI (tS a b k i)
 |0 => by unfold tS iI; omega
 |i + 1 => j4 _
theorem cW {n : Nat} {a : List Int} (b : List Int) (ha : bC n a) : bC n (mulL a b) := by
 refine ⟨by simp [mulL, ha.1], fun x hx => ?_⟩
 obtain ⟨k, _, rfl⟩ := List.mem_map.1 hx
 exact aS5 _ _ _ _
theorem mA (a b : List Int) : ∀ k, (iD a b k).length = k
 |0 => rfl
 |k + 1 => by rw [iD, List.length_append, mA a b k]; rfl
theorem qF (a b : List Int) : ∀ k, dP (iD a b k)
 |0 => fun x hx => by cases hx
 |k + 1 => fun x hx => by
  rw [iD, List.mem_append, List.mem_singleton] at hx
  rcases hx with hx | rfl
  ·exact qF a b k x hx
  ·exact j4 _
theorem mX {n : Nat} {a : List Int} (b : List Int) (ha : bC n a) : bC n (iK a b) := ⟨by rw [iK, mA, ha.1], qF _ _ _⟩
theorem dF {n : Int} {sz : Nat} (h : iI n) : bC sz (cF n sz) := by
 refine ⟨by simp [cF], fun x hx => ?_⟩
 rw [cF] at hx
 rcases List.mem_or_eq_of_mem_set hx with hx | rfl
 ·have := (List.mem_replicate.1 hx).2
  subst this; unfold iI; omega
 ·exact h
theorem dP.get {l : List Int} (h : dP l) (i : Nat) : iI (l.getD i 0) := by
 rw [List.getD_eq_getElem?_getD]
 rcases Nat.lt_or_ge i l.length with hi | hi
 ·rw [List.getElem?_eq_getElem hi]; exact h _ (List.getElem_mem hi)
 ·rw [List.getElem?_eq_none hi]; unfold iI; simp
def hR (s s' : List Int) : Prop := (s = [] ∧ s' = []) ∨ ∃ x a b, s = x :: a ∧ s' = x :: b
theorem a19 : hR [] [] := .inl ⟨rfl, rfl⟩
theorem hR.hd {s s' : List Int} (h : hR s s') : s.getD 0 0 = s'.getD 0 0 := by
 rcases h with ⟨rfl, rfl⟩ | ⟨x, a, b, rfl, rfl⟩ <;> rfl
theorem aS6 {a a' b b' : List Int} (ha : hR a a') (hb : hR b b') : hR (iC a b) (iC a' b') := by
 rcases ha with ⟨rfl, rfl⟩ | ⟨x, a, a', rfl, rfl⟩
 ·exact .inl ⟨rfl, rfl⟩
 ·rcases hb with ⟨rfl, rfl⟩ | ⟨y, b, b', rfl, rfl⟩
  ·exact .inl ⟨rfl, rfl⟩
  ·exact .inr ⟨_, _, _, rfl, rfl⟩
theorem aS7 {a a' : List Int} (n : Int) (ha : hR a a') : hR (iP a n) (iP a' n) := by
 rcases ha with ⟨rfl, rfl⟩ | ⟨x, a, a', rfl, rfl⟩
 ·exact .inl ⟨rfl, rfl⟩
 ·exact .inr ⟨_, _, _, rfl, rfl⟩
theorem a2A {a a' b b' : List Int} (ha : hR a a') (hb : hR b b') : hR (y3 a b) (y3 a' b') := aS6 ha (aS7 _ hb)
theorem aAL (x : Int) (a b : List Int) : ∃ t, mulL (x :: a) b = (x * b.getD 0 0) % 1000003 :: t := by
 refine ⟨((List.range a.length).map Nat.succ).map fun k => tS (x :: a) b k (k + 1), ?_⟩
 rw [mulL, List.length_cons, List.range_succ_eq_map, List.map_cons]
 congr 1
 simp [tS]
theorem a2B {a a' b b' : List Int} (ha : hR a a') (hb : hR b b') : hR (mulL a b) (mulL a' b') := by
 rcases ha with ⟨rfl, rfl⟩ | ⟨x, a, a', rfl, rfl⟩
 ·exact .inl ⟨rfl, rfl⟩
 ·obtain ⟨t, h⟩ := aAL x a b
  obtain ⟨t', h'⟩ := aAL x a' b'
  rw [h, h', hb.hd]
  exact .inr ⟨_, _, _, rfl, rfl⟩
theorem wG (x : Int) (a b : List Int) : ∀ k, ∃ t, iD (x :: a) b (k + 1) = x * iQ (b.getD 0 0) % 1000003 :: t
 |0 => ⟨[], rfl⟩
 |k + 1 => by
  obtain ⟨t, h⟩ := wG x a b k
  rw [iD, h]
  exact ⟨_, rfl⟩
theorem a2C {a a' b b' : List Int} (ha : hR a a') (hb : hR b b') : hR (iK a b) (iK a' b') := by
 rcases ha with ⟨rfl, rfl⟩ | ⟨x, a, a', rfl, rfl⟩
 ·exact .inl ⟨rfl, rfl⟩
 ·obtain ⟨t, h⟩ := wG x a b a.length
  obtain ⟨t', h'⟩ := wG x a' b' a'.length
  rw [iK, iK, List.length_cons, List.length_cons, h, h', hb.hd]
  exact .inr ⟨_, _, _, rfl, rfl⟩
theorem aS8 (n : Int) (sz sz' : Nat) : hR (cF n (sz + 1)) (cF n (sz' + 1)) := by
 rw [cF, cF, List.replicate_succ, List.replicate_succ]
 exact .inr ⟨_, _, _, rfl, rfl⟩
def eR : List (List Int) → List (List Int) → Prop
 | [], [] => True
 |s :: l, s' :: l' => hR s s' ∧ eR l l'
 | _, _ => False
theorem eR.get : ∀ {l l' : List (List Int)}, eR l l' → ∀ i, hR (l.getD i []) (l'.getD i [])
 | [], [], _, i => by simp [a19]
 |s :: l, s' :: l', h, 0 => h.1
 |s :: l, s' :: l', h, i + 1 => by simpa using eR.get h.2 i
 | [], _ :: _, h, _ => h.elim
 | _ :: _, [], h, _ => h.elim
theorem eR.len : ∀ {l l' : List (List Int)}, eR l l' → l.length = l'.length
 | [], [], _ => rfl
 |s :: l, s' :: l', h => by simp [eR.len h.2]
 | [], _ :: _, h => h.elim
 | _ :: _, [], h => h.elim
theorem eR.snoc {s s' : List Int} (h : hR s s') : ∀ {l l' : List (List Int)}, eR l l' → eR (l ++ [s]) (l' ++ [s'])
 | [], [], _ => ⟨h, trivial⟩
 |x :: l, x' :: l', k => ⟨k.1, eR.snoc h k.2⟩
 | [], _ :: _, k => k.elim
 | _ :: _, [], k => k.elim
def oR {α : Type} (R : α → α → Prop) (X Y : Out α) : Prop := match X, Y with
 | .ok (v, t), .ok (v', t') => R v v' ∧ t = t'
 | .error c, .error c' => c = c'
 | _, _ => False
theorem oR.bind {α β : Type} {R : α → α → Prop} {S : β → β → Prop} {X Y : Out α} {F G : α → Nat → Out β} (h : oR R X Y) (hf : ∀ v v' t, R v v' → oR S (F v t) (G v' t)) : oR S (X.andThen F) (Y.andThen G) := by
 cases X with
 |ok p =>
  cases Y with
  |ok q =>
   obtain ⟨v, t⟩ := p
   obtain ⟨v', t'⟩ := q
   obtain ⟨h1, rfl⟩ := h
   exact hf _ _ _ h1
  |error c => exact h.elim
 |error c =>
  cases Y with
  |ok q => exact h.elim
  |error d => exact h
theorem oR.pure {α : Type} {R : α → α → Prop} {v v' : α} {t : Nat} (h : R v v') : oR R (.ok (v, t)) (.ok (v', t)) := ⟨h, rfl⟩
theorem wH {ev ev' : Nat → aA → Out (List Int)} (h : ∀ t e, oR hR (ev t e) (ev' t e)) : ∀ (l : List aA) (t : Nat), oR eR (kB ev l t) (kB ev' l t)
 | [], t => ⟨trivial, rfl⟩
 |e :: l, t => (h t e).bind fun v v' t hv => (wH h l t).bind fun vs vs' t hvs => oR.pure ⟨hv, hvs⟩
theorem aDZ {f g : List (List Int) → Nat → Out (List (List Int))} (h : ∀ vs vs' t, eR vs vs' → oR eR (f vs t) (g vs' t)) : ∀ (n : Nat) (vs vs' : List (List Int)) (t : Nat), eR vs vs' → oR eR (nF f n vs t) (nF g n vs' t)
 |0, vs, vs', t, hv => ⟨hv, rfl⟩
 |n + 1, vs, vs', t, hv => (h vs vs' t hv).bind fun a a' t ha => aDZ h n a a' t ha
theorem aS9 (k : Int) {vs vs' : List (List Int)} (t : Nat) (h : eR vs vs') : oR hR (opE k vs t) (opE k vs' t) := by
 have h0 := h.get 0
 have h1 := h.get 1
 unfold opE
 split
 ·exact oR.pure (aS6 h0 h1)
 split
 ·exact oR.pure (a2A h0 h1)
 split
 ·exact oR.pure (a2B h0 h1)
 split
 ·exact oR.pure (aS7 _ h0)
 rw [h1.hd]
 split
 ·exact rfl
 ·exact oR.pure (a2C h0 h1)
theorem aKP (p : aC) (sz sz' : Nat) : ∀ (n t : Nat) (e : aA) (env env' : List (List Int)), eR env env' → oR hR (gR p (sz + 1) n t e env) (gR p (sz' + 1) n t e env')
 |0, t, e, env, env', h => rfl
 |n + 1, t, e, env, env', h => by
  have ih := aKP p sz sz' n
  rw [gR, gR]
  split
  ·exact rfl
  split
  ·exact oR.pure (aS8 _ _ _)
  split
  ·exact oR.pure (h.get _)
  split
  ·refine (ih _ _ _ _ h).bind fun c c' t hc => ?_
   rw [hc.hd]
   split
   ·exact ih _ _ _ _ h
   ·exact ih _ _ _ _ h
  split
  ·exact (ih _ _ _ _ h).bind fun v v' t hv => ih _ _ _ _ (eR.snoc hv h)
  refine (wH (fun t e => ih t e _ _ h) _ _).bind fun vs vs' t hv => ?_
  split
  ·exact ih _ _ _ _ hv
  split
  ·refine (aDZ (f := fun vs t => kB (fun t e => gR p (sz + 1) n t e vs) (p.outs e.aW) t) (g := fun vs t => kB (fun t e => gR p (sz' + 1) n t e vs) (p.outs e.aW) t) (fun a a' u ha => wH (fun u x => ih u x a a' ha) (p.outs e.aW) u) e.bV.toNat vs vs' t hv).bind fun a a' u ha => ?_
   exact oR.pure (ha.get _)
  ·exact aS9 _ _ hv
def xU (p : aC) (sz : Nat) (f : Int) (args : List (List Int)) : Out (List (List Int)) := kB (fun t e => gR p sz 3001 t e args) (p.outs f) 0
theorem aTA (p : aC) (sz sz' : Nat) (f : Int) (args args' : List (List Int)) (h : eR args args') : oR eR (xU p (sz + 1) f args) (xU p (sz' + 1) f args') :=
 wH (fun t e => aKP p sz sz' _ t e _ _ h) _ _
theorem aTB (b : Int) : ∀ n : Nat, (b % 1000003) ^ n % 1000003 = b ^ n % 1000003
 |0 => by rw [Int.pow_zero, Int.pow_zero]
 |n + 1 => by
  rw [Int.pow_succ, Int.pow_succ, Int.mul_emod, aTB b n, Int.emod_emod_of_dvd _ (Int.dvd_refl _), ← Int.mul_emod]
theorem aO4 (x b : Int) (n : Nat) : x * b ^ n % 1000003 = (if n % 2 = 1 then x * b % 1000003 else x) * (b * b % 1000003) ^ (n / 2) % 1000003 := by
 have h2 : b ^ n = (b * b) ^ (n / 2) * b ^ (n % 2) := by
  rw [show b * b = b ^ 2 by rw [Int.pow_succ, Int.pow_succ, Int.pow_zero, Int.one_mul], ← Int.pow_mul, ← Int.pow_add]
  congr 1; omega
 have h3 : ∀ y : Int, y * (b * b % 1000003) ^ (n / 2) % 1000003 = y * (b * b) ^ (n / 2) % 1000003 := fun y => by
  rw [Int.mul_emod, aTB, ← Int.mul_emod]
 rw [h3, h2]
 split
 ·rename_i h
  rw [h, Int.pow_succ, Int.pow_zero, Int.one_mul, Int.mul_emod (x * b % 1000003), Int.emod_emod_of_dvd _ (Int.dvd_refl _), ← Int.mul_emod]
  congr 1
  rw [Int.mul_comm ((b * b) ^ (n / 2)) b, Int.mul_assoc]
 ·rename_i h
  have : n % 2 = 0 := by omega
  rw [this, Int.pow_zero, Int.mul_one]
theorem aO5 (x b : Int) (hx : 0 ≤ x ∧ x < 1000003) : x * b ^ 0 % 1000003 = x := by
 rw [Int.pow_zero, Int.mul_one]; omega
theorem aTC {x b m T : Int} (hm : 0 ≤ m) (h : m % 2 = 1) (hp : x * b ^ m.toNat % 1000003 = T) : (x * b % 1000003) * (b * b % 1000003) ^ (m / 2).toNat % 1000003 = T := by
 rw [← hp, aO4 x b m.toNat, if_pos (by omega), show (m / 2).toNat = m.toNat / 2 by omega]
theorem aO6 {x b m T : Int} (hm : 0 ≤ m) (h : ¬ m % 2 = 1) (hp : x * b ^ m.toNat % 1000003 = T) : x * (b * b % 1000003) ^ (m / 2).toNat % 1000003 = T := by
 rw [← hp, aO4 x b m.toNat, if_neg (by omega), show (m / 2).toNat = m.toNat / 2 by omega]
theorem aKQ (y : Int) : 0 ≤ y % 1000003 ∧ y % 1000003 < 1000003 := by omega
theorem bR {l : List Int} {i : Nat} (h : i < l.length) : l[i]? = some (l.getD i 0) := by
 rw [List.getD_eq_getElem?_getD, List.getElem?_eq_getElem h]; rfl
theorem num_inv (x : Int) : iI (iQ x) := j4 _
theorem tU (o b : List Int) (k : Nat) {r : Int} (hr : iI r) : ∀ i, iI (y5 o b k r i)
 |0 => hr
 |i + 1 => j4 _
theorem pY (a b : List Int) {k : Nat} : ∀ n, k ≤ n → (iD a b n).take k = iD a b k
 |0, h => by
  have : k = 0 := by omega
  subst this; rfl
 |n + 1, h => by
  rcases Nat.lt_or_ge k (n + 1) with h1 | h1
  ·rw [iD, List.take_append_of_le_length (by rw [mA]; omega), pY a b n (by omega)]
  ·have : k = n + 1 := by omega
   subst this
   rw [List.take_of_length_le (by rw [mA]; omega)]
theorem nG (a b : List Int) : (iK a b).length = a.length := mA _ _ _
theorem aWX (a b : List Int) {k : Nat} (hk : k ≤ a.length) : wE (iK a b) k = iD a b k ++ List.replicate (a.length - k) 0 := by
 rw [wE, nG, iK, pY a b _ hk]
theorem aBH {a b : List Int} {k i : Nat} (hk : k ≤ a.length) (hi : i < k) : (wE (iK a b) k)[i]? = some ((iD a b k).getD i 0) := by
 rw [aWX a b hk, List.getElem?_append_left (by rw [mA]; exact hi)]
 exact bR (by rw [mA]; exact hi)
theorem aD0 {a b : List Int} {k : Nat} (hk : k < a.length) : (iK a b)[k]'(by rw [nG]; exact hk) = y5 (iD a b k) b k (a.getD k 0) k * iQ (b.getD 0 0) % 1000003 := by
 have h := aBH (a := a) (b := b) (k := k + 1) (i := k) (by omega) (by omega)
 have h2 : (iD a b (k + 1)).getD k 0 = y5 (iD a b k) b k (a.getD k 0) k * iQ (b.getD 0 0) % 1000003 := by
  rw [iD, List.getD_eq_getElem?_getD, List.getElem?_append_right (by rw [mA]; omega), mA, Nat.sub_self]; rfl
 rw [h2, wE, List.getElem?_append_left (by rw [List.length_take, nG]; omega), List.getElem?_take_of_lt (by omega), List.getElem?_eq_getElem (by rw [nG]; exact hk)] at h
 exact Option.some.inj h
theorem num_mul {x y : Int} (hx : iI x) (hy : iI y) : 0 ≤ x * y ∧ x * y ≤ 1000004000004 := by
 refine ⟨Int.mul_nonneg hx.1 hy.1, ?_⟩
 have := Int.mul_le_mul hx.2 hy.2 hy.1 (by omega)
 omega
theorem nH (a : List Int) (n : Int) : (iP a n).length = a.length := by simp [iP]
theorem y6 (a b : List Int) : (mulL a b).length = a.length := by simp [mulL]
theorem oK {l : List Int} (h : dP l) : ∀ x ∈ l, 0 ≤ x ∧ x < 1000003 := fun x hx => by have := h x hx; unfold iI at this; omega
theorem aKR {n : Int} (h0 : 0 ≤ n) (h1 : n ≤ 9223372036854775807) : (IntKind.i64.wrap n).tmod 1000003 = n % 1000003 := by
 rw [IntWalk.i64_in _ (by omega), Int.tmod_eq_emod_of_nonneg h0]
theorem aTD {c : List Int} {k : Nat} (hk : k < c.length) : (wE c k).set k 0 = wE c k := by
 have h := yU hk
 apply List.ext_getElem?
 intro i
 rw [List.getElem?_set]
 split
 ·subst_vars
  split
  ·exact h.symm
  ·rename_i h2
   rw [List.getElem?_eq_none (by omega)]
 ·rfl
theorem aO7 {p : aC} {sz n st : Nat} {e : aA} {env : List (List Int)} (h3 : ¬ st = 3000) (hk : e.aQ = 1) : gR p sz (n + 1) st e env = .ok (cF e.aW sz, st + 1) := by rw [gR, if_neg h3, if_pos hk]
theorem aO8 {p : aC} {sz n st : Nat} {e : aA} {env : List (List Int)} (h3 : ¬ st = 3000) (hk : e.aQ = 2) : gR p sz (n + 1) st e env = .ok (env.getD e.aW.toNat [], st + 1) := by rw [gR, if_neg h3, if_neg (by omega), if_pos hk]
theorem aF4 {p : aC} {sz n st : Nat} {e : aA} {env : List (List Int)} (h3 : ¬ st = 3000) (hk : e.aQ = 8) : gR p sz (n + 1) st e env = (gR p sz n (st + 1) (e.kU 0) env).andThen fun c t => if c.getD 0 0 = 0 then gR p sz n t (e.kU 1) env else gR p sz n t (e.kU 2) env := by rw [gR, if_neg h3, if_neg (by omega), if_neg (by omega), if_pos hk]
theorem aO9 {p : aC} {sz n st : Nat} {e : aA} {env : List (List Int)} (h3 : ¬ st = 3000) (hk : e.aQ = 9) : gR p sz (n + 1) st e env = (gR p sz n (st + 1) (e.kU 0) env).andThen fun v t => gR p sz n t (e.kU 1) (env ++ [v]) := by rw [gR, if_neg h3, if_neg (by omega), if_neg (by omega), if_neg (by omega), if_pos hk]
theorem aD1 {p : aC} {sz n st : Nat} {e : aA} {env : List (List Int)} (h3 : ¬ st = 3000) (hk : e.aQ = 10) : gR p sz (n + 1) st e env = (kB (fun t e => gR p sz n t e env) e.aI (st + 1)).andThen fun vs t => gR p sz n t (p.out e.aW e.b7) vs := by
 rw [gR, if_neg h3, if_neg (by omega), if_neg (by omega), if_neg (by omega), if_neg (by omega)]; simp only [if_pos hk]
theorem aD2 {p : aC} {sz n st : Nat} {e : aA} {env : List (List Int)} (h3 : ¬ st = 3000) (hk : e.aQ = 11) : gR p sz (n + 1) st e env = (kB (fun t e => gR p sz n t e env) e.aI (st + 1)).andThen fun vs t => (nF (fun vs t => kB (fun t e => gR p sz n t e vs) (p.outs e.aW) t) e.bV.toNat vs t).andThen fun vs t => .ok (vs.getD e.b7.toNat [], t) := by
 have h : ¬ e.aQ = 10 := by omega
 rw [gR, if_neg h3, if_neg (by omega), if_neg (by omega), if_neg (by omega), if_neg (by omega)]; simp only [if_neg h, if_pos hk]
theorem mN {p : aC} {sz n st : Nat} {e : aA} {env : List (List Int)} (h3 : ¬ st = 3000) (hk : e.aQ = 3 ∨ e.aQ = 4 ∨ e.aQ = 5 ∨ e.aQ = 6 ∨ e.aQ = 7) : gR p sz (n + 1) st e env = (kB (fun t e => gR p sz n t e env) e.aI (st + 1)).andThen fun vs t => opE e.aQ vs t := by
 have h : ¬ e.aQ = 10 := by omega
 have h2 : ¬ e.aQ = 11 := by omega
 rw [gR, if_neg h3, if_neg (by omega), if_neg (by omega), if_neg (by omega), if_neg (by omega)]; simp only [if_neg h, if_neg h2]
theorem aA.fE {e : aA} {i : Nat} (h : i < e.aI.length) : e.aI[i]? = some (e.kU i) := by
 rw [aA.kU, List.getD_eq_getElem?_getD, List.getElem?_eq_getElem h]; rfl
theorem aA.qG {e : aA} {i : Nat} (h : i < e.aI.length) : e.kU i = e.aI[i] := by
 have := aA.fE h
 rw [List.getElem?_eq_getElem h] at this
 exact (Option.some.inj this).symm
theorem aA.dW {p : aC} {funcs vars : Int} {e : aA} {i : Nat} (hok : e.ok p funcs vars) (h : i < e.aI.length) : (e.kU i).ok p funcs (j2 e.aQ i vars) := by
 rw [aA.qG h]; exact ((aA.cC _ _ _ _).1 hok).2 i h
theorem aA.ld5 (x : aA) : (if 5 ≤ x.c.length then some (aD.agg (List.take 5 x.c)) else none) = some (.agg x.c) := by
 rw [if_pos (by rw [aA.aOM]; exact Nat.le_refl _), List.take_of_length_le (by rw [aA.aOM]; exact Nat.le_refl _)]
theorem gI {k : Int} {i : Nat} {v : Int} (h : ¬ (k = 9 ∧ i = 1)) : j2 k i v = v := if_neg h
theorem gM {sz : Nat} {env : List (List Int)} (h : ∀ s ∈ env, bC sz s) {i : Nat} (hi : i < env.length) : bC sz (env.getD i []) := by
 rw [List.getD_eq_getElem?_getD, List.getElem?_eq_getElem hi]; exact h _ (List.getElem_mem hi)
theorem fO {env : List (List Int)} {i : Nat} (hi : i < env.length) : env[i]? = some (env.getD i []) := by
 rw [List.getD_eq_getElem?_getD, List.getElem?_eq_getElem hi]; rfl
theorem cG {p : aC} {funcs vars : Int} {e : aA} (hok : e.ok p funcs vars) (hk : ¬ (e.aQ = 10 ∨ e.aQ = 11)) : eE e.aQ = e.aI.length := ((dM hk).1 ((aA.cC _ _ _ _).1 hok).1).1
theorem dD {p : aC} {funcs vars : Int} {e : aA} (hok : e.ok p funcs vars) (hk : ¬ e.aQ = 9) : ∀ x ∈ e.aI, x.ok p funcs vars := fun x hx => by
 obtain ⟨i, hi, rfl⟩ := List.mem_iff_getElem.1 hx
 have := ((aA.cC _ _ _ _).1 hok).2 i hi
 rwa [gI (fun q => hk q.1)] at this
structure a73 (p : aC) (e : aA) (f : aP) : Prop where
 get : p.aJ[e.aW.toNat]? = some f
 lo : 0 ≤ e.aW
 hi : e.aW < p.aJ.length
 pk : 0 ≤ e.b7
 pk2 : e.b7.toNat < f.aM.length
 kids : (e.aI.length : Int) = f.aX
 params : 0 ≤ f.aX ∧ f.aX ≤ 12
 outs : 1 ≤ f.aM.length ∧ f.aM.length ≤ 12
 oks : ∀ x ∈ f.aM, x.ok p e.aW f.aX
 eq : p.outs e.aW = f.aM
 out : f.aM[e.b7.toNat]? = some (p.out e.aW e.b7)
 loop : e.aQ = 11 → 0 ≤ e.bV ∧ e.bV ≤ 8 ∧ (f.aM.length : Int) = f.aX
theorem lQ {p : aC} (hp : p.ok) {e : aA} {funcs vars : Int} (hok : e.ok p funcs vars) (hf : funcs ≤ p.aJ.length) (hk : e.aQ = 10 ∨ e.aQ = 11) : ∃ f, a73 p e f := by
 have h1 := ((aA.cC _ _ _ _).1 hok).1
 have h2 := h1
 unfold mM at h1
 rw [if_pos hk] at h1
 have hlt : e.aW.toNat < p.aJ.length := by omega
 have ef : p.aJ[e.aW.toNat]? = some p.aJ[e.aW.toNat] := List.getElem?_eq_getElem hlt
 rw [oW hk ef] at h2
 obtain ⟨n1, n2, n3, n4, n5, n6, n7⟩ := h2
 have hF := hp.2 _ _ ef
 have heq : p.outs e.aW = p.aJ[e.aW.toNat].aM := by rw [aC.outs, ef]; rfl
 refine ⟨_, ⟨ef, n1, by omega, n3, by omega, n5, hF.2.1, by have := hF.2.2.1; omega, fun x hx => ?_, heq, ?_, n7⟩⟩
 ·have := (hF.2.2.2.2.2 x hx).2.2.2.2
  rwa [show ((e.aW.toNat : Nat) : Int) = e.aW by omega] at this
 ·rw [aC.out, heq, List.getD_eq_getElem?_getD, List.getElem?_eq_getElem (by omega)]; rfl
def aAM {α : Type} (X : Out α) : Prop := ∀ c, X = .error c → c = 6 ∨ c = 7
theorem aAM.ok {α : Type} {v : α} {t : Nat} : aAM (.ok (v, t) : Out α) := fun c h => by cases h
theorem aAM.then {α β : Type} {X : Out α} {F : α → Nat → Out β} (h : aAM X) (hf : ∀ v t, aAM (F v t)) : aAM (X.andThen F) := fun c hc => by
 cases X with
 |ok p => exact hf p.1 p.2 c hc
 |error d => exact h c (by cases hc; rfl)
theorem y7 {ev : Nat → aA → Out (List Int)} (h : ∀ t e, aAM (ev t e)) : ∀ (l : List aA) (t : Nat), aAM (kB ev l t)
 | [], t => .ok
 |e :: l, t => (h t e).then fun v t => (y7 h l t).then fun vs t => .ok
theorem aD3 {f : List (List Int) → Nat → Out (List (List Int))} (h : ∀ vs t, aAM (f vs t)) : ∀ (n : Nat) (vs : List (List Int)) (t : Nat), aAM (nF f n vs t)
 |0, vs, t => .ok
 |n + 1, vs, t => (h vs t).then fun a t => aD3 h n a t
theorem aWZ (k : Int) (vs : List (List Int)) (t : Nat) : aAM (opE k vs t) := by
 unfold opE
 repeat' split
 all_goals first | exact .ok | (intro c h; cases h; exact .inl rfl)
theorem aPA (p : aC) (sz : Nat) : ∀ (n t : Nat) (e : aA) (env : List (List Int)), aAM (gR p sz n t e env)
 |0, t, e, env => fun c h => by rw [gR] at h; cases h; exact .inr rfl
 |n + 1, t, e, env => by
  have ih := aPA p sz n
  rw [gR]
  split
  ·intro c h; cases h; exact .inr rfl
  split
  ·exact .ok
  split
  ·exact .ok
  split
  ·refine (ih _ _ _).then fun v t => ?_
   split
   ·exact ih _ _ _
   ·exact ih _ _ _
  split
  ·exact (ih _ _ _).then fun v t => ih _ _ _
  refine (y7 (fun t e => ih t e env) _ _).then fun vs t => ?_
  split
  ·exact ih _ _ _
  split
  ·exact (aD3 (fun vs t => y7 (fun t e => ih t e vs) _ t) _ _ _).then fun vs t => .ok
  ·exact aWZ _ _ _
theorem y8 (p : aC) (sz : Nat) (f : Int) (args : List (List Int)) : aAM (xU p sz f args) := y7 (fun t e => aPA p sz 3001 t e args) _ _
def okP {α : Type} (P : α → Prop) (X : Out α) : Prop := ∀ v u, X = .ok (v, u) → P v
theorem okP.then {α β : Type} {P : α → Prop} {Q : β → Prop} {X : Out α} {F : α → Nat → Out β} (h : okP P X) (hf : ∀ v t, P v → okP Q (F v t)) : okP Q (X.andThen F) := fun w u hw => by
 cases X with
 |ok p => obtain ⟨v, t⟩ := p; exact hf v t (h v t rfl) w u hw
 |error c => cases hw
theorem okP.err {α : Type} {P : α → Prop} {c : Int} : okP P (.error c : Out α) := fun w u e => by cases e
def a74 (sz n : Nat) (l : List (List Int)) : Prop := l.length = n ∧ ∀ s ∈ l, bC sz s
theorem a74.get {sz n i : Nat} {l : List (List Int)} (h : a74 sz n l) (hi : i < n) : bC sz (l.getD i []) := by
 rw [List.getD_eq_getElem?_getD, List.getElem?_eq_getElem (by rw [h.1]; exact hi)]; exact h.2 _ (List.getElem_mem _)
theorem oE {p : aC} {e : aA} {vars funcs : Int} (h : mM p e vars funcs) : e.aQ = 1 ∨ e.aQ = 2 ∨ e.aQ = 3 ∨ e.aQ = 4 ∨ e.aQ = 5 ∨ e.aQ = 6 ∨ e.aQ = 7 ∨ e.aQ = 8 ∨ e.aQ = 9 ∨ e.aQ = 10 ∨ e.aQ = 11 := by
 by_cases hk : e.aQ = 10 ∨ e.aQ = 11
 ·omega
 ·have h1 := ((dM hk).1 h).1
  unfold eE at h1
  repeat' (split at h1)
  all_goals omega
theorem oM {p : aC} (hp : p.ok) {f : Int} (hf : 0 ≤ f ∧ f < p.aJ.length) : ∃ F, p.aJ[f.toNat]? = some F ∧ (1 ≤ F.aM.length ∧ F.aM.length ≤ 12) ∧ (0 ≤ F.aX ∧ F.aX ≤ 12) ∧ p.outs f = F.aM ∧ ∀ x ∈ F.aM, x.ok p f F.aX := by
 have hlt : f.toNat < p.aJ.length := by omega
 have ef : p.aJ[f.toNat]? = some p.aJ[f.toNat] := List.getElem?_eq_getElem hlt
 have hF := hp.2 _ _ ef
 refine ⟨_, ef, by have := hF.2.2.1; omega, hF.2.1, by rw [aC.outs, ef]; rfl, fun x hx => ?_⟩
 have := (hF.2.2.2.2.2 x hx).2.2.2.2
 rwa [show ((f.toNat : Nat) : Int) = f by omega] at this
theorem aW0 (a : List Int) (m : Int) (hm : iI m) (hl : a.length ≤ 1048576) (ha : dP a) : rQ Tryz.prog 109 [dB 1 (fun n => [I n]) a, I m] (QS (OS (oP I) 1 (iP a m))) := by
 refine qD 27 aOF bT bD mix Tryz.func109 rfl (by kernel_rfl) (by simp) fun h => ?_
 simp -dsimp -implicitDefEqProofs only [go_sem, ↓reduceIte, Tryz.f109]
 intro _
 refine ⟨Nat.zero_lt_one, Nat.le_refl _, by omega, by omega, fun n hn _ => ?_⟩
 have hc := nH a m
 rw [rD]
 refine tP (keep := aOF) (ib := bT) (mk := bD) mix (by kernel_rfl) (fun k : Nat => [(0, dB 1 (fun n => [I n]) a), (1, I m), (5, .os n 1 0 a.length), (11, I a.length), (12, I k)]) n (fun k => .row 1 (((wE (iP a m) k).map fun n => [I n]).map (List.map .v))) (fun k => k ≤ a.length) (fun k => a.length - k) 0 ⟨by simp [b8, bJ], by rw [aH, vN, hc], Nat.zero_le _⟩ ?_
 intro k hk
 rcases Nat.lt_or_ge k a.length with hlt | hge
 ·have ea : a[k]? = some a[k] := List.getElem?_eq_getElem hlt
  have eu := yU (c := iP a m) (k := k) (by omega)
  have el := yT (iP a m) (k := k) (by omega)
  simp -dsimp -implicitDefEqProofs only [go_sem, ↓reduceIte, Tryz.f109, aK, hlt, ea, eu, el, hc]
  have h1 := num_mul (ha _ (List.getElem_mem hlt)) hm
  refine ⟨k + 1, by rw [IntWalk.i64_in _ (by omega)]; rfl, ?_, by omega, by omega⟩
  have hv : (iP a m)[k]'(by omega) = a[k] * m % 1000003 := by simp [iP]
  rw [aKR h1.1 (by omega), ← wF (by omega), hv, ← pC I]
  exact aB.le_refl _
 ·have hk' : k = a.length := by omega
  subst hk'
  simp -dsimp -implicitDefEqProofs only [go_sem, ↓reduceIte, Tryz.f109, aK, Nat.lt_irrefl]
  have hu : wE (iP a m) a.length = iP a m := by rw [← hc]; exact yS _
  rw [hu, show a.length = (iP a m).length from hc.symm]
  exact rC hn
theorem sI {P : Program} {f : FuncId} {args : List aD} {l : List Int} (a : rQ P f args (QS (OS (oP I) 1 l))) : dV P f args (dB 1 (fun n => [I n]) l) := QS.cK a (fun y hy => OS.lA (c := fun n => [I n]) (fun _ _ q => rO q) hy)
theorem scaled (a : List Int) (m : Int) (hm : iI m) (hl : a.length ≤ 1048576) (ha : dP a) : dV Tryz.prog 109 [dB 1 (fun n => [I n]) a, I m] (dB 1 (fun n => [I n]) (iP a m)) := sI (aW0 a m hm hl ha)
theorem aD4 (a b : List Int) (hab : b.length = a.length) (hl : a.length ≤ 1048576) (ha : dP a) (hb : dP b) : dV Tryz.prog 60 [dB 1 (fun n => [I n]) a, dB 1 (fun n => [I n]) b] (dB 1 (fun n => [I n]) (iC a b)) := sI (added a b hab hl (oK ha) (oK hb))
theorem aTE (a b : List Int) (hab : b.length = a.length) (hl : a.length ≤ 1048576) (ha : dP a) (hb : dP b) : rQ Tryz.prog 111 [dB 1 (fun n => [I n]) a, dB 1 (fun n => [I n]) b] (QS (OS (oP I) 1 (y3 a b))) := by
 refine qD 9 aAI bT bD mix Tryz.func111 rfl (by kernel_rfl) (by simp) fun h => ?_
 simp -dsimp -implicitDefEqProofs only [go_sem, ↓reduceIte, Tryz.f111]
 first | refine aG.mk (scaled b 1000002 (by unfold iI; omega) (by omega) hb) ?_ | refine aE.mk (scaled b 1000002 (by unfold iI; omega) (by omega) hb) ?_ | refine aG.a8 (scaled b 1000002 (by unfold iI; omega) (by omega) hb) ?_ | refine aE.mk (a6.cK (scaled b 1000002 (by unfold iI; omega) (by omega) hb)) ?_
 simp -dsimp -implicitDefEqProofs only [go_sem, ↓reduceIte, Tryz.f111]
 refine aG.wn0 (added a (iP b 1000002) (by rw [nH]; exact hab) hl (oK ha) (oK (eQ _ ⟨rfl, hb⟩).2)) ?_
 rintro r l g ⟨y, oy, rfl, rfl⟩ wn
 simp -dsimp -implicitDefEqProofs only [go_sem, ↓reduceIte, Tryz.f111, oy.flat, oy.one]
 exact ⟨_, g, _, aV _ _, ⟨y, oy, rfl, rfl⟩, wn⟩
theorem reduced (a b : List Int) (hab : b.length = a.length) (hl : a.length ≤ 1048576) (ha : dP a) (hb : dP b) : dV Tryz.prog 111 [dB 1 (fun n => [I n]) a, dB 1 (fun n => [I n]) b] (dB 1 (fun n => [I n]) (y3 a b)) := sI (aTE a b hab hl ha hb)
theorem minus (a b : Int) : dV Tryz.prog 120 [I a, I b] (I ((a - b) % 1000003)) := by
 refine dS 10 aAI bT bD mix Tryz.func120 rfl (by kernel_rfl) (by simp) fun h => ?_
 simp -dsimp -implicitDefEqProofs only [go_sem, ↓reduceIte, Tryz.f120]
 first | refine aG.mk (gC b) ?_ | refine aE.mk (gC b) ?_ | refine aG.a8 (gC b) ?_ | refine aE.mk (a6.cK (gC b)) ?_
 simp -dsimp -implicitDefEqProofs only [go_sem, ↓reduceIte, Tryz.f120]
 rw [IntWalk.i64_in _ (by omega)]
 first | refine aG.mk (aHO a (1000003 - b % 1000003)) ?_ | refine aE.mk (aHO a (1000003 - b % 1000003)) ?_ | refine aG.a8 (aHO a (1000003 - b % 1000003)) ?_ | refine aE.mk (a6.cK (aHO a (1000003 - b % 1000003))) ?_
 simp -dsimp -implicitDefEqProofs only [go_sem, ↓reduceIte, Tryz.f120]
 omega
@[go_sem] def aM1 : List Nat := [0, 1, 4, 5, 6, 7, 12, 13, 14, 18]
@[go_sem] def a2D : Marks := fun id => match id with | 8 => ([5, 20], (.op 0 (.op 1 (.op 2 (.op 3 (.op 4 (.op 6 (.op 7 (.op 8 (.op 9 (.op 10 (.op 11 (.op 12 (.op 13 (.op 14 (.op 15 (.op 16 (.op 5 (.op 17 (.op 18 (.op 19 (.op 20 .nil))))))))))))))))))))), []) | _ => ([], .nil, [])
theorem aKS (a b : List Int) (hab : b.length = a.length) (hl : a.length ≤ 1048576) (ha : dP a) (hb : dP b) : rQ Tryz.prog 61 [dB 1 (fun n => [I n]) a, dB 1 (fun n => [I n]) b] (QS (OS (oP I) 1 (mulL a b))) := by
 refine qD 43 aM1 bT a2D mix Tryz.func61 rfl (by kernel_rfl) (by simp) fun h => ?_
 simp -dsimp -implicitDefEqProofs only [go_sem, ↓reduceIte, Tryz.f61]
 intro _
 refine ⟨Nat.zero_lt_one, Nat.le_refl _, by omega, by omega, fun n hn _ => ?_⟩
 have hc := y6 a b
 rw [rD]
 refine tP (keep := aM1) (ib := bT) (mk := a2D) mix (by kernel_rfl) (fun k : Nat => [(0, dB 1 (fun n => [I n]) a), (1, dB 1 (fun n => [I n]) b), (5, .os n 1 0 a.length), (12, I a.length), (13, I k)]) n (fun k => .row 1 (((wE (mulL a b) k).map fun n => [I n]).map (List.map .v))) (fun k => k ≤ a.length) (fun k => a.length - k) 0 ⟨by simp [b8, bJ], by rw [aH, vN, hc], Nat.zero_le _⟩ ?_
 intro k hk
 rcases Nat.lt_or_ge k a.length with hlt | hge
 ·simp -dsimp -implicitDefEqProofs only [go_sem, ↓reduceIte, Tryz.f61, aK, hlt]
  refine tP (keep := aM1) (ib := bT) (mk := a2D) mix (by kernel_rfl) (fun i : Nat => [(0, dB 1 (fun n => [I n]) a), (1, dB 1 (fun n => [I n]) b), (5, .os n 1 0 a.length), (6, I k), (7, I i), (12, I a.length), (13, I k)]) n (fun i => .row 1 ((((wE (mulL a b) k).set k (tS a b k i)).map fun n => [I n]).map (List.map .v))) (fun i => i ≤ k + 1) (fun i => k + 1 - i) 0 ⟨by simp [b8, bJ], by rw [aH, tS, aTD (by omega)], Nat.zero_le _⟩ ?_
  intro i hi
  have el : ((wE (mulL a b) k).set k (tS a b k i)).length = a.length := by rw [List.length_set, yT _ (by omega), hc]
  have eu : ((wE (mulL a b) k).set k (tS a b k i))[k]? = some (tS a b k i) := by rw [List.getElem?_set_self (by rw [List.length_set] at el; omega)]
  rcases Nat.lt_or_ge i (k + 1) with jO | aFF
  ·have ea := bR (l := a) (i := i) (by omega)
   have eb := bR (l := b) (i := k - i) (by omega)
   have ew : IntKind.i64.wrap ((k : Int) - (i : Int)) = ((k - i : Nat) : Int) := by rw [IntWalk.i64_in _ (by omega)]; omega
   simp -dsimp -implicitDefEqProofs only [go_sem, ↓reduceIte, Tryz.f61, aK, hlt, ea, eb, eu, el, hc, ew]
   refine ⟨fun _ => ⟨by omega, by omega, i + 1, by rw [IntWalk.i64_in _ (by omega)]; rfl, ?_, by omega, by omega⟩, fun q => absurd (by omega) q⟩
   have h1 := num_mul (ha.get i) (hb.get (k - i))
   have h2 := aS5 a b k i
   unfold iI at h2
   rw [IntWalk.i64_in (a.getD i 0 * b.getD (k - i) 0) (by omega), aKR (by omega) (by omega), show (wE (mulL a b) k).set k (tS a b k (i + 1)) = ((wE (mulL a b) k).set k (tS a b k i)).set k ((tS a b k i + a.getD i 0 * b.getD (k - i) 0) % 1000003) by rw [List.set_set, tS], ← pC I]
   exact aB.le_refl _
  ·have hi' : i = k + 1 := by omega
   subst hi'
   simp -dsimp -implicitDefEqProofs only [go_sem, ↓reduceIte, Tryz.f61, aK, hlt]
   refine ⟨fun q => absurd q (by omega), fun _ => ⟨k + 1, by rw [IntWalk.i64_in _ (by omega)]; rfl, ?_, by omega, by omega⟩⟩
   have hv : (mulL a b)[k]'(by omega) = tS a b k (k + 1) := by simp [mulL]
   rw [← hv, wF (by omega)]
   exact aB.le_refl _
 ·have hk' : k = a.length := by omega
  subst hk'
  simp -dsimp -implicitDefEqProofs only [go_sem, ↓reduceIte, Tryz.f61, aK, Nat.lt_irrefl]
  have hu : wE (mulL a b) a.length = mulL a b := by rw [← hc]; exact yS _
  rw [hu, show a.length = (mulL a b).length from hc.symm]
  exact rC hn
theorem product (a b : List Int) (hab : b.length = a.length) (hl : a.length ≤ 1048576) (ha : dP a) (hb : dP b) : dV Tryz.prog 61 [dB 1 (fun n => [I n]) a, dB 1 (fun n => [I n]) b] (dB 1 (fun n => [I n]) (mulL a b)) := sI (aKS a b hab hl ha hb)
@[go_sem] def aPB : List Nat := [0, 1, 4, 5, 6, 8, 12, 17]
theorem Power (a n : Int) (hn : 0 ≤ n) (hn2 : n ≤ 4294967296) : dV Tryz.prog 179 [I a, I n] (I (pwN (a % 1000003) n.toNat)) := by
 refine dS 27 aPB bT bD mix Tryz.func179 rfl (by kernel_rfl) (by simp) fun h => ?_
 simp -dsimp -implicitDefEqProofs only [go_sem, ↓reduceIte, Tryz.f179]
 refine ⟨fun q => absurd q (by omega), fun _ => ?_⟩
 first | refine aG.mk (gC a) ?_ | refine aE.mk (gC a) ?_ | refine aG.a8 (gC a) ?_ | refine aE.mk (a6.cK (gC a)) ?_
 simp -dsimp -implicitDefEqProofs only [go_sem, ↓reduceIte, Tryz.f179]
 generalize hT : pwN (a % 1000003) n.toNat = T
 refine oU (keep := aPB) (ib := bT) (mk := bD) mix (by kernel_rfl) (fun x : Int × Int × Int => [(1, I x.2.2), (5, I x.1), (6, I x.2.1)]) (fun x => (0 ≤ x.1 ∧ x.1 < 1000003) ∧ (0 ≤ x.2.1 ∧ x.2.1 < 1000003) ∧ (0 ≤ x.2.2 ∧ x.2.2 ≤ 4294967296) ∧ x.1 * x.2.1 ^ x.2.2.toNat % 1000003 = T) (fun x => x.2.2.toNat) (1, a % 1000003, n) ⟨by simp [b8, bJ], ⟨by simp, by simp⟩, aKQ _, ⟨hn, hn2⟩, by rw [Int.one_mul]; exact hT⟩ ?_
 rintro ⟨x, b, m⟩ ⟨hx, hb, hm, hp⟩
 simp only at hx hb hm hp ⊢
 simp -dsimp -implicitDefEqProofs only [go_sem, ↓reduceIte, Tryz.f179]
 have h1 := num_mul (x := x) (y := b) (by unfold iI; omega) (by unfold iI; omega)
 have h2 := num_mul (x := b) (y := b) (by unfold iI; omega) (by unfold iI; omega)
 rw [Int.tmod_eq_emod_of_nonneg hm.1, Int.tdiv_eq_ediv_of_nonneg hm.1, IntWalk.i64_in (m / 2) (by omega), aKR h1.1 (by omega), aKR h2.1 (by omega)]
 refine ⟨fun hg => ⟨fun ho => ⟨(x * b % 1000003, b * b % 1000003, m / 2), ⟨rfl, rfl, rfl⟩, ⟨aKQ _, aKQ _, (show 0 ≤ m / 2 ∧ m / 2 ≤ 4294967296 by omega), aTC hm.1 ho hp⟩, by simp only; omega⟩, fun ho => ⟨(x, b * b % 1000003, m / 2), ⟨rfl, rfl, rfl⟩, ⟨hx, aKQ _, (show 0 ≤ m / 2 ∧ m / 2 ≤ 4294967296 by omega), aO6 hm.1 ho hp⟩, by simp only; omega⟩⟩, fun hg => ?_⟩
 have : m.toNat = 0 := by omega
 rw [this, aO5 x b hx] at hp
 exact hp
theorem mF (a : Int) : dV Tryz.prog 119 [I a] (I (iQ a)) := by
 refine dS 5 aAH bT bD mix Tryz.func119 rfl (by kernel_rfl) (by simp) fun h => ?_
 simp -dsimp -implicitDefEqProofs only [go_sem, ↓reduceIte, Tryz.f119]
 first | refine aG.mk (Power a 1000001 (by decide) (by decide)) ?_ | refine aE.mk (Power a 1000001 (by decide) (by decide)) ?_ | refine aG.a8 (Power a 1000001 (by decide) (by decide)) ?_ | refine aE.mk (a6.cK (Power a 1000001 (by decide) (by decide))) ?_
 simp -dsimp -implicitDefEqProofs only [go_sem, ↓reduceIte, Tryz.f119]
 rfl
@[go_sem] def aHQ : List Nat := [0, 1, 4, 5, 6, 7, 8, 9, 18, 19, 20, 28]
@[go_sem] def aTF : Marks := fun id => match id with | 1 => ([2], (.op 0 (.op 1 (.op 3 (.op 4 (.op 5 (.op 6 (.op 2 (.op 7 (.op 8 .nil))))))))), []) | 9 => ([4], (.op 0 (.op 1 (.op 2 (.op 3 (.op 5 (.op 6 (.op 7 (.op 8 (.op 9 (.op 10 (.op 4 (.op 11 (.op 12 (.op 13 .nil)))))))))))))), []) | _ => ([], .nil, [])
theorem aQZ (a b : List Int) (hab : b.length = a.length) (hl : a.length ≤ 1048576) (h0 : 0 < a.length) (ha : dP a) (hb : dP b) : rQ Tryz.prog 171 [dB 1 (fun n => [I n]) a, dB 1 (fun n => [I n]) b] (QS (OS (oP I) 1 (iK a b))) := by
 have e0 : b[Int.toNat 0]? = some (b.getD 0 0) := bR (l := b) (i := 0) (by omega)
 refine qD 53 aHQ bT aTF mix Tryz.func171 rfl (by kernel_rfl) (by simp) fun h => ?_
 simp -dsimp -implicitDefEqProofs only [go_sem, ↓reduceIte, Tryz.f171, e0]
 refine ⟨by omega, ?_⟩
 first | refine aG.mk (mF (b.getD 0 0)) ?_ | refine aE.mk (mF (b.getD 0 0)) ?_ | refine aG.a8 (mF (b.getD 0 0)) ?_ | refine aE.mk (a6.cK (mF (b.getD 0 0))) ?_
 simp -dsimp -implicitDefEqProofs only [go_sem, ↓reduceIte, Tryz.f171]
 refine ⟨Nat.zero_lt_one, Nat.le_refl _, by omega, by omega, fun n hn _ => ?_⟩
 have hc := nG a b
 rw [rD]
 refine tP (keep := aHQ) (ib := bT) (mk := aTF) mix (by kernel_rfl) (fun k : Nat => [(0, dB 1 (fun n => [I n]) a), (1, dB 1 (fun n => [I n]) b), (5, .os n 1 0 a.length), (6, I (iQ (b.getD 0 0))), (18, I a.length), (19, I k)]) n (fun k => .row 1 (((wE (iK a b) k).map fun n => [I n]).map (List.map .v))) (fun k => k ≤ a.length) (fun k => a.length - k) 0 ⟨by simp [b8, bJ], by rw [aH, vN, hc], Nat.zero_le _⟩ ?_
 intro k hk
 rcases Nat.lt_or_ge k a.length with hlt | hge
 ·have ek := bR hlt
  simp -dsimp -implicitDefEqProofs only [go_sem, ↓reduceIte, Tryz.f171, aK, hlt, ek]
  refine oU (keep := aHQ) (ib := bT) (mk := aTF) mix (by kernel_rfl) (fun i : Nat => [(0, dB 1 (fun n => [I n]) a), (1, dB 1 (fun n => [I n]) b), (5, .os n 1 0 a.length), (6, I (iQ (b.getD 0 0))), (7, I k), (8, I (y5 (iD a b k) b k (a.getD k 0) i)), (9, I i), (18, I a.length), (19, I k)]) (fun i => i ≤ k) (fun i => k - i) 0 ⟨by simp [b8, bJ, y5], Nat.zero_le _⟩ ?_
  intro i hi
  have el := yT (iK a b) (k := k) (by omega)
  have eu := yU (c := iK a b) (k := k) (by omega)
  rcases Nat.lt_or_ge i k with jO | aFF
  ·have ei := aBH (a := a) (b := b) (i := i) hk jO
   have eb := bR (l := b) (i := k - i) (by omega)
   have ew : IntKind.i64.wrap ((k : Int) - (i : Int)) = ((k - i : Nat) : Int) := by rw [IntWalk.i64_in _ (by omega)]; omega
   simp -dsimp -implicitDefEqProofs only [go_sem, ↓reduceIte, Tryz.f171, aK, jO, ei, eb, el, hc, ew]
   have h1 := num_mul ((qF a b k).get i) (hb.get (k - i))
   refine ⟨by omega, by omega, ?_⟩
   rw [IntWalk.i64_in _ (by omega)]
   first | refine aG.mk (minus (y5 (iD a b k) b k (a.getD k 0) i) ((iD a b k).getD i 0 * b.getD (k - i) 0)) ?_ | refine aE.mk (minus (y5 (iD a b k) b k (a.getD k 0) i) ((iD a b k).getD i 0 * b.getD (k - i) 0)) ?_ | refine aG.a8 (minus (y5 (iD a b k) b k (a.getD k 0) i) ((iD a b k).getD i 0 * b.getD (k - i) 0)) ?_ | refine aE.mk (a6.cK (minus (y5 (iD a b k) b k (a.getD k 0) i) ((iD a b k).getD i 0 * b.getD (k - i) 0))) ?_
   simp -dsimp -implicitDefEqProofs only [go_sem, ↓reduceIte, Tryz.f171, aK, jO, ei, eb, el, hc, ew]
   exact ⟨i + 1, ⟨rfl, by rw [IntWalk.i64_in _ (by omega)]; rfl⟩, by omega, by omega⟩
  ·have hi' : i = k := by omega
   subst hi'
   simp -dsimp -implicitDefEqProofs only [go_sem, ↓reduceIte, Tryz.f171, aK, Nat.lt_irrefl, hlt, eu, el, hc]
   have h1 := num_mul (tU (iD a b i) b i (ha.get i) i) (num_inv (b.getD 0 0))
   refine ⟨i + 1, by rw [IntWalk.i64_in _ (by omega)]; rfl, ?_, by omega, by omega⟩
   rw [aKR h1.1 (by omega), ← aD0 hlt, ← wF (by omega), ← pC I]
   exact aB.le_refl _
 ·have hk' : k = a.length := by omega
  subst hk'
  simp -dsimp -implicitDefEqProofs only [go_sem, ↓reduceIte, Tryz.f171, aK, Nat.lt_irrefl]
  have hu : wE (iK a b) a.length = iK a b := by rw [← hc]; exact yS _
  rw [hu, show a.length = (iK a b).length from hc.symm]
  exact rC hn
theorem quotient (a b : List Int) (hab : b.length = a.length) (hl : a.length ≤ 1048576) (h0 : 0 < a.length) (ha : dP a) (hb : dP b) : dV Tryz.prog 171 [dB 1 (fun n => [I n]) a, dB 1 (fun n => [I n]) b] (dB 1 (fun n => [I n]) (iK a b)) := sI (aQZ a b hab hl h0 ha hb)
theorem iL {h h' : aB} {n : Nat} (l : List Int) (h0 : h n = none) (hl : (a5 h n (.row 1 ((l.map fun n => [I n]).map (List.map .v)))).le h') {len : Nat} (e : len = l.length) : Shift (.os n 1 0 len) h' (dB 1 (fun n => [I n]) l) h :=
 nZ (l.map fun n => [I n]) h0 hl len (by rw [List.length_map]; exact e)
theorem lH (n : Int) (sz : Nat) : (cF n sz).length = sz := by simp [cF]
theorem y9 {sz : Nat} {x : List aD} (h : 0 < sz) : (List.replicate sz x)[Int.toNat 0]? = some x := by
 show (List.replicate sz x)[0]? = some x
 rw [List.getElem?_replicate, if_pos h]
theorem sJ (n : Int) (sz : Nat) : ((List.replicate sz [aD.int .i64 0]).map (List.map Cell.v)).set 0 [Cell.v (I n)] = ((cF n sz).map fun n => [I n]).map (List.map .v) := by
 rw [rD, cF, pC I]
@[go_sem] def aW1 : List Nat := [0, 1, 4, 5]
theorem kC (h : aB) (nb : Nat) (c0 c2 c3 : Cell) (n : Int) (sz : Nat) (hb : h nb = some (.row 4 [[c0, .v (I ((sz : Int) - 1)), c2, c3]])) (ho : 1 ≤ sz ∧ sz ≤ 1048576) : eH Tryz.prog 225 [.op nb 4 0 0, I n] h fun r h' => r = dB 1 (fun n => [I n]) (cF n sz) ∧ h' = h := by
 have e1 : IntKind.i64.wrap ((sz : Int) - 1 + 1) = (sz : Int) := by rw [IntWalk.i64_in _ (by omega)]; omega
 have e2 := y9 (x := [aD.int .i64 0]) ho.1
 refine gG 16 aW1 bT bD mix Tryz.func225 rfl (by kernel_rfl) (by simp) ?_
 simp -dsimp -implicitDefEqProofs only [go_sem, ↓reduceIte, Tryz.f225, hb, e1, Int.toNat_natCast, e2]
 refine ⟨Nat.zero_lt_one, by omega, by omega, by omega, fun m hm => ⟨by omega, ?_⟩⟩
 rw [aK, show Int.toNat 0 = 0 from rfl, sJ]
 exact ⟨_, h, iL _ hm (aB.le_refl _) (lH n sz).symm, rfl, rfl⟩
end Go.Hl

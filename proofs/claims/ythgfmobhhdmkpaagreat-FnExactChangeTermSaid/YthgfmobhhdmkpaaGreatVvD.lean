/-
  Contracts of functions and laws of the layer over the walk.
-/
import Derived.Test.YthgfmobhhdmkpaaGreatVvC
import Derived.Test.YthgfmobhhdmkpaaGreatVvB
import Derived.Test.YthgfmobhhdmkpaaGreatVvA
import Derived.Test.YthgfmobhhdmkpaaGreatHlD
namespace Go.Hl
open Go.Proofs
set_option linter.unusedVariables false
set_option linter.unusedSimpArgs false
def pointOK (j : DJob) (l : List Int) : Prop := (l.length : Int) = j.fShared ∧ Nums l
def partOK (j : DJob) (p : DPart) : Prop := if p.fCode = 0 then Num p.fValue ∧ pointOK j p.fGrad else (p.fCode = 6 ∨ p.fCode = 7) ∧ p.fValue = 0 ∧ p.fGrad = []
noncomputable instance (j : DJob) (p : DPart) : Decidable (partOK j p) := Classical.propDecidable _
def svcAt (j : DJob) (st ow : Int) (kn : Bool) (p : DPart) : Prop := (0 ≤ st ∧ st ≤ 50) ∧ (-1 ≤ ow ∧ ow ≤ 3) ∧ (kn = true → ow = -1 ∧ partOK j p) ∧ (kn = false → p.fCode = 0 ∧ p.fValue = 0 ∧ p.fGrad = [])
def DService.ok (s : DService) : Prop := s.fJob.ok ∧ (s.fStamps.length = s.fJob.fTerms.length ∧ s.fKnown.length = s.fJob.fTerms.length ∧ s.fParts.length = s.fJob.fTerms.length ∧ s.fOwners.length = s.fJob.fTerms.length) ∧
  ∀ (k : Nat) (st ow : Int) (kn : Bool) (p : DPart), s.fStamps[k]? = some st → s.fOwners[k]? = some ow → s.fKnown[k]? = some kn → s.fParts[k]? = some p → svcAt s.fJob st ow kn p
noncomputable instance (s : DService) : Decidable s.ok := Classical.propDecidable _
theorem len0 {α : Type} (l : List α) : (l.length : Int) = 0 ↔ l = [] := by cases l <;> simp; omega
def keep127 : List Nat := [0, 1, 4]
def ib127 : List Nat := []
def mk127 : Marks := fun _ => ([], .nil, [])
set_option maxRecDepth 100000 in
theorem l08Point (j : DJob) (l : List Int) : Fn0 Tryz.prog 127 [.ip 5 [j.c] 0 0, sls 1 (fun n => [I n]) l] (.bool (decide ((l.length : Int) = j.fShared ∧ Nums l))) := by
  simp only [DJob.c_eq]
  refine fn0F 16 keep127 ib127 mk127 mix Tryz.func127 rfl (by kernel_rfl) (by simp) fun h => ?_
  simp (maxSteps := 1000000) -dsimp -implicitDefEqProofs only [go_sem, ↓reduceIte, keep127, ib127, mk127, Tryz.f127]
  repeat' (with_reducible first | intro _ | refine And.intro ?_ ?_)
  all_goals try (first | (simp [*]; done) | omega | grind)
  first | refine HFnF.mk (l01Numbers l) ?_ | refine CallSF.mk (l01Numbers l) ?_ | refine HFnF.mkAt (l01Numbers l) ?_ | refine CallSF.mk (FnAt.fn0 (l01Numbers l)) ?_
  simp (maxSteps := 1000000) -dsimp -implicitDefEqProofs only [go_sem, ↓reduceIte, keep127, ib127, mk127, Tryz.f127]
  all_goals try (first | (simp [*]; done) | omega | grind)
def keep98 : List Nat := [0, 1, 4, 8, 9, 24]
def ib98 : List Nat := []
def mk98 : Marks := fun _ => ([], .nil, [])
set_option maxRecDepth 100000 in
theorem l08Form (j : DJob) (p : DPart) : Fn0 Tryz.prog 98 [.ip 5 [j.c] 0 0, .ip 3 [p.c] 0 0] (.bool (decide (partOK j p))) := by
  simp only [DJob.c_eq, DPart.c_eq]
  refine fn0F 40 keep98 ib98 mk98 mix Tryz.func98 rfl (by kernel_rfl) (by simp) fun h => ?_
  simp (maxSteps := 1000000) -dsimp -implicitDefEqProofs only [go_sem, ↓reduceIte, keep98, ib98, mk98, Tryz.f98]
  repeat' (with_reducible first | intro _ | refine And.intro ?_ ?_)
  all_goals try (first | (simp [partOK, len0, *]; done) | omega | (grind [partOK, len0]) | (simp [partOK, len0]; omega))
  rename_i hc
  have hp : partOK j p ↔ Num p.fValue ∧ pointOK j p.fGrad := by unfold partOK; rw [if_pos hc]
  first | refine HFnF.mk (l01Number p.fValue) ?_ | refine CallSF.mk (l01Number p.fValue) ?_ | refine HFnF.mkAt (l01Number p.fValue) ?_ | refine CallSF.mk (FnAt.fn0 (l01Number p.fValue)) ?_
  simp (maxSteps := 1000000) -dsimp -implicitDefEqProofs only [go_sem, ↓reduceIte, keep98, ib98, mk98, Tryz.f98]
  repeat' (with_reducible first | intro _ | refine And.intro ?_ ?_)
  · first | refine CallSF.mk ((l08Point j p.fGrad).sub (by repeat' (first | exact SubL.nil | refine SubL.cons ?_ ?_ | exact Sub.refl _ | (rw [DExpr.c_eq]; exact Sub.refl _) | exact Sub.ipAt rfl rfl rfl | exact Sub.ip (map_get (by omega)) (by simp) | exact Sub.ipAt (map_get (by omega)) rfl rfl | exact Sub.ip (by simp [*]) (by simp) | exact Sub.ipAt (by simp [*]) (by rfl) (by rfl)))) ?_ | refine HFnF.mk ((l08Point j p.fGrad).sub (by repeat' (first | exact SubL.nil | refine SubL.cons ?_ ?_ | exact Sub.refl _ | (rw [DExpr.c_eq]; exact Sub.refl _) | exact Sub.ipAt rfl rfl rfl | exact Sub.ip (map_get (by omega)) (by simp) | exact Sub.ipAt (map_get (by omega)) rfl rfl | exact Sub.ip (by simp [*]) (by simp) | exact Sub.ipAt (by simp [*]) (by rfl) (by rfl)))) ?_
    simp (maxSteps := 1000000) -dsimp -implicitDefEqProofs only [go_sem, ↓reduceIte, keep98, ib98, mk98, Tryz.f98]
    rw [decide_eq_decide, hp]
    exact ⟨fun q => ⟨by assumption, q⟩, fun q => q.2⟩
  · exact (decide_eq_false fun q => by simp_all).symm
def keep100 : List Nat := [0, 1, 2, 3, 4, 7]
def ib100 : List Nat := [2, 3]
def mk100 : Marks := fun _ => ([], .nil, [])
set_option maxRecDepth 100000 in
theorem isPart (j : DJob) (p : DPart) : Fn0 Tryz.prog 100 [.agg j.c, .agg p.c] (.bool (decide (partOK j p))) := by
  simp only [DJob.c_eq, DPart.c_eq]
  refine fn0F 37 keep100 ib100 mk100 mix Tryz.func100 rfl (by kernel_rfl) (by simp) fun h => ?_
  simp (maxSteps := 1000000) -dsimp -implicitDefEqProofs only [go_sem, ↓reduceIte, keep100, ib100, mk100, Tryz.f100]
  repeat' (with_reducible first | intro _ | refine And.intro ?_ ?_)
  all_goals try (first | (simp [partOK, len0, *]; done) | omega | (grind [partOK, len0]) | (simp [partOK, len0]; omega))
  rename_i hc
  have hp : partOK j p ↔ Num p.fValue ∧ pointOK j p.fGrad := by unfold partOK; rw [if_pos hc]
  first | refine HFnF.mk (isNumber p.fValue) ?_ | refine CallSF.mk (isNumber p.fValue) ?_ | refine HFnF.mkAt (isNumber p.fValue) ?_ | refine CallSF.mk (FnAt.fn0 (isNumber p.fValue)) ?_
  simp (maxSteps := 1000000) -dsimp -implicitDefEqProofs only [go_sem, ↓reduceIte, keep100, ib100, mk100, Tryz.f100]
  repeat' (with_reducible first | intro _ | refine And.intro ?_ ?_)
  · first | refine HFnF.mk (areNumbers p.fGrad j.fShared) ?_ | refine CallSF.mk (areNumbers p.fGrad j.fShared) ?_ | refine HFnF.mkAt (areNumbers p.fGrad j.fShared) ?_ | refine CallSF.mk (FnAt.fn0 (areNumbers p.fGrad j.fShared)) ?_
    simp (maxSteps := 1000000) -dsimp -implicitDefEqProofs only [go_sem, ↓reduceIte, keep100, ib100, mk100, Tryz.f100]
    rw [decide_eq_decide, hp]
    exact ⟨fun q => ⟨by assumption, q⟩, fun q => q.2⟩
  · exact (decide_eq_false fun q => by simp_all).symm
def keep44 : List Nat := [0, 2, 3, 4, 9, 49, 52, 74, 104, 146]
def ib44 : List Nat := []
def mk44 : Marks := fun id => match id with | 11 => ([], (.op 0 (.op 1 (.op 2 (.op 3 (.op 4 (.op 5 (.op 6 (.op 7 (.op 8 (.op 9 (.op 10 (.op 11 (.op 12 (.op 13 (.op 14 (.op 15 (.op 16 (.op 17 (.op 18 (.op 19 (.op 20 (.op 21 (.op 22 (.op 23 (.op 24 (.op 25 (.op 26 (.op 27 (.op 28 (.op 29 .nil)))))))))))))))))))))))))))))), []) | _ => ([], .nil, [])
set_option maxRecDepth 100000 in
theorem l08Ok (s : DService) (hps : s.fJob.fProgram.s ≤ 4194304) : Fn0 Tryz.prog 44 [.ip 9 [s.c] 0 0] (.bool (decide s.ok)) := by
  simp only [DService.c_eq]
  refine fn0F 147 keep44 ib44 mk44 mix Tryz.func44 rfl (by kernel_rfl) (by simp) fun h => ?_
  simp (maxSteps := 1000000) -dsimp -implicitDefEqProofs only [go_sem, ↓reduceIte, keep44, ib44, mk44, Tryz.f44]
  first | refine CallSF.mk ((l08Job s.fJob hps).sub (by repeat' (first | exact SubL.nil | refine SubL.cons ?_ ?_ | exact Sub.refl _ | (rw [DExpr.c_eq]; exact Sub.refl _) | exact Sub.ipAt rfl rfl rfl | exact Sub.ip (map_get (by omega)) (by simp) | exact Sub.ipAt (map_get (by omega)) rfl rfl | exact Sub.ip (by simp [*]) (by simp) | exact Sub.ipAt (by simp [*]) (by rfl) (by rfl)))) ?_ | refine HFnF.mk ((l08Job s.fJob hps).sub (by repeat' (first | exact SubL.nil | refine SubL.cons ?_ ?_ | exact Sub.refl _ | (rw [DExpr.c_eq]; exact Sub.refl _) | exact Sub.ipAt rfl rfl rfl | exact Sub.ip (map_get (by omega)) (by simp) | exact Sub.ipAt (map_get (by omega)) rfl rfl | exact Sub.ip (by simp [*]) (by simp) | exact Sub.ipAt (by simp [*]) (by rfl) (by rfl)))) ?_
  simp (maxSteps := 1000000) -dsimp -implicitDefEqProofs only [go_sem, ↓reduceIte, keep44, ib44, mk44, Tryz.f44]
  repeat' (with_reducible first | intro _ | refine And.intro ?_ ?_)
  all_goals try (exact (decide_eq_false fun z => by have := z.2.1; omega).symm)
  all_goals try (rename_i hn; exact (decide_eq_false fun z => hn z.1).symm)
  have hjob : s.fJob.ok := by assumption
  have h1 : s.fStamps.length = s.fJob.fTerms.length := by assumption
  have h2 : s.fKnown.length = s.fJob.fTerms.length := by assumption
  have h3 : s.fParts.length = s.fJob.fTerms.length := by assumption
  have h4 : s.fOwners.length = s.fJob.fTerms.length := by assumption
  refine loopF (keep := keep44) (ib := ib44) (mk := mk44) mix (by kernel_rfl) (fun k : Nat => [(0, .ip 9 [s.c] 0 0), (3, I s.fJob.fTerms.length), (4, I k)]) (fun _ => h) (fun k => k ≤ s.fJob.fTerms.length ∧ ∀ (j : Nat) (st ow : Int) (kn : Bool) (p : DPart), j < k → s.fStamps[j]? = some st → s.fOwners[j]? = some ow → s.fKnown[j]? = some kn → s.fParts[j]? = some p → svcAt s.fJob st ow kn p) (fun k => s.fJob.fTerms.length - k) 0 (by refine ⟨by simp [SatL, tget, DService.c_eq], by repeat' (with_reducible first | exact Heap.le_refl _ | refine (le_upd (by first | assumption | exact And.right (by assumption) | exact upd_none.2 (by assumption))).2 ?_), by simp⟩) ?_
  intro k ⟨hk, hall⟩
  simp only [DService.c_eq]
  rcases Nat.lt_or_ge k s.fJob.fTerms.length with hlt | hge
  · have k1 : k < s.fStamps.length := by omega
    have k2 : k < s.fKnown.length := by omega
    have k3 : k < s.fParts.length := by omega
    have k4 : k < s.fOwners.length := by omega
    have g1 : s.fStamps[k]? = some s.fStamps[k] := List.getElem?_eq_getElem k1
    have g2 : s.fKnown[k]? = some s.fKnown[k] := List.getElem?_eq_getElem k2
    have g3 : s.fParts[k]? = some s.fParts[k] := List.getElem?_eq_getElem k3
    have g4 : s.fOwners[k]? = some s.fOwners[k] := List.getElem?_eq_getElem k4
    have no (q : ¬ svcAt s.fJob s.fStamps[k] s.fOwners[k] s.fKnown[k] s.fParts[k]) : false = decide s.ok := (decide_eq_false fun z => q (z.2.2 k _ _ _ _ g1 g4 g2 g3)).symm
    have nx (q : svcAt s.fJob s.fStamps[k] s.fOwners[k] s.fKnown[k] s.fParts[k]) : ∀ (j : Nat) (st ow : Int) (kn : Bool) (p : DPart), j < k + 1 → s.fStamps[j]? = some st → s.fOwners[j]? = some ow → s.fKnown[j]? = some kn → s.fParts[j]? = some p → svcAt s.fJob st ow kn p := by
      intro j st ow kn p hj a b c d
      rcases Nat.lt_succ_iff_lt_or_eq.1 hj with hj | rfl
      · exact hall j st ow kn p hj a b c d
      · rw [g1] at a; rw [g4] at b; rw [g2] at c; rw [g3] at d
        obtain rfl := Option.some.inj a
        obtain rfl := Option.some.inj b
        obtain rfl := Option.some.inj c
        obtain rfl := Option.some.inj d
        exact q
    cases hkn : s.fKnown[k]
    all_goals
      rw [hkn] at g2 no nx
      simp (maxSteps := 1000000) -dsimp -implicitDefEqProofs only [go_sem, ↓reduceIte, keep44, ib44, mk44, Tryz.f44, g1, g2, g3, g4, DPart.c_eq]
      repeat' (with_reducible first | intro _ | refine And.intro ?_ ?_)
      all_goals try omega
    all_goals (first | refine HFnF.mk (l00In s.fStamps[k] 0 50) ?_ | refine CallSF.mk (l00In s.fStamps[k] 0 50) ?_)
    all_goals simp (maxSteps := 1000000) -dsimp -implicitDefEqProofs only [go_sem, ↓reduceIte, keep44, ib44, mk44, Tryz.f44, g1, g2, g3, g4, DPart.c_eq]
    all_goals repeat' (with_reducible first | intro _ | refine And.intro ?_ ?_)
    all_goals try omega
    all_goals try (rename_i q; exact no fun z => q z.1)
    all_goals (first | refine HFnF.mk (l00In s.fOwners[k] (-1) 3) ?_ | refine CallSF.mk (l00In s.fOwners[k] (-1) 3) ?_)
    all_goals simp (maxSteps := 1000000) -dsimp -implicitDefEqProofs only [go_sem, ↓reduceIte, keep44, ib44, mk44, Tryz.f44, g1, g2, g3, g4, DPart.c_eq]
    all_goals repeat' (with_reducible first | intro _ | refine And.intro ?_ ?_)
    all_goals try omega
    all_goals try (rename_i q; exact no fun z => q z.2.1)
    all_goals try (rename_i q; exact no fun z => q (z.2.2.2 rfl).1)
    all_goals try (rename_i q; exact no fun z => q (z.2.2.2 rfl).2.1)
    all_goals try (rename_i q; exact no fun z => q (z.2.2.1 rfl).1)
    all_goals try (rename_i q; exact no fun z => by have := (z.2.2.2 rfl).2.2; rw [this] at q; simp at q)
    · refine ⟨k + 1, ?_⟩
      repeat' (with_reducible refine And.intro ?_ ?_)
      all_goals try (rw [IntWalk.i64_in _ (by omega)]; first | rfl | omega)
      all_goals try omega
      all_goals try (repeat' (with_reducible first | exact Heap.le_refl _ | refine (le_upd (by first | assumption | exact And.right (by assumption) | exact upd_none.2 (by assumption))).2 ?_))
      all_goals try (simp only [DService.c_eq]; done)
      exact nx ⟨by assumption, by assumption, fun z => by simp at z, fun _ => ⟨by assumption, by assumption, (len0 _).1 (by omega)⟩⟩
    · have hq1 : s.fOwners[k] = -1 := by assumption
      first | refine CallSF.mk ((l08Form s.fJob s.fParts[k]).sub (by repeat' (first | exact SubL.nil | refine SubL.cons ?_ ?_ | exact Sub.refl _ | (rw [DExpr.c_eq]; exact Sub.refl _) | exact Sub.ipAt rfl rfl rfl | exact Sub.ip (map_get (by omega)) (by simp) | exact Sub.ipAt (map_get (by omega)) rfl rfl | exact Sub.ip (by simp [*]) (by simp) | exact Sub.ipAt (by simp [*]) (by rfl) (by rfl)))) ?_ | refine HFnF.mk ((l08Form s.fJob s.fParts[k]).sub (by repeat' (first | exact SubL.nil | refine SubL.cons ?_ ?_ | exact Sub.refl _ | (rw [DExpr.c_eq]; exact Sub.refl _) | exact Sub.ipAt rfl rfl rfl | exact Sub.ip (map_get (by omega)) (by simp) | exact Sub.ipAt (map_get (by omega)) rfl rfl | exact Sub.ip (by simp [*]) (by simp) | exact Sub.ipAt (by simp [*]) (by rfl) (by rfl)))) ?_
      simp (maxSteps := 1000000) -dsimp -implicitDefEqProofs only [go_sem, ↓reduceIte, keep44, ib44, mk44, Tryz.f44, g1, g2, g3, g4, DPart.c_eq]
      repeat' (with_reducible first | intro _ | refine And.intro ?_ ?_)
      all_goals try omega
      all_goals try (rename_i q; exact no fun z => q (z.2.2.1 rfl).2)
      refine ⟨k + 1, ?_⟩
      repeat' (with_reducible refine And.intro ?_ ?_)
      all_goals try (rw [IntWalk.i64_in _ (by omega)]; first | rfl | omega)
      all_goals try omega
      all_goals try (repeat' (with_reducible first | exact Heap.le_refl _ | refine (le_upd (by first | assumption | exact And.right (by assumption) | exact upd_none.2 (by assumption))).2 ?_))
      all_goals try (simp only [DService.c_eq]; done)
      exact nx ⟨by assumption, by assumption, fun _ => ⟨hq1, by assumption⟩, fun z => by simp at z⟩
  · have hk' : k = s.fJob.fTerms.length := by omega
    subst hk'
    simp (maxSteps := 1000000) -dsimp -implicitDefEqProofs only [go_sem, ↓reduceIte, keep44, ib44, mk44, Tryz.f44, Int.lt_irrefl, Nat.lt_irrefl]
    exact (decide_eq_true ⟨hjob, ⟨h1, h2, h3, h4⟩, fun j st ow kn p a b c d => hall j st ow kn p (by have := (List.getElem?_eq_some_iff.1 a).1; omega) a b c d⟩).symm
open Go.Proofs
set_option linter.unusedVariables false
set_option linter.unusedSimpArgs false
def keep48 : List Nat := [0, 1, 2, 3, 4, 5, 41, 43, 44, 45, 46, 65, 99]
def ib48 : List Nat := [1]
def mk48 : Marks := fun id => match id with | 9 => ([], (.op 0 (.op 1 (.op 2 (.op 3 (.op 4 (.op 5 (.op 6 (.op 7 (.op 8 (.op 9 (.op 10 (.op 11 (.op 12 (.op 13 (.op 14 (.op 15 (.op 16 (.op 17 (.op 18 (.op 19 (.op 20 (.op 21 (.op 22 (.op 23 (.op 24 (.op 25 (.op 26 (.op 27 (.op 28 (.op 29 (.op 30 (.op 31 (.op 32 (.op 33 .nil)))))))))))))))))))))))))))))))))), []) | _ => ([], .nil, [])
set_option maxRecDepth 100000 in
theorem ValidService (s : DService) (hps : s.fJob.fProgram.s ≤ 4194304) : Fn0 Tryz.prog 48 [.agg s.c] (.bool (decide s.ok)) := by
  have hj := ValidJob s.fJob hps
  simp only [DService.c_eq, DJob.c_eq] at hj ⊢
  refine fn0F 101 keep48 ib48 mk48 mix Tryz.func48 rfl (by kernel_rfl) (by simp) fun h => ?_
  simp (maxSteps := 1000000) -dsimp -implicitDefEqProofs only [go_sem, ↓reduceIte, keep48, ib48, mk48, Tryz.f48]
  intro _
  first | refine HFnF.mk (hj) ?_ | refine CallSF.mk (hj) ?_ | refine HFnF.mkAt (hj) ?_ | refine CallSF.mk (FnAt.fn0 (hj)) ?_
  simp (maxSteps := 1000000) -dsimp -implicitDefEqProofs only [go_sem, ↓reduceIte, keep48, ib48, mk48, Tryz.f48]
  repeat' (with_reducible first | intro _ | refine And.intro ?_ ?_)
  all_goals try (exact (decide_eq_false fun z => by have := z.2.1; omega).symm)
  all_goals try (rename_i hn; exact (decide_eq_false fun z => hn z.1).symm)
  have hjob : s.fJob.ok := by assumption
  have h1 : s.fStamps.length = s.fJob.fTerms.length := by assumption
  have h2 : s.fKnown.length = s.fJob.fTerms.length := by assumption
  have h3 : s.fParts.length = s.fJob.fTerms.length := by assumption
  have h4 : s.fOwners.length = s.fJob.fTerms.length := by assumption
  refine loopF (keep := keep48) (ib := ib48) (mk := mk48) mix (by kernel_rfl) (fun k : Nat => [(1, .ip 9 [s.c] 0 0), (43, sls 1 (fun b => [.bool b]) s.fKnown), (44, I s.fJob.fTerms.length), (45, I k)]) (fun _ => h) (fun k => k ≤ s.fJob.fTerms.length ∧ ∀ (j : Nat) (st ow : Int) (kn : Bool) (p : DPart), j < k → s.fStamps[j]? = some st → s.fOwners[j]? = some ow → s.fKnown[j]? = some kn → s.fParts[j]? = some p → svcAt s.fJob st ow kn p) (fun k => s.fJob.fTerms.length - k) 0 (by refine ⟨by simp [SatL, tget, DService.c_eq, h2], by simp [Heap.le_refl], by simp⟩) ?_
  intro k ⟨hk, hall⟩
  simp only [DService.c_eq]
  rcases Nat.lt_or_ge k s.fJob.fTerms.length with hlt | hge
  · have k1 : k < s.fStamps.length := by omega
    have k2 : k < s.fKnown.length := by omega
    have k3 : k < s.fParts.length := by omega
    have k4 : k < s.fOwners.length := by omega
    have g1 : s.fStamps[k]? = some s.fStamps[k] := List.getElem?_eq_getElem k1
    have g2 : s.fKnown[k]? = some s.fKnown[k] := List.getElem?_eq_getElem k2
    have g3 : s.fParts[k]? = some s.fParts[k] := List.getElem?_eq_getElem k3
    have g4 : s.fOwners[k]? = some s.fOwners[k] := List.getElem?_eq_getElem k4
    have no (q : ¬ svcAt s.fJob s.fStamps[k] s.fOwners[k] s.fKnown[k] s.fParts[k]) : false = decide s.ok := (decide_eq_false fun z => q (z.2.2 k _ _ _ _ g1 g4 g2 g3)).symm
    have nx (q : svcAt s.fJob s.fStamps[k] s.fOwners[k] s.fKnown[k] s.fParts[k]) : ∀ (j : Nat) (st ow : Int) (kn : Bool) (p : DPart), j < k + 1 → s.fStamps[j]? = some st → s.fOwners[j]? = some ow → s.fKnown[j]? = some kn → s.fParts[j]? = some p → svcAt s.fJob st ow kn p := by
      intro j st ow kn p hj a b c d
      rcases Nat.lt_succ_iff_lt_or_eq.1 hj with hj | rfl
      · exact hall j st ow kn p hj a b c d
      · rw [g1] at a; rw [g4] at b; rw [g2] at c; rw [g3] at d
        obtain rfl := Option.some.inj a
        obtain rfl := Option.some.inj b
        obtain rfl := Option.some.inj c
        obtain rfl := Option.some.inj d
        exact q
    cases hkn : s.fKnown[k]
    all_goals
      rw [hkn] at g2 no nx
      simp (maxSteps := 1000000) -dsimp -implicitDefEqProofs only [go_sem, ↓reduceIte, keep48, ib48, mk48, Tryz.f48, g1, g2, g3, g4, DPart.c_eq]
      repeat' (with_reducible first | intro _ | refine And.intro ?_ ?_)
      all_goals try omega
    all_goals (first | refine HFnF.mk (within s.fStamps[k] 0 50) ?_ | refine CallSF.mk (within s.fStamps[k] 0 50) ?_)
    all_goals simp (maxSteps := 1000000) -dsimp -implicitDefEqProofs only [go_sem, ↓reduceIte, keep48, ib48, mk48, Tryz.f48, g1, g2, g3, g4, DPart.c_eq]
    all_goals repeat' (with_reducible first | intro _ | refine And.intro ?_ ?_)
    all_goals try omega
    all_goals try (rename_i q; exact no fun z => q z.1)
    all_goals (first | refine HFnF.mk (within s.fOwners[k] (-1) 3) ?_ | refine CallSF.mk (within s.fOwners[k] (-1) 3) ?_)
    all_goals simp (maxSteps := 1000000) -dsimp -implicitDefEqProofs only [go_sem, ↓reduceIte, keep48, ib48, mk48, Tryz.f48, g1, g2, g3, g4, DPart.c_eq]
    all_goals repeat' (with_reducible first | intro _ | refine And.intro ?_ ?_)
    all_goals try omega
    all_goals try (rename_i q; exact no fun z => q z.2.1)
    · have hsp := (samePart s.fParts[k] ⟨0, 0, []⟩).sub (.cons (.refl _) (.cons (Sub.agg (.cons (.refl (I 0)) (.cons (.refl (I 0)) (.cons (Sub.nil 1 false) .nil)))) .nil))
      simp only [DPart.c_eq] at hsp
      first | refine HFnF.mk (hsp) ?_ | refine CallSF.mk (hsp) ?_ | refine HFnF.mkAt (hsp) ?_ | refine CallSF.mk (FnAt.fn0 (hsp)) ?_
      simp (maxSteps := 1000000) -dsimp -implicitDefEqProofs only [go_sem, ↓reduceIte, keep48, ib48, mk48, Tryz.f48]
      repeat' (with_reducible first | intro _ | refine And.intro ?_ ?_)
      · rename_i q
        exact no fun z => q (DPart.eq_iff.2 (z.2.2.2 rfl))
      · rename_i q
        have := DPart.eq_iff.1 q
        refine ⟨k + 1, ?_⟩
        repeat' (with_reducible refine And.intro ?_ ?_)
        all_goals try (rw [IntWalk.i64_in _ (by omega)]; first | rfl | omega)
        all_goals try omega
        all_goals try (repeat' (with_reducible first | exact Heap.le_refl _ | refine (le_upd (by first | assumption | exact And.right (by assumption) | exact upd_none.2 (by assumption))).2 ?_))
        all_goals try (simp only [DService.c_eq]; done)
        exact nx ⟨by assumption, by assumption, fun z => by simp at z, fun _ => this⟩
    · have hip := isPart s.fJob s.fParts[k]
      simp only [DPart.c_eq, DJob.c_eq] at hip
      first | refine HFnF.mk (hip) ?_ | refine CallSF.mk (hip) ?_ | refine HFnF.mkAt (hip) ?_ | refine CallSF.mk (FnAt.fn0 (hip)) ?_
      simp (maxSteps := 1000000) -dsimp -implicitDefEqProofs only [go_sem, ↓reduceIte, keep48, ib48, mk48, Tryz.f48, g1, g2, g3, g4, DPart.c_eq]
      repeat' (with_reducible first | intro _ | refine And.intro ?_ ?_)
      all_goals try omega
      all_goals try (rename_i q; exact no fun z => q (z.2.2.1 rfl).2)
      all_goals try (rename_i q; exact no fun z => q (z.2.2.1 rfl).1)
      refine ⟨k + 1, ?_⟩
      repeat' (with_reducible refine And.intro ?_ ?_)
      all_goals try (rw [IntWalk.i64_in _ (by omega)]; first | rfl | omega)
      all_goals try omega
      all_goals try (repeat' (with_reducible first | exact Heap.le_refl _ | refine (le_upd (by first | assumption | exact And.right (by assumption) | exact upd_none.2 (by assumption))).2 ?_))
      all_goals try (simp only [DService.c_eq]; done)
      exact nx ⟨by assumption, by assumption, fun _ => ⟨by assumption, by assumption⟩, fun z => by simp at z⟩
  · have hk' : k = s.fJob.fTerms.length := by omega
    subst hk'
    simp (maxSteps := 1000000) -dsimp -implicitDefEqProofs only [go_sem, ↓reduceIte, keep48, ib48, mk48, Tryz.f48, Int.lt_irrefl, Nat.lt_irrefl]
    exact (decide_eq_true ⟨hjob, ⟨h1, h2, h3, h4⟩, fun j st ow kn p a b c d => hall j st ow kn p (by have := (List.getElem?_eq_some_iff.1 a).1; omega) a b c d⟩).symm
open Go.Proofs
set_option linter.unusedVariables false
set_option linter.unusedSimpArgs false
def keep88 : List Nat := [0, 2, 4]
def ib88 : List Nat := [5]
def mk88 : Marks := fun _ => ([], .nil, [])
set_option maxRecDepth 100000 in
theorem cloneI (l : List Int) (hl : l.length ≤ 1048576) : FnN Tryz.prog 88 [sls 1 (fun n => [I n]) l] (QS (OS (oP I) 1 l)) := by
  refine fnNF 8 keep88 ib88 mk88 mix Tryz.func88 rfl (by kernel_rfl) (by simp) fun h => ?_
  simp (maxSteps := 1000000) -dsimp -implicitDefEqProofs only [go_sem, ↓reduceIte, keep88, ib88, mk88, Tryz.f88]
  repeat' (with_reducible first | intro _ | refine And.intro ?_ ?_)
  all_goals try (first | exact own_nil (by assumption) | exact own_emp (by assumption) | exact own_row (by assumption) | omega)
def keep120 : List Nat := [0, 2, 4]
def ib120 : List Nat := [5]
def mk120 : Marks := fun _ => ([], .nil, [])
set_option maxRecDepth 100000 in
theorem cloneB (l : List Bool) (hl : l.length ≤ 1048576) : FnN Tryz.prog 120 [sls 1 (fun n => [.bool n]) l] (QS (OS (oP .bool) 1 l)) := by
  refine fnNF 8 keep120 ib120 mk120 mix Tryz.func120 rfl (by kernel_rfl) (by simp) fun h => ?_
  simp (maxSteps := 1000000) -dsimp -implicitDefEqProofs only [go_sem, ↓reduceIte, keep120, ib120, mk120, Tryz.f120]
  repeat' (with_reducible first | intro _ | refine And.intro ?_ ?_)
  all_goals try (first | exact own_nil (by assumption) | exact own_emp (by assumption) | exact own_row (by assumption) | omega)
def keep109 : List Nat := [0, 2]
def ib109 : List Nat := [3]
def mk109 : Marks := fun _ => ([], .nil, [])
set_option maxRecDepth 100000 in
theorem l00Own (l : List Int) (hl : l.length ≤ 1048576) : FnN Tryz.prog 109 [sls 1 (fun n => [I n]) l] (QS (OS (oP I) 1 l)) := by
  refine fnNF 6 keep109 ib109 mk109 mix Tryz.func109 rfl (by kernel_rfl) (by simp) fun h => ?_
  simp (maxSteps := 1000000) -dsimp -implicitDefEqProofs only [go_sem, ↓reduceIte, keep109, ib109, mk109, Tryz.f109]
  repeat' (with_reducible first | intro _ | refine And.intro ?_ ?_)
  all_goals try (first | exact own_nil (by assumption) | exact own_emp (by assumption) | exact own_row (by assumption) | omega)
def keep137 : List Nat := [0, 1, 2, 3, 5, 9, 10, 11, 12]
def ib137 : List Nat := [19]
def mk137 : Marks := fun id => match id with | 6 => ([1, 2, 3, 5, 7], (.op 0 (.op 1 (.op 2 (.op 3 (.op 4 (.op 5 (.op 6 (.op 7 .nil)))))))), [(1, 3)]) | _ => ([], .nil, [])
set_option maxRecDepth 100000 in
theorem cloneExpr_step (x : DExpr) (hs : x.s ≤ 1048576) (hk : ∀ y ∈ x.fKids, FnN Tryz.prog 137 [.agg y.c] (QA y.o)) : FnN Tryz.prog 137 [.agg x.c] (QA x.o) := by
  have hs' := x.s_eq
  rw [szs_eq] at hs'
  simp only [DExpr.c_eq]
  refine fnNF 24 keep137 ib137 mk137 mix Tryz.func137 rfl (by kernel_rfl) (by simp) fun h => ?_
  try simp (maxSteps := 1000000) -dsimp -implicitDefEqProofs only [go_sem, ↓reduceIte, keep137, ib137, mk137, Tryz.f137, upd_upd, upd_ne]
  intro n1 qn1
  have z_n1 := qn1
  intro n2 qn2
  have dn2_n1 : ¬ n2 = n1 := qn2.1
  have en2_n1 : (n2 = n1) = False := eq_false dn2_n1
  have fn2_n1 : (n1 = n2) = False := eq_false (fun e => dn2_n1 e.symm)
  have dn1_n2 : ¬ n1 = n2 := fun e => dn2_n1 e.symm
  have z_n2 := qn2.2
  try simp (maxSteps := 1000000) -dsimp -implicitDefEqProofs only [go_sem, ↓reduceIte, keep137, ib137, mk137, Tryz.f137, upd_upd, upd_ne, en2_n1, fn2_n1]
  try (with_reducible intro _)
  refine loopF (keep := keep137) (ib := ib137) (mk := mk137) mix (by kernel_rfl) (fun s : Nat × List (List OV) × Heap × Option Nat => [(1, .op n1 5 0 0), (2, .op n2 5 0 0), (9, sls 5 DExpr.c x.fKids), (10, I x.fKids.length), (11, (I s.1))]) (fun s => (upd (upd (oheap s.2.2.1 (.row 5 (OV.cells s.2.1)) s.2.2.2) n1 (.row 5 [[.v (I x.fKind), .v (I x.fNum), .v (I x.fPick), .v (I x.fCount), .v (onil 5 s.2.1.length s.2.2.2)]])) n2 (.row 5 [[.v (.int .i64 0), .v (.int .i64 0), .v (.int .i64 0), .v (.int .i64 0), .v (.nilsl)]]))) (fun s => s.1 ≤ x.fKids.length ∧ OR DExpr.o (x.fKids.take s.1) s.2.1 ∧ New h (OV.rowsRows s.2.1) s.2.2.1 ∧ s.2.2.1 n1 = none ∧ s.2.2.1 n2 = none ∧ gside s.2.2.1 s.2.1 s.2.2.2 ∧ ∀ n : Nat, s.2.2.2 = some n → n ≠ n1 ∧ n ≠ n2) (fun s => x.fKids.length - s.1) (0, [], h, none) ?_ ?_
  · exact ⟨by simp [SatL, tget], (by intro q_; simp only [upd_get, oheap_none, oheap_some, onil_none, onil_some, take_cells, cells_snoc, cells_one, cells_nil, cellv_cons, cellv_nil, OV.val_v, List.nil_append, List.length_append, List.length_cons, List.length_nil, Nat.zero_add]; grind), Nat.zero_le _, trivial, New.nil _, z_n1, z_n2, rfl, by simp⟩
  rintro ⟨k, es, g_, o_⟩ ⟨hkk, hor, hnew, z_n1, z_n2, hos, hon⟩
  simp only at hkk hor hnew z_n1 z_n2 hos hon ⊢
  have hlen : es.length = k := by have := hor.length; simp at this; omega
  rcases Nat.lt_or_ge k x.fKids.length with hlt | hge
  · have ea : x.fKids[k]? = some x.fKids[k] := List.getElem?_eq_getElem hlt
    have hx := hk x.fKids[k] (List.getElem_mem hlt)
    simp only [DExpr.c_eq] at hx
    cases o_ with
    | none =>
      rw [gside_none] at hos
      subst hos
      try simp (maxSteps := 1000000) -dsimp -implicitDefEqProofs only [go_sem, ↓reduceIte, keep137, ib137, mk137, Tryz.f137, upd_upd, upd_ne, en2_n1, fn2_n1, ea, hlt, oheap_none, onil_none, DExpr.c_eq]
      intro n5 qn5
      have dn5_n2 : ¬ n5 = n2 := qn5.1
      have en5_n2 : (n5 = n2) = False := eq_false dn5_n2
      have fn5_n2 : (n2 = n5) = False := eq_false (fun e => dn5_n2 e.symm)
      have dn2_n5 : ¬ n2 = n5 := fun e => dn5_n2 e.symm
      have dn5_n1 : ¬ n5 = n1 := qn5.2.1
      have en5_n1 : (n5 = n1) = False := eq_false dn5_n1
      have fn5_n1 : (n1 = n5) = False := eq_false (fun e => dn5_n1 e.symm)
      have dn1_n5 : ¬ n1 = n5 := fun e => dn5_n1 e.symm
      have z_n5 := qn5.2.2
      try simp (maxSteps := 1000000) -dsimp -implicitDefEqProofs only [go_sem, ↓reduceIte, keep137, ib137, mk137, Tryz.f137, upd_upd, upd_ne, en2_n1, fn2_n1, en5_n2, fn5_n2, en5_n1, fn5_n1, ea, hlt, oheap_none, onil_none, DExpr.c_eq]
      refine HFnF.wn3 (hx) z_n1 ⟨dn2_n1, z_n2⟩ ⟨dn5_n2, dn5_n1, z_n5⟩ ?_
      rintro r l_ gb ⟨e_b, oeb, rfl, rfl⟩ wb z_n1 z_n2 z_n5
      have oob := oeb
      rw [DExpr.o_iff] at oob
      obtain ⟨yb_4, rfl, ob_4⟩ := oob
      try simp (maxSteps := 1000000) -dsimp -implicitDefEqProofs only [go_sem, ↓reduceIte, keep137, ib137, mk137, Tryz.f137, upd_upd, upd_ne, en2_n1, fn2_n1, en5_n2, fn5_n2, en5_n1, fn5_n1, ea, hlt, oheap_none, onil_none, ob_4.flat, ob_4.one, OV.map_val, OV.map_val_nil, OV.val_v]
      repeat' (with_reducible first | refine And.intro (by first | omega | decide | rfl | trivial | exact Nat.le_of_eq (reps_len _ _).symm | exact Nat.le_of_eq (cells_len _).symm) ?_)
      intro m qm
      have dm_n5 : ¬ m = n5 := qm.1
      have em_n5 : (m = n5) = False := eq_false dm_n5
      have fm_n5 : (n5 = m) = False := eq_false (fun e => dm_n5 e.symm)
      have dn5_m : ¬ n5 = m := fun e => dm_n5 e.symm
      have dm_n2 : ¬ m = n2 := qm.2.1
      have em_n2 : (m = n2) = False := eq_false dm_n2
      have fm_n2 : (n2 = m) = False := eq_false (fun e => dm_n2 e.symm)
      have dn2_m : ¬ n2 = m := fun e => dm_n2 e.symm
      have dm_n1 : ¬ m = n1 := qm.2.2.1
      have em_n1 : (m = n1) = False := eq_false dm_n1
      have fm_n1 : (n1 = m) = False := eq_false (fun e => dm_n1 e.symm)
      have dn1_m : ¬ n1 = m := fun e => dm_n1 e.symm
      have z_m := qm.2.2.2
      try simp (maxSteps := 1000000) -dsimp -implicitDefEqProofs only [go_sem, ↓reduceIte, keep137, ib137, mk137, Tryz.f137, upd_upd, upd_ne, en2_n1, fn2_n1, en5_n2, fn5_n2, en5_n1, fn5_n1, em_n5, fm_n5, em_n2, fm_n2, em_n1, fm_n1, ea, hlt, oheap_none, onil_none, ob_4.flat, ob_4.one, OV.map_val, OV.map_val_nil, OV.val_v]
      refine ⟨(k + 1, ([] : List (List OV)) ++ [[.v (.int .i64 x.fKids[k].fKind), .v (.int .i64 x.fKids[k].fNum), .v (.int .i64 x.fKids[k].fPick), .v (.int .i64 x.fKids[k].fCount), yb_4]], gb, some m), ?_⟩
      simp only
      refine ⟨?_, (by intro q_; simp only [upd_get, oheap_none, oheap_some, onil_none, onil_some, take_cells, cells_snoc, cells_one, cells_nil, cellv_cons, cellv_nil, OV.val_v, List.nil_append, List.length_append, List.length_cons, List.length_nil, Nat.zero_add]; grind), ⟨by omega, OR.snoc hor hlt oeb, hnew.snoc wb, z_n1, z_n2, z_m, (fun n_ e_ => by obtain rfl := Option.some.inj e_; exact ⟨dm_n1, dm_n2⟩)⟩, by omega⟩
      all_goals (repeat' (with_reducible refine And.intro ?_ ?_))
      all_goals first | rfl | trivial | (rw [IntWalk.i64_in _ (by omega)]; omega)
    | some n =>
      rw [gside_some] at hos
      have z_n := hos
      have hn := hon n rfl
      have dn_n1 : ¬ n = n1 := hn.1
      have en_n1 : (n = n1) = False := eq_false dn_n1
      have fn_n1 : (n1 = n) = False := eq_false (fun e => dn_n1 e.symm)
      have dn1_n : ¬ n1 = n := fun e => dn_n1 e.symm
      have dn_n2 : ¬ n = n2 := hn.2
      have en_n2 : (n = n2) = False := eq_false dn_n2
      have fn_n2 : (n2 = n) = False := eq_false (fun e => dn_n2 e.symm)
      have dn2_n : ¬ n2 = n := fun e => dn_n2 e.symm
      try simp (maxSteps := 1000000) -dsimp -implicitDefEqProofs only [go_sem, ↓reduceIte, keep137, ib137, mk137, Tryz.f137, upd_upd, upd_ne, en2_n1, fn2_n1, en_n1, fn_n1, en_n2, fn_n2, ea, hlt, oheap_some, onil_some, DExpr.c_eq]
      intro n5 qn5
      have dn5_n2 : ¬ n5 = n2 := qn5.1
      have en5_n2 : (n5 = n2) = False := eq_false dn5_n2
      have fn5_n2 : (n2 = n5) = False := eq_false (fun e => dn5_n2 e.symm)
      have dn2_n5 : ¬ n2 = n5 := fun e => dn5_n2 e.symm
      have dn5_n1 : ¬ n5 = n1 := qn5.2.1
      have en5_n1 : (n5 = n1) = False := eq_false dn5_n1
      have fn5_n1 : (n1 = n5) = False := eq_false (fun e => dn5_n1 e.symm)
      have dn1_n5 : ¬ n1 = n5 := fun e => dn5_n1 e.symm
      have dn5_n : ¬ n5 = n := qn5.2.2.1
      have en5_n : (n5 = n) = False := eq_false dn5_n
      have fn5_n : (n = n5) = False := eq_false (fun e => dn5_n e.symm)
      have dn_n5 : ¬ n = n5 := fun e => dn5_n e.symm
      have z_n5 := qn5.2.2.2
      try simp (maxSteps := 1000000) -dsimp -implicitDefEqProofs only [go_sem, ↓reduceIte, keep137, ib137, mk137, Tryz.f137, upd_upd, upd_ne, en2_n1, fn2_n1, en_n1, fn_n1, en_n2, fn_n2, en5_n2, fn5_n2, en5_n1, fn5_n1, en5_n, fn5_n, ea, hlt, oheap_some, onil_some, DExpr.c_eq]
      refine HFnF.wn4 (hx) z_n ⟨dn1_n, z_n1⟩ ⟨dn2_n1, dn2_n, z_n2⟩ ⟨dn5_n2, dn5_n1, dn5_n, z_n5⟩ ?_
      rintro r l_ gb ⟨e_b, oeb, rfl, rfl⟩ wb z_n z_n1 z_n2 z_n5
      have oob := oeb
      rw [DExpr.o_iff] at oob
      obtain ⟨yb_4, rfl, ob_4⟩ := oob
      try simp (maxSteps := 1000000) -dsimp -implicitDefEqProofs only [go_sem, ↓reduceIte, keep137, ib137, mk137, Tryz.f137, upd_upd, upd_ne, en2_n1, fn2_n1, en_n1, fn_n1, en_n2, fn_n2, en5_n2, fn5_n2, en5_n1, fn5_n1, en5_n, fn5_n, ea, hlt, oheap_some, onil_some, ob_4.flat, ob_4.one, OV.map_val, OV.map_val_nil, OV.val_v]
      repeat' (with_reducible first | refine And.intro (by first | omega | decide | rfl | trivial | exact Nat.le_of_eq (reps_len _ _).symm | exact Nat.le_of_eq (cells_len _).symm) ?_)
      intro m qm
      have dm_n5 : ¬ m = n5 := qm.1
      have em_n5 : (m = n5) = False := eq_false dm_n5
      have fm_n5 : (n5 = m) = False := eq_false (fun e => dm_n5 e.symm)
      have dn5_m : ¬ n5 = m := fun e => dm_n5 e.symm
      have dm_n2 : ¬ m = n2 := qm.2.1
      have em_n2 : (m = n2) = False := eq_false dm_n2
      have fm_n2 : (n2 = m) = False := eq_false (fun e => dm_n2 e.symm)
      have dn2_m : ¬ n2 = m := fun e => dm_n2 e.symm
      have dm_n1 : ¬ m = n1 := qm.2.2.1
      have em_n1 : (m = n1) = False := eq_false dm_n1
      have fm_n1 : (n1 = m) = False := eq_false (fun e => dm_n1 e.symm)
      have dn1_m : ¬ n1 = m := fun e => dm_n1 e.symm
      have dm_n : ¬ m = n := qm.2.2.2.1
      have em_n : (m = n) = False := eq_false dm_n
      have fm_n : (n = m) = False := eq_false (fun e => dm_n e.symm)
      have dn_m : ¬ n = m := fun e => dm_n e.symm
      have z_m := qm.2.2.2.2
      try simp (maxSteps := 1000000) -dsimp -implicitDefEqProofs only [go_sem, ↓reduceIte, keep137, ib137, mk137, Tryz.f137, upd_upd, upd_ne, en2_n1, fn2_n1, en_n1, fn_n1, en_n2, fn_n2, en5_n2, fn5_n2, en5_n1, fn5_n1, en5_n, fn5_n, em_n5, fm_n5, em_n2, fm_n2, em_n1, fm_n1, em_n, fm_n, ea, hlt, oheap_some, onil_some, ob_4.flat, ob_4.one, OV.map_val, OV.map_val_nil, OV.val_v]
      refine ⟨(k + 1, es ++ [[.v (.int .i64 x.fKids[k].fKind), .v (.int .i64 x.fKids[k].fNum), .v (.int .i64 x.fKids[k].fPick), .v (.int .i64 x.fKids[k].fCount), yb_4]], gb, some m), ?_⟩
      simp only
      refine ⟨?_, (by intro q_; simp only [upd_get, oheap_none, oheap_some, onil_none, onil_some, take_cells, cells_snoc, cells_one, cells_nil, cellv_cons, cellv_nil, OV.val_v, List.nil_append, List.length_append, List.length_cons, List.length_nil, Nat.zero_add]; grind), ⟨by omega, OR.snoc hor hlt oeb, hnew.snoc wb, z_n1, z_n2, z_m, (fun n_ e_ => by obtain rfl := Option.some.inj e_; exact ⟨dm_n1, dm_n2⟩)⟩, by omega⟩
      all_goals (repeat' (with_reducible refine And.intro ?_ ?_))
      all_goals first | rfl | trivial | (rw [IntWalk.i64_in _ (by omega)]; omega)
  · have hk2 : k = x.fKids.length := by omega
    subst hk2
    rw [List.take_length] at hor
    have zz_n1 : oheap g_ (.row 5 (OV.cells es)) o_ n1 = none := oheap_at z_n1 fun n_ e_ => (hon n_ e_).1
    have zz_n2 : oheap g_ (.row 5 (OV.cells es)) o_ n2 = none := oheap_at z_n2 fun n_ e_ => (hon n_ e_).2
    try simp (maxSteps := 1000000) -dsimp -implicitDefEqProofs only [go_sem, ↓reduceIte, keep137, ib137, mk137, Tryz.f137, upd_upd, upd_ne, en2_n1, fn2_n1, onil_flat, onil_cells, Nat.lt_irrefl]
    try (with_reducible intro _)
    refine ⟨_, (oheap g_ (.row 5 (OV.cells es)) o_), _, Shift.of (Sub.agg (SubL.cons (Sub.refl _) (SubL.cons (Sub.refl _) (SubL.cons (Sub.refl _) (SubL.cons (Sub.refl _) (SubL.cons gov_sub SubL.nil)))))) (by intro q_; simp only [upd_get, oheap_none, oheap_some, onil_none, onil_some, take_cells, cells_snoc, cells_one, cells_nil, cellv_cons, cellv_nil, OV.val_v, List.nil_append, List.length_append, List.length_cons, List.length_nil, Nat.zero_add]; grind), ⟨[.v (I x.fKind), .v (I x.fNum), .v (I x.fPick), .v (I x.fCount), (gov 5 es o_)], ?_, rfl, rfl⟩, ?_⟩
    · rw [DExpr.o_iff]; exact ⟨(gov 5 es o_), rfl, gov_os hor hos⟩
    · have hq := (gov_new (sz := 5) hnew hos)
      simpa only [OV.row_cons, OV.row_nil, OV.v_rows, List.nil_append, List.append_nil, List.append_assoc] using hq
theorem cloneExpr (x : DExpr) (hs : x.s ≤ 1048576) : FnN Tryz.prog 137 [.agg x.c] (QA x.o) :=
  cloneExpr_step x hs fun y hy => cloneExpr y (by have := sum_mem DExpr.s hy; rw [x.s_eq, szs_eq] at hs; omega)
termination_by SizeOf.sizeOf x
decreasing_by exact DExpr.kid_lt hy

def keep133 : List Nat := [0, 2, 3, 4, 28]
def ib133 : List Nat := [40]
def mk133 : Marks := fun id => match id with | 1 => ([17, 18], (.op 0 (.op 1 (.op 2 (.op 3 (.op 4 (.op 5 (.op 6 (.op 7 (.op 8 (.op 9 (.op 10 (.op 11 (.op 12 (.op 13 (.op 14 (.op 15 (.op 16 (.op 17 (.op 18 .nil))))))))))))))))))), []) | 5 => ([1, 8, 10, 12], (.op 0 (.op 2 (.op 3 (.op 4 (.op 5 (.op 6 (.op 7 (.op 1 (.op 8 (.op 9 (.op 10 (.op 11 (.op 12 .nil))))))))))))), [(1, 8)]) | _ => ([], .nil, [])
set_option maxRecDepth 100000 in
theorem l02Own_step (x : DExpr) (hs : x.s ≤ 1048576) (hk : ∀ y ∈ x.fKids, FnN Tryz.prog 133 [.ip 5 [y.c] 0 0] (QA y.o)) : FnN Tryz.prog 133 [.ip 5 [x.c] 0 0] (QA x.o) := by
  have hs' := x.s_eq
  rw [szs_eq] at hs'
  simp only [DExpr.c_eq]
  refine fnNF 44 keep133 ib133 mk133 mix Tryz.func133 rfl (by kernel_rfl) (by simp) fun h => ?_
  try simp (maxSteps := 1000000) -dsimp -implicitDefEqProofs only [go_sem, ↓reduceIte, keep133, ib133, mk133, Tryz.f133, upd_upd, upd_ne]
  intro n1 qn1
  have z_n1 := qn1
  intro n2 qn2
  have dn2_n1 : ¬ n2 = n1 := qn2.1
  have en2_n1 : (n2 = n1) = False := eq_false dn2_n1
  have fn2_n1 : (n1 = n2) = False := eq_false (fun e => dn2_n1 e.symm)
  have dn1_n2 : ¬ n1 = n2 := fun e => dn2_n1 e.symm
  have z_n2 := qn2.2
  try simp (maxSteps := 1000000) -dsimp -implicitDefEqProofs only [go_sem, ↓reduceIte, keep133, ib133, mk133, Tryz.f133, upd_upd, upd_ne, en2_n1, fn2_n1]
  try (with_reducible intro _)
  refine loopF (keep := keep133) (ib := ib133) (mk := mk133) mix (by kernel_rfl) (fun s : Nat × List (List OV) × Heap × Option Nat => [(0, .ip 5 [[I x.fKind, I x.fNum, I x.fPick, I x.fCount, sls 5 DExpr.c x.fKids]] 0 0), (2, .op n1 5 0 0), (3, .op n2 5 0 0), (4, (I s.1))]) (fun s => (upd (upd (oheap s.2.2.1 (.row 5 (OV.cells s.2.1)) s.2.2.2) n1 (.row 5 [[.v (.int .i64 0), .v (.int .i64 0), .v (.int .i64 0), .v (.int .i64 0), .v (.nilsl)]])) n2 (.row 5 [[.v (I x.fKind), .v (I x.fNum), .v (I x.fPick), .v (I x.fCount), .v (onil 5 s.2.1.length s.2.2.2)]]))) (fun s => s.1 ≤ x.fKids.length ∧ OR DExpr.o (x.fKids.take s.1) s.2.1 ∧ New h (OV.rowsRows s.2.1) s.2.2.1 ∧ s.2.2.1 n1 = none ∧ s.2.2.1 n2 = none ∧ gside s.2.2.1 s.2.1 s.2.2.2 ∧ ∀ n : Nat, s.2.2.2 = some n → n ≠ n1 ∧ n ≠ n2) (fun s => x.fKids.length - s.1) (0, [], h, none) ?_ ?_
  · exact ⟨by simp [SatL, tget], (by intro q_; simp only [upd_get, oheap_none, oheap_some, onil_none, onil_some, take_cells, cells_snoc, cells_one, cells_nil, cellv_cons, cellv_nil, OV.val_v, List.nil_append, List.length_append, List.length_cons, List.length_nil, Nat.zero_add]; grind), Nat.zero_le _, trivial, New.nil _, z_n1, z_n2, rfl, by simp⟩
  rintro ⟨k, es, g_, o_⟩ ⟨hkk, hor, hnew, z_n1, z_n2, hos, hon⟩
  simp only at hkk hor hnew z_n1 z_n2 hos hon ⊢
  have hlen : es.length = k := by have := hor.length; simp at this; omega
  rcases Nat.lt_or_ge k x.fKids.length with hlt | hge
  · have ea : x.fKids[k]? = some x.fKids[k] := List.getElem?_eq_getElem hlt
    have hx := hk x.fKids[k] (List.getElem_mem hlt)
    cases o_ with
    | none =>
      rw [gside_none] at hos
      subst hos
      try simp (maxSteps := 1000000) -dsimp -implicitDefEqProofs only [go_sem, ↓reduceIte, keep133, ib133, mk133, Tryz.f133, upd_upd, upd_ne, en2_n1, fn2_n1, ea, hlt, oheap_none, onil_none, DExpr.c_eq]
      try (with_reducible intro _)
      refine HFnF.wn2 (FnN.sub (by repeat' (first | exact SubL.nil | refine SubL.cons ?_ ?_ | exact Sub.refl _ | (rw [DExpr.c_eq]; exact Sub.refl _) | exact Sub.ipAt rfl rfl rfl | exact Sub.ip (map_get (by omega)) (by simp) | exact Sub.ipAt (map_get (by omega)) rfl rfl | exact Sub.ip (by simp [*]) (by simp) | exact Sub.ipAt (by simp [*]) (by rfl) (by rfl))) hx) z_n1 ⟨dn2_n1, z_n2⟩ ?_
      rintro r l_ gb ⟨e_b, oeb, rfl, rfl⟩ wb z_n1 z_n2
      have oob := oeb
      rw [DExpr.o_iff] at oob
      obtain ⟨yb_4, rfl, ob_4⟩ := oob
      try simp (maxSteps := 1000000) -dsimp -implicitDefEqProofs only [go_sem, ↓reduceIte, keep133, ib133, mk133, Tryz.f133, upd_upd, upd_ne, en2_n1, fn2_n1, ea, hlt, oheap_none, onil_none, ob_4.flat, ob_4.one, OV.map_val, OV.map_val_nil, OV.val_v]
      repeat' (with_reducible first | refine And.intro (by first | omega | decide | rfl | trivial | exact Nat.le_of_eq (reps_len _ _).symm | exact Nat.le_of_eq (cells_len _).symm) ?_)
      intro m qm
      have dm_n2 : ¬ m = n2 := qm.1
      have em_n2 : (m = n2) = False := eq_false dm_n2
      have fm_n2 : (n2 = m) = False := eq_false (fun e => dm_n2 e.symm)
      have dn2_m : ¬ n2 = m := fun e => dm_n2 e.symm
      have dm_n1 : ¬ m = n1 := qm.2.1
      have em_n1 : (m = n1) = False := eq_false dm_n1
      have fm_n1 : (n1 = m) = False := eq_false (fun e => dm_n1 e.symm)
      have dn1_m : ¬ n1 = m := fun e => dm_n1 e.symm
      have z_m := qm.2.2
      try simp (maxSteps := 1000000) -dsimp -implicitDefEqProofs only [go_sem, ↓reduceIte, keep133, ib133, mk133, Tryz.f133, upd_upd, upd_ne, en2_n1, fn2_n1, em_n2, fm_n2, em_n1, fm_n1, ea, hlt, oheap_none, onil_none, ob_4.flat, ob_4.one, OV.map_val, OV.map_val_nil, OV.val_v]
      refine ⟨(k + 1, ([] : List (List OV)) ++ [[.v (.int .i64 x.fKids[k].fKind), .v (.int .i64 x.fKids[k].fNum), .v (.int .i64 x.fKids[k].fPick), .v (.int .i64 x.fKids[k].fCount), yb_4]], gb, some m), ?_⟩
      simp only
      refine ⟨?_, (by intro q_; simp only [upd_get, oheap_none, oheap_some, onil_none, onil_some, take_cells, cells_snoc, cells_one, cells_nil, cellv_cons, cellv_nil, OV.val_v, List.nil_append, List.length_append, List.length_cons, List.length_nil, Nat.zero_add]; grind), ⟨by omega, OR.snoc hor hlt oeb, hnew.snoc wb, z_n1, z_n2, z_m, (fun n_ e_ => by obtain rfl := Option.some.inj e_; exact ⟨dm_n1, dm_n2⟩)⟩, by omega⟩
      all_goals (repeat' (with_reducible refine And.intro ?_ ?_))
      all_goals first | rfl | trivial | (rw [IntWalk.i64_in _ (by omega)]; omega)
    | some n =>
      rw [gside_some] at hos
      have z_n := hos
      have hn := hon n rfl
      have dn_n1 : ¬ n = n1 := hn.1
      have en_n1 : (n = n1) = False := eq_false dn_n1
      have fn_n1 : (n1 = n) = False := eq_false (fun e => dn_n1 e.symm)
      have dn1_n : ¬ n1 = n := fun e => dn_n1 e.symm
      have dn_n2 : ¬ n = n2 := hn.2
      have en_n2 : (n = n2) = False := eq_false dn_n2
      have fn_n2 : (n2 = n) = False := eq_false (fun e => dn_n2 e.symm)
      have dn2_n : ¬ n2 = n := fun e => dn_n2 e.symm
      try simp (maxSteps := 1000000) -dsimp -implicitDefEqProofs only [go_sem, ↓reduceIte, keep133, ib133, mk133, Tryz.f133, upd_upd, upd_ne, en2_n1, fn2_n1, en_n1, fn_n1, en_n2, fn_n2, ea, hlt, oheap_some, onil_some, DExpr.c_eq]
      try (with_reducible intro _)
      refine HFnF.wn3 (FnN.sub (by repeat' (first | exact SubL.nil | refine SubL.cons ?_ ?_ | exact Sub.refl _ | (rw [DExpr.c_eq]; exact Sub.refl _) | exact Sub.ipAt rfl rfl rfl | exact Sub.ip (map_get (by omega)) (by simp) | exact Sub.ipAt (map_get (by omega)) rfl rfl | exact Sub.ip (by simp [*]) (by simp) | exact Sub.ipAt (by simp [*]) (by rfl) (by rfl))) hx) z_n ⟨dn1_n, z_n1⟩ ⟨dn2_n1, dn2_n, z_n2⟩ ?_
      rintro r l_ gb ⟨e_b, oeb, rfl, rfl⟩ wb z_n z_n1 z_n2
      have oob := oeb
      rw [DExpr.o_iff] at oob
      obtain ⟨yb_4, rfl, ob_4⟩ := oob
      try simp (maxSteps := 1000000) -dsimp -implicitDefEqProofs only [go_sem, ↓reduceIte, keep133, ib133, mk133, Tryz.f133, upd_upd, upd_ne, en2_n1, fn2_n1, en_n1, fn_n1, en_n2, fn_n2, ea, hlt, oheap_some, onil_some, ob_4.flat, ob_4.one, OV.map_val, OV.map_val_nil, OV.val_v]
      repeat' (with_reducible first | refine And.intro (by first | omega | decide | rfl | trivial | exact Nat.le_of_eq (reps_len _ _).symm | exact Nat.le_of_eq (cells_len _).symm) ?_)
      intro m qm
      have dm_n2 : ¬ m = n2 := qm.1
      have em_n2 : (m = n2) = False := eq_false dm_n2
      have fm_n2 : (n2 = m) = False := eq_false (fun e => dm_n2 e.symm)
      have dn2_m : ¬ n2 = m := fun e => dm_n2 e.symm
      have dm_n1 : ¬ m = n1 := qm.2.1
      have em_n1 : (m = n1) = False := eq_false dm_n1
      have fm_n1 : (n1 = m) = False := eq_false (fun e => dm_n1 e.symm)
      have dn1_m : ¬ n1 = m := fun e => dm_n1 e.symm
      have dm_n : ¬ m = n := qm.2.2.1
      have em_n : (m = n) = False := eq_false dm_n
      have fm_n : (n = m) = False := eq_false (fun e => dm_n e.symm)
      have dn_m : ¬ n = m := fun e => dm_n e.symm
      have z_m := qm.2.2.2
      try simp (maxSteps := 1000000) -dsimp -implicitDefEqProofs only [go_sem, ↓reduceIte, keep133, ib133, mk133, Tryz.f133, upd_upd, upd_ne, en2_n1, fn2_n1, en_n1, fn_n1, en_n2, fn_n2, em_n2, fm_n2, em_n1, fm_n1, em_n, fm_n, ea, hlt, oheap_some, onil_some, ob_4.flat, ob_4.one, OV.map_val, OV.map_val_nil, OV.val_v]
      refine ⟨(k + 1, es ++ [[.v (.int .i64 x.fKids[k].fKind), .v (.int .i64 x.fKids[k].fNum), .v (.int .i64 x.fKids[k].fPick), .v (.int .i64 x.fKids[k].fCount), yb_4]], gb, some m), ?_⟩
      simp only
      refine ⟨?_, (by intro q_; simp only [upd_get, oheap_none, oheap_some, onil_none, onil_some, take_cells, cells_snoc, cells_one, cells_nil, cellv_cons, cellv_nil, OV.val_v, List.nil_append, List.length_append, List.length_cons, List.length_nil, Nat.zero_add]; grind), ⟨by omega, OR.snoc hor hlt oeb, hnew.snoc wb, z_n1, z_n2, z_m, (fun n_ e_ => by obtain rfl := Option.some.inj e_; exact ⟨dm_n1, dm_n2⟩)⟩, by omega⟩
      all_goals (repeat' (with_reducible refine And.intro ?_ ?_))
      all_goals first | rfl | trivial | (rw [IntWalk.i64_in _ (by omega)]; omega)
  · have hk2 : k = x.fKids.length := by omega
    subst hk2
    rw [List.take_length] at hor
    have zz_n1 : oheap g_ (.row 5 (OV.cells es)) o_ n1 = none := oheap_at z_n1 fun n_ e_ => (hon n_ e_).1
    have zz_n2 : oheap g_ (.row 5 (OV.cells es)) o_ n2 = none := oheap_at z_n2 fun n_ e_ => (hon n_ e_).2
    try simp (maxSteps := 1000000) -dsimp -implicitDefEqProofs only [go_sem, ↓reduceIte, keep133, ib133, mk133, Tryz.f133, upd_upd, upd_ne, en2_n1, fn2_n1, onil_flat, onil_cells, Nat.lt_irrefl]
    try (with_reducible intro _)
    refine ⟨_, (oheap g_ (.row 5 (OV.cells es)) o_), _, Shift.of (Sub.agg (SubL.cons (Sub.refl _) (SubL.cons (Sub.refl _) (SubL.cons (Sub.refl _) (SubL.cons (Sub.refl _) (SubL.cons gov_sub SubL.nil)))))) (by intro q_; simp only [upd_get, oheap_none, oheap_some, onil_none, onil_some, take_cells, cells_snoc, cells_one, cells_nil, cellv_cons, cellv_nil, OV.val_v, List.nil_append, List.length_append, List.length_cons, List.length_nil, Nat.zero_add]; grind), ⟨[.v (I x.fKind), .v (I x.fNum), .v (I x.fPick), .v (I x.fCount), (gov 5 es o_)], ?_, rfl, rfl⟩, ?_⟩
    · rw [DExpr.o_iff]; exact ⟨(gov 5 es o_), rfl, gov_os hor hos⟩
    · have hq := (gov_new (sz := 5) hnew hos)
      simpa only [OV.row_cons, OV.row_nil, OV.v_rows, List.nil_append, List.append_nil, List.append_assoc] using hq
theorem l02Own (x : DExpr) (hs : x.s ≤ 1048576) : FnN Tryz.prog 133 [.ip 5 [x.c] 0 0] (QA x.o) :=
  l02Own_step x hs fun y hy => l02Own y (by have := sum_mem DExpr.s hy; rw [x.s_eq, szs_eq] at hs; omega)
termination_by SizeOf.sizeOf x
decreasing_by exact DExpr.kid_lt hy

end Go.Hl

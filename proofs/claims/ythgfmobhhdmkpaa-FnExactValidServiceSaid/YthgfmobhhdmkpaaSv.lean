/-
  Proved: the law FnExactValidService returns true at all arguments, and each argument reads behind the call as before. No condition beyond the given row.
-/
import Derived.Test.YthgfmobhhdmkpaaVp
import Derived.Test.YthgfmobhhdmkpaaSm
import Derived.Test.YthgfmobhhdmkpaaSz
import Derived.Test.YthgfmobhhdmkpaaTo
import Derived.Test.YthgfmobhhdmkpaaEq
import Derived.Test.YthgfmobhhdmkpaaDa
import Derived.Test.YthgfmobhhdmkpaaRows
namespace Go.Hl
open Go.Proofs
set_option linter.unusedVariables false
set_option linter.unusedSimpArgs false
def pointOK (j : DJob) (l : List Int) : Prop := (l.length : Int) = j.fShared ∧ Nums l
def partOK (j : DJob) (p : DPart) : Prop := if p.fCode = 0 then Num p.fValue ∧ pointOK j p.fGrad else (p.fCode = 6 ∨ p.fCode = 7) ∧ p.fValue = 0 ∧ p.fGrad = []
noncomputable instance (j : DJob) (p : DPart) : Decidable (partOK j p) := Classical.propDecidable _
def svcAt (j : DJob) (st ow : Int) (kn : Bool) (p : DPart) : Prop := (0 ≤ st ∧ st ≤ 50) ∧ (-1 ≤ ow ∧ ow ≤ 3) ∧ (kn = true → ow = -1 ∧ partOK j p) ∧ (kn = false → p.fCode = 0 ∧ p.fValue = 0 ∧ p.fGrad = [])
def DService.ok (s : DService) : Prop := s.fJob.ok ∧ (s.fStamps.length = s.fJob.fTerms.length ∧ s.fKnown.length = s.fJob.fTerms.length ∧ s.fParts.length = s.fJob.fTerms.length ∧ s.fOwners.length = s.fJob.fTerms.length) ∧
  ∀ (k : Nat) (st ow : Int) (kn : Bool) (p : DPart), s.fStamps[k]? = some st → s.fOwners[k]? = some ow → s.fKnown[k]? = some kn → s.fParts[k]? = some p → svcAt s.fJob st ow kn p
noncomputable instance (s : DService) : Decidable s.ok := Classical.propDecidable _
theorem len0 {α : Type} (l : List α) : (l.length : Int) = 0 ↔ l = [] := by cases l <;> simp; omega
def keep76 : List Nat := [0, 1, 4]
def ib76 : List Nat := []
def mk76 : Marks := fun _ => ([], [])
set_option maxRecDepth 100000 in
theorem l08Point (j : DJob) (l : List Int) : Fn0 Try.prog 76 [.ip 5 [j.c] 0 0, sls 1 (fun n => [I n]) l] (.bool (decide ((l.length : Int) = j.fShared ∧ Nums l))) := by
  simp only [DJob.c_eq]
  refine fn0F 16 keep76 ib76 mk76 mix Try.func76 rfl (by kernel_rfl) (by simp) fun h => ?_
  simp (maxSteps := 1000000) -dsimp -implicitDefEqProofs only [go_sem, ↓reduceIte, keep76, ib76, mk76, Try.f76]
  repeat' (with_reducible first | intro _ | refine And.intro ?_ ?_)
  all_goals try (first | (simp [*]; done) | omega | grind)
  first | refine HFnF.mk (l01Numbers l) ?_ | refine CallSF.mk (l01Numbers l) ?_ | refine HFnF.mkAt (l01Numbers l) ?_ | refine CallSF.mk (FnAt.fn0 (l01Numbers l)) ?_
  simp (maxSteps := 1000000) -dsimp -implicitDefEqProofs only [go_sem, ↓reduceIte, keep76, ib76, mk76, Try.f76]
  all_goals try (first | (simp [*]; done) | omega | grind)
def keep56 : List Nat := [0, 1, 4, 8, 9, 24]
def ib56 : List Nat := []
def mk56 : Marks := fun _ => ([], [])
set_option maxRecDepth 100000 in
theorem l08Form (j : DJob) (p : DPart) : Fn0 Try.prog 56 [.ip 5 [j.c] 0 0, .ip 3 [p.c] 0 0] (.bool (decide (partOK j p))) := by
  simp only [DJob.c_eq, DPart.c_eq]
  refine fn0F 40 keep56 ib56 mk56 mix Try.func56 rfl (by kernel_rfl) (by simp) fun h => ?_
  simp (maxSteps := 1000000) -dsimp -implicitDefEqProofs only [go_sem, ↓reduceIte, keep56, ib56, mk56, Try.f56]
  repeat' (with_reducible first | intro _ | refine And.intro ?_ ?_)
  all_goals try (first | (simp [partOK, len0, *]; done) | omega | (grind [partOK, len0]) | (simp [partOK, len0]; omega))
  rename_i hc
  have hp : partOK j p ↔ Num p.fValue ∧ pointOK j p.fGrad := by unfold partOK; rw [if_pos hc]
  first | refine HFnF.mk (l01Number p.fValue) ?_ | refine CallSF.mk (l01Number p.fValue) ?_ | refine HFnF.mkAt (l01Number p.fValue) ?_ | refine CallSF.mk (FnAt.fn0 (l01Number p.fValue)) ?_
  simp (maxSteps := 1000000) -dsimp -implicitDefEqProofs only [go_sem, ↓reduceIte, keep56, ib56, mk56, Try.f56]
  repeat' (with_reducible first | intro _ | refine And.intro ?_ ?_)
  · first | refine CallSF.mk ((l08Point j p.fGrad).sub (by repeat' (first | exact SubL.nil | refine SubL.cons ?_ ?_ | exact Sub.refl _ | (rw [DExpr.c_eq]; exact Sub.refl _) | exact Sub.ipAt rfl rfl rfl | exact Sub.ip (map_get (by omega)) (by simp) | exact Sub.ipAt (map_get (by omega)) rfl rfl | exact Sub.ip (by simp [*]) (by simp) | exact Sub.ipAt (by simp [*]) (by rfl) (by rfl)))) ?_ | refine HFnF.mk ((l08Point j p.fGrad).sub (by repeat' (first | exact SubL.nil | refine SubL.cons ?_ ?_ | exact Sub.refl _ | (rw [DExpr.c_eq]; exact Sub.refl _) | exact Sub.ipAt rfl rfl rfl | exact Sub.ip (map_get (by omega)) (by simp) | exact Sub.ipAt (map_get (by omega)) rfl rfl | exact Sub.ip (by simp [*]) (by simp) | exact Sub.ipAt (by simp [*]) (by rfl) (by rfl)))) ?_
    simp (maxSteps := 1000000) -dsimp -implicitDefEqProofs only [go_sem, ↓reduceIte, keep56, ib56, mk56, Try.f56]
    rw [decide_eq_decide, hp]
    exact ⟨fun q => ⟨by assumption, q⟩, fun q => q.2⟩
  · exact (decide_eq_false fun q => by simp_all).symm
def keep33 : List Nat := [0, 1, 2, 3, 4, 7]
def ib33 : List Nat := [2, 3]
def mk33 : Marks := fun _ => ([], [])
set_option maxRecDepth 100000 in
theorem isPart (j : DJob) (p : DPart) : Fn0 Try.prog 33 [.agg j.c, .agg p.c] (.bool (decide (partOK j p))) := by
  simp only [DJob.c_eq, DPart.c_eq]
  refine fn0F 37 keep33 ib33 mk33 mix Try.func33 rfl (by kernel_rfl) (by simp) fun h => ?_
  simp (maxSteps := 1000000) -dsimp -implicitDefEqProofs only [go_sem, ↓reduceIte, keep33, ib33, mk33, Try.f33]
  repeat' (with_reducible first | intro _ | refine And.intro ?_ ?_)
  all_goals try (first | (simp [partOK, len0, *]; done) | omega | (grind [partOK, len0]) | (simp [partOK, len0]; omega))
  rename_i hc
  have hp : partOK j p ↔ Num p.fValue ∧ pointOK j p.fGrad := by unfold partOK; rw [if_pos hc]
  first | refine HFnF.mk (isNumber p.fValue) ?_ | refine CallSF.mk (isNumber p.fValue) ?_ | refine HFnF.mkAt (isNumber p.fValue) ?_ | refine CallSF.mk (FnAt.fn0 (isNumber p.fValue)) ?_
  simp (maxSteps := 1000000) -dsimp -implicitDefEqProofs only [go_sem, ↓reduceIte, keep33, ib33, mk33, Try.f33]
  repeat' (with_reducible first | intro _ | refine And.intro ?_ ?_)
  · first | refine HFnF.mk (areNumbers p.fGrad j.fShared) ?_ | refine CallSF.mk (areNumbers p.fGrad j.fShared) ?_ | refine HFnF.mkAt (areNumbers p.fGrad j.fShared) ?_ | refine CallSF.mk (FnAt.fn0 (areNumbers p.fGrad j.fShared)) ?_
    simp (maxSteps := 1000000) -dsimp -implicitDefEqProofs only [go_sem, ↓reduceIte, keep33, ib33, mk33, Try.f33]
    rw [decide_eq_decide, hp]
    exact ⟨fun q => ⟨by assumption, q⟩, fun q => q.2⟩
  · exact (decide_eq_false fun q => by simp_all).symm
def keep27 : List Nat := [0, 2, 3, 4, 9, 49, 52, 74, 104, 146]
def ib27 : List Nat := []
def mk27 : Marks := fun id => match id with | 11 => ([], [0, 1, 2, 3, 4, 5, 6, 7, 8, 9, 10, 11, 12, 13, 14, 15, 16, 17, 18, 19, 20, 21, 22, 23, 24, 25, 26, 27, 28, 29]) | _ => ([], [])
set_option maxRecDepth 100000 in
theorem l08Ok (s : DService) (hps : s.fJob.fProgram.s ≤ 4194304) : Fn0 Try.prog 27 [.ip 9 [s.c] 0 0] (.bool (decide s.ok)) := by
  simp only [DService.c_eq]
  refine fn0F 147 keep27 ib27 mk27 mix Try.func27 rfl (by kernel_rfl) (by simp) fun h => ?_
  simp (maxSteps := 1000000) -dsimp -implicitDefEqProofs only [go_sem, ↓reduceIte, keep27, ib27, mk27, Try.f27]
  first | refine CallSF.mk ((l08Job s.fJob hps).sub (by repeat' (first | exact SubL.nil | refine SubL.cons ?_ ?_ | exact Sub.refl _ | (rw [DExpr.c_eq]; exact Sub.refl _) | exact Sub.ipAt rfl rfl rfl | exact Sub.ip (map_get (by omega)) (by simp) | exact Sub.ipAt (map_get (by omega)) rfl rfl | exact Sub.ip (by simp [*]) (by simp) | exact Sub.ipAt (by simp [*]) (by rfl) (by rfl)))) ?_ | refine HFnF.mk ((l08Job s.fJob hps).sub (by repeat' (first | exact SubL.nil | refine SubL.cons ?_ ?_ | exact Sub.refl _ | (rw [DExpr.c_eq]; exact Sub.refl _) | exact Sub.ipAt rfl rfl rfl | exact Sub.ip (map_get (by omega)) (by simp) | exact Sub.ipAt (map_get (by omega)) rfl rfl | exact Sub.ip (by simp [*]) (by simp) | exact Sub.ipAt (by simp [*]) (by rfl) (by rfl)))) ?_
  simp (maxSteps := 1000000) -dsimp -implicitDefEqProofs only [go_sem, ↓reduceIte, keep27, ib27, mk27, Try.f27]
  repeat' (with_reducible first | intro _ | refine And.intro ?_ ?_)
  all_goals try (exact (decide_eq_false fun z => by have := z.2.1; omega).symm)
  all_goals try (rename_i hn; exact (decide_eq_false fun z => hn z.1).symm)
  have hjob : s.fJob.ok := by assumption
  have h1 : s.fStamps.length = s.fJob.fTerms.length := by assumption
  have h2 : s.fKnown.length = s.fJob.fTerms.length := by assumption
  have h3 : s.fParts.length = s.fJob.fTerms.length := by assumption
  have h4 : s.fOwners.length = s.fJob.fTerms.length := by assumption
  refine loopF (keep := keep27) (ib := ib27) (mk := mk27) mix (by kernel_rfl) (fun k : Nat => [(0, .ip 9 [s.c] 0 0), (3, I s.fJob.fTerms.length), (4, I k)]) (fun _ => h) (fun k => k ≤ s.fJob.fTerms.length ∧ ∀ (j : Nat) (st ow : Int) (kn : Bool) (p : DPart), j < k → s.fStamps[j]? = some st → s.fOwners[j]? = some ow → s.fKnown[j]? = some kn → s.fParts[j]? = some p → svcAt s.fJob st ow kn p) (fun k => s.fJob.fTerms.length - k) 0 (by refine ⟨by simp [SatL, tget, DService.c_eq], by repeat' (with_reducible first | exact Heap.le_refl _ | refine (le_upd (by first | assumption | exact And.right (by assumption) | exact upd_none.2 (by assumption))).2 ?_), by simp⟩) ?_
  intro k ⟨hk, hall⟩
  simp only [DService.c_eq]
  rcases Nat.lt_or_ge k s.fJob.fTerms.length with hlt | hge
  · have k1 : k < s.fStamps.length := by omega
    have k2 : k < s.fKnown.length := by omega
    have k3 : k < s.fParts.length := by omega
    have k4 : k < s.fOwners.length := by omega
    have g1 : s.fStamps[k]? = some s.fStamps[k] := List.getElem?_eq_getElem k1
    have g2 : s.fKnown[k]? = some s.fKnown[k] := List.getElem?_eq_getElem k2
    have g3 : s.fParts[k]? = some s.fParts[k] := List.getElem?_eq_getElem k3
    have g4 : s.fOwners[k]? = some s.fOwners[k] := List.getElem?_eq_getElem k4
    have no (q : ¬ svcAt s.fJob s.fStamps[k] s.fOwners[k] s.fKnown[k] s.fParts[k]) : false = decide s.ok := (decide_eq_false fun z => q (z.2.2 k _ _ _ _ g1 g4 g2 g3)).symm
    have nx (q : svcAt s.fJob s.fStamps[k] s.fOwners[k] s.fKnown[k] s.fParts[k]) : ∀ (j : Nat) (st ow : Int) (kn : Bool) (p : DPart), j < k + 1 → s.fStamps[j]? = some st → s.fOwners[j]? = some ow → s.fKnown[j]? = some kn → s.fParts[j]? = some p → svcAt s.fJob st ow kn p := by
      intro j st ow kn p hj a b c d
      rcases Nat.lt_succ_iff_lt_or_eq.1 hj with hj | rfl
      · exact hall j st ow kn p hj a b c d
      · rw [g1] at a; rw [g4] at b; rw [g2] at c; rw [g3] at d
        obtain rfl := Option.some.inj a
        obtain rfl := Option.some.inj b
        obtain rfl := Option.some.inj c
        obtain rfl := Option.some.inj d
        exact q
    cases hkn : s.fKnown[k]
    all_goals
      rw [hkn] at g2 no nx
      simp (maxSteps := 1000000) -dsimp -implicitDefEqProofs only [go_sem, ↓reduceIte, keep27, ib27, mk27, Try.f27, g1, g2, g3, g4, DPart.c_eq]
      repeat' (with_reducible first | intro _ | refine And.intro ?_ ?_)
      all_goals try omega
    all_goals (first | refine HFnF.mk (l00In s.fStamps[k] 0 50) ?_ | refine CallSF.mk (l00In s.fStamps[k] 0 50) ?_)
    all_goals simp (maxSteps := 1000000) -dsimp -implicitDefEqProofs only [go_sem, ↓reduceIte, keep27, ib27, mk27, Try.f27, g1, g2, g3, g4, DPart.c_eq]
    all_goals repeat' (with_reducible first | intro _ | refine And.intro ?_ ?_)
    all_goals try omega
    all_goals try (rename_i q; exact no fun z => q z.1)
    all_goals (first | refine HFnF.mk (l00In s.fOwners[k] (-1) 3) ?_ | refine CallSF.mk (l00In s.fOwners[k] (-1) 3) ?_)
    all_goals simp (maxSteps := 1000000) -dsimp -implicitDefEqProofs only [go_sem, ↓reduceIte, keep27, ib27, mk27, Try.f27, g1, g2, g3, g4, DPart.c_eq]
    all_goals repeat' (with_reducible first | intro _ | refine And.intro ?_ ?_)
    all_goals try omega
    all_goals try (rename_i q; exact no fun z => q z.2.1)
    all_goals try (rename_i q; exact no fun z => q (z.2.2.2 rfl).1)
    all_goals try (rename_i q; exact no fun z => q (z.2.2.2 rfl).2.1)
    all_goals try (rename_i q; exact no fun z => q (z.2.2.1 rfl).1)
    all_goals try (rename_i q; exact no fun z => by have := (z.2.2.2 rfl).2.2; rw [this] at q; simp at q)
    · refine ⟨k + 1, ?_⟩
      repeat' (with_reducible refine And.intro ?_ ?_)
      all_goals try (rw [IntWalk.i64_in _ (by omega)]; first | rfl | omega)
      all_goals try omega
      all_goals try (repeat' (with_reducible first | exact Heap.le_refl _ | refine (le_upd (by first | assumption | exact And.right (by assumption) | exact upd_none.2 (by assumption))).2 ?_))
      all_goals try (simp only [DService.c_eq]; done)
      exact nx ⟨by assumption, by assumption, fun z => by simp at z, fun _ => ⟨by assumption, by assumption, (len0 _).1 (by omega)⟩⟩
    · have hq1 : s.fOwners[k] = -1 := by assumption
      first | refine CallSF.mk ((l08Form s.fJob s.fParts[k]).sub (by repeat' (first | exact SubL.nil | refine SubL.cons ?_ ?_ | exact Sub.refl _ | (rw [DExpr.c_eq]; exact Sub.refl _) | exact Sub.ipAt rfl rfl rfl | exact Sub.ip (map_get (by omega)) (by simp) | exact Sub.ipAt (map_get (by omega)) rfl rfl | exact Sub.ip (by simp [*]) (by simp) | exact Sub.ipAt (by simp [*]) (by rfl) (by rfl)))) ?_ | refine HFnF.mk ((l08Form s.fJob s.fParts[k]).sub (by repeat' (first | exact SubL.nil | refine SubL.cons ?_ ?_ | exact Sub.refl _ | (rw [DExpr.c_eq]; exact Sub.refl _) | exact Sub.ipAt rfl rfl rfl | exact Sub.ip (map_get (by omega)) (by simp) | exact Sub.ipAt (map_get (by omega)) rfl rfl | exact Sub.ip (by simp [*]) (by simp) | exact Sub.ipAt (by simp [*]) (by rfl) (by rfl)))) ?_
      simp (maxSteps := 1000000) -dsimp -implicitDefEqProofs only [go_sem, ↓reduceIte, keep27, ib27, mk27, Try.f27, g1, g2, g3, g4, DPart.c_eq]
      repeat' (with_reducible first | intro _ | refine And.intro ?_ ?_)
      all_goals try omega
      all_goals try (rename_i q; exact no fun z => q (z.2.2.1 rfl).2)
      refine ⟨k + 1, ?_⟩
      repeat' (with_reducible refine And.intro ?_ ?_)
      all_goals try (rw [IntWalk.i64_in _ (by omega)]; first | rfl | omega)
      all_goals try omega
      all_goals try (repeat' (with_reducible first | exact Heap.le_refl _ | refine (le_upd (by first | assumption | exact And.right (by assumption) | exact upd_none.2 (by assumption))).2 ?_))
      all_goals try (simp only [DService.c_eq]; done)
      exact nx ⟨by assumption, by assumption, fun _ => ⟨hq1, by assumption⟩, fun z => by simp at z⟩
  · have hk' : k = s.fJob.fTerms.length := by omega
    subst hk'
    simp (maxSteps := 1000000) -dsimp -implicitDefEqProofs only [go_sem, ↓reduceIte, keep27, ib27, mk27, Try.f27, Int.lt_irrefl, Nat.lt_irrefl]
    exact (decide_eq_true ⟨hjob, ⟨h1, h2, h3, h4⟩, fun j st ow kn p a b c d => hall j st ow kn p (by have := (List.getElem?_eq_some_iff.1 a).1; omega) a b c d⟩).symm
open Go.Proofs
set_option linter.unusedVariables false
set_option linter.unusedSimpArgs false
def keep9 : List Nat := [0, 1, 2, 3, 4, 5, 41, 43, 44, 45, 46, 65, 99]
def ib9 : List Nat := [1]
def mk9 : Marks := fun id => match id with | 9 => ([], [0, 1, 2, 3, 4, 5, 6, 7, 8, 9, 10, 11, 12, 13, 14, 15, 16, 17, 18, 19, 20, 21, 22, 23, 24, 25, 26, 27, 28, 29, 30, 31, 32, 33]) | _ => ([], [])
set_option maxRecDepth 100000 in
theorem ValidService (s : DService) (hps : s.fJob.fProgram.s ≤ 4194304) : Fn0 Try.prog 9 [.agg s.c] (.bool (decide s.ok)) := by
  have hj := ValidJob s.fJob hps
  simp only [DService.c_eq, DJob.c_eq] at hj ⊢
  refine fn0F 101 keep9 ib9 mk9 mix Try.func9 rfl (by kernel_rfl) (by simp) fun h => ?_
  simp (maxSteps := 1000000) -dsimp -implicitDefEqProofs only [go_sem, ↓reduceIte, keep9, ib9, mk9, Try.f9]
  intro _
  first | refine HFnF.mk (hj) ?_ | refine CallSF.mk (hj) ?_ | refine HFnF.mkAt (hj) ?_ | refine CallSF.mk (FnAt.fn0 (hj)) ?_
  simp (maxSteps := 1000000) -dsimp -implicitDefEqProofs only [go_sem, ↓reduceIte, keep9, ib9, mk9, Try.f9]
  repeat' (with_reducible first | intro _ | refine And.intro ?_ ?_)
  all_goals try (exact (decide_eq_false fun z => by have := z.2.1; omega).symm)
  all_goals try (rename_i hn; exact (decide_eq_false fun z => hn z.1).symm)
  have hjob : s.fJob.ok := by assumption
  have h1 : s.fStamps.length = s.fJob.fTerms.length := by assumption
  have h2 : s.fKnown.length = s.fJob.fTerms.length := by assumption
  have h3 : s.fParts.length = s.fJob.fTerms.length := by assumption
  have h4 : s.fOwners.length = s.fJob.fTerms.length := by assumption
  refine loopF (keep := keep9) (ib := ib9) (mk := mk9) mix (by kernel_rfl) (fun k : Nat => [(1, .ip 9 [s.c] 0 0), (43, sls 1 (fun b => [.bool b]) s.fKnown), (44, I s.fJob.fTerms.length), (45, I k)]) (fun _ => h) (fun k => k ≤ s.fJob.fTerms.length ∧ ∀ (j : Nat) (st ow : Int) (kn : Bool) (p : DPart), j < k → s.fStamps[j]? = some st → s.fOwners[j]? = some ow → s.fKnown[j]? = some kn → s.fParts[j]? = some p → svcAt s.fJob st ow kn p) (fun k => s.fJob.fTerms.length - k) 0 (by refine ⟨by simp [SatL, tget, DService.c_eq, h2], by simp [Heap.le_refl], by simp⟩) ?_
  intro k ⟨hk, hall⟩
  simp only [DService.c_eq]
  rcases Nat.lt_or_ge k s.fJob.fTerms.length with hlt | hge
  · have k1 : k < s.fStamps.length := by omega
    have k2 : k < s.fKnown.length := by omega
    have k3 : k < s.fParts.length := by omega
    have k4 : k < s.fOwners.length := by omega
    have g1 : s.fStamps[k]? = some s.fStamps[k] := List.getElem?_eq_getElem k1
    have g2 : s.fKnown[k]? = some s.fKnown[k] := List.getElem?_eq_getElem k2
    have g3 : s.fParts[k]? = some s.fParts[k] := List.getElem?_eq_getElem k3
    have g4 : s.fOwners[k]? = some s.fOwners[k] := List.getElem?_eq_getElem k4
    have no (q : ¬ svcAt s.fJob s.fStamps[k] s.fOwners[k] s.fKnown[k] s.fParts[k]) : false = decide s.ok := (decide_eq_false fun z => q (z.2.2 k _ _ _ _ g1 g4 g2 g3)).symm
    have nx (q : svcAt s.fJob s.fStamps[k] s.fOwners[k] s.fKnown[k] s.fParts[k]) : ∀ (j : Nat) (st ow : Int) (kn : Bool) (p : DPart), j < k + 1 → s.fStamps[j]? = some st → s.fOwners[j]? = some ow → s.fKnown[j]? = some kn → s.fParts[j]? = some p → svcAt s.fJob st ow kn p := by
      intro j st ow kn p hj a b c d
      rcases Nat.lt_succ_iff_lt_or_eq.1 hj with hj | rfl
      · exact hall j st ow kn p hj a b c d
      · rw [g1] at a; rw [g4] at b; rw [g2] at c; rw [g3] at d
        obtain rfl := Option.some.inj a
        obtain rfl := Option.some.inj b
        obtain rfl := Option.some.inj c
        obtain rfl := Option.some.inj d
        exact q
    cases hkn : s.fKnown[k]
    all_goals
      rw [hkn] at g2 no nx
      simp (maxSteps := 1000000) -dsimp -implicitDefEqProofs only [go_sem, ↓reduceIte, keep9, ib9, mk9, Try.f9, g1, g2, g3, g4, DPart.c_eq]
      repeat' (with_reducible first | intro _ | refine And.intro ?_ ?_)
      all_goals try omega
    all_goals (first | refine HFnF.mk (within s.fStamps[k] 0 50) ?_ | refine CallSF.mk (within s.fStamps[k] 0 50) ?_)
    all_goals simp (maxSteps := 1000000) -dsimp -implicitDefEqProofs only [go_sem, ↓reduceIte, keep9, ib9, mk9, Try.f9, g1, g2, g3, g4, DPart.c_eq]
    all_goals repeat' (with_reducible first | intro _ | refine And.intro ?_ ?_)
    all_goals try omega
    all_goals try (rename_i q; exact no fun z => q z.1)
    all_goals (first | refine HFnF.mk (within s.fOwners[k] (-1) 3) ?_ | refine CallSF.mk (within s.fOwners[k] (-1) 3) ?_)
    all_goals simp (maxSteps := 1000000) -dsimp -implicitDefEqProofs only [go_sem, ↓reduceIte, keep9, ib9, mk9, Try.f9, g1, g2, g3, g4, DPart.c_eq]
    all_goals repeat' (with_reducible first | intro _ | refine And.intro ?_ ?_)
    all_goals try omega
    all_goals try (rename_i q; exact no fun z => q z.2.1)
    · have hsp := (samePart s.fParts[k] ⟨0, 0, []⟩).sub (.cons (.refl _) (.cons (Sub.agg (.cons (.refl (I 0)) (.cons (.refl (I 0)) (.cons (Sub.nil 1 false) .nil)))) .nil))
      simp only [DPart.c_eq] at hsp
      first | refine HFnF.mk (hsp) ?_ | refine CallSF.mk (hsp) ?_ | refine HFnF.mkAt (hsp) ?_ | refine CallSF.mk (FnAt.fn0 (hsp)) ?_
      simp (maxSteps := 1000000) -dsimp -implicitDefEqProofs only [go_sem, ↓reduceIte, keep9, ib9, mk9, Try.f9]
      repeat' (with_reducible first | intro _ | refine And.intro ?_ ?_)
      · rename_i q
        exact no fun z => q (DPart.eq_iff.2 (z.2.2.2 rfl))
      · rename_i q
        have := DPart.eq_iff.1 q
        refine ⟨k + 1, ?_⟩
        repeat' (with_reducible refine And.intro ?_ ?_)
        all_goals try (rw [IntWalk.i64_in _ (by omega)]; first | rfl | omega)
        all_goals try omega
        all_goals try (repeat' (with_reducible first | exact Heap.le_refl _ | refine (le_upd (by first | assumption | exact And.right (by assumption) | exact upd_none.2 (by assumption))).2 ?_))
        all_goals try (simp only [DService.c_eq]; done)
        exact nx ⟨by assumption, by assumption, fun z => by simp at z, fun _ => this⟩
    · have hip := isPart s.fJob s.fParts[k]
      simp only [DPart.c_eq, DJob.c_eq] at hip
      first | refine HFnF.mk (hip) ?_ | refine CallSF.mk (hip) ?_ | refine HFnF.mkAt (hip) ?_ | refine CallSF.mk (FnAt.fn0 (hip)) ?_
      simp (maxSteps := 1000000) -dsimp -implicitDefEqProofs only [go_sem, ↓reduceIte, keep9, ib9, mk9, Try.f9, g1, g2, g3, g4, DPart.c_eq]
      repeat' (with_reducible first | intro _ | refine And.intro ?_ ?_)
      all_goals try omega
      all_goals try (rename_i q; exact no fun z => q (z.2.2.1 rfl).2)
      all_goals try (rename_i q; exact no fun z => q (z.2.2.1 rfl).1)
      refine ⟨k + 1, ?_⟩
      repeat' (with_reducible refine And.intro ?_ ?_)
      all_goals try (rw [IntWalk.i64_in _ (by omega)]; first | rfl | omega)
      all_goals try omega
      all_goals try (repeat' (with_reducible first | exact Heap.le_refl _ | refine (le_upd (by first | assumption | exact And.right (by assumption) | exact upd_none.2 (by assumption))).2 ?_))
      all_goals try (simp only [DService.c_eq]; done)
      exact nx ⟨by assumption, by assumption, fun _ => ⟨by assumption, by assumption⟩, fun z => by simp at z⟩
  · have hk' : k = s.fJob.fTerms.length := by omega
    subst hk'
    simp (maxSteps := 1000000) -dsimp -implicitDefEqProofs only [go_sem, ↓reduceIte, keep9, ib9, mk9, Try.f9, Int.lt_irrefl, Nat.lt_irrefl]
    exact (decide_eq_true ⟨hjob, ⟨h1, h2, h3, h4⟩, fun j st ow kn p a b c d => hall j st ow kn p (by have := (List.getElem?_eq_some_iff.1 a).1; omega) a b c d⟩).symm
def keep7 : List Nat := [0, 1, 2]
def ib7 : List Nat := [1]
def mk7 : Marks := fun _ => ([], [])
theorem specValidService (s : DService) (hps : s.fJob.fProgram.s ≤ 4194304) : Fn0 Try.prog 7 [.agg s.c] (.bool (decide s.ok)) := by
  simp only [DService.c_eq]
  refine fn0F 4 keep7 ib7 mk7 mix Try.func7 rfl (by kernel_rfl) (by simp) fun h => ?_
  simp (maxSteps := 1000000) -dsimp -implicitDefEqProofs only [go_sem, ↓reduceIte, keep7, ib7, mk7, Try.f7]
  first | refine CallSF.mk ((l08Ok s hps).sub (by repeat' (first | exact SubL.nil | refine SubL.cons ?_ ?_ | exact Sub.refl _ | (rw [DExpr.c_eq]; exact Sub.refl _) | exact Sub.ipAt rfl rfl rfl | exact Sub.ip (map_get (by omega)) (by simp) | exact Sub.ipAt (map_get (by omega)) rfl rfl | exact Sub.ip (by simp [*]) (by simp) | exact Sub.ipAt (by simp [*]) (by rfl) (by rfl)))) ?_ | refine HFnF.mk ((l08Ok s hps).sub (by repeat' (first | exact SubL.nil | refine SubL.cons ?_ ?_ | exact Sub.refl _ | (rw [DExpr.c_eq]; exact Sub.refl _) | exact Sub.ipAt rfl rfl rfl | exact Sub.ip (map_get (by omega)) (by simp) | exact Sub.ipAt (map_get (by omega)) rfl rfl | exact Sub.ip (by simp [*]) (by simp) | exact Sub.ipAt (by simp [*]) (by rfl) (by rfl)))) ?_
  simp (maxSteps := 1000000) -dsimp -implicitDefEqProofs only [go_sem, ↓reduceIte, keep7, ib7, mk7, Try.f7]
open Go.Proofs
set_option linter.unusedVariables false
set_option linter.unusedSimpArgs false
def keep3 : List Nat := [0, 1, 2, 3, 4, 5, 6, 11, 21, 26]
def ib3 : List Nat := [1]
def mk3 : Marks := fun id => match id with | 10 => ([0], [1, 2, 0, 3, 4]) | _ => ([], [])
set_option maxRecDepth 100000 in
theorem law_ValidService (a : DService) : Fn0 Try.prog 3 [.agg a.c] (.bool true) := by
  simp only [DService.c_eq]
  refine fn0F 27 keep3 ib3 mk3 mix Try.func3 rfl (by kernel_rfl) (by simp) fun h => ?_
  simp (maxSteps := 1000000) -dsimp -implicitDefEqProofs only [go_sem, ↓reduceIte, keep3, ib3, mk3, Try.f3]
  first | refine HFnF.mk (sz_Service a 1048576 (by omega) (by omega)) ?_ | refine CallSF.mk (sz_Service a 1048576 (by omega) (by omega)) ?_ | refine HFnF.mkAt (sz_Service a 1048576 (by omega) (by omega)) ?_ | refine CallSF.mk (FnAt.fn0 (sz_Service a 1048576 (by omega) (by omega))) ?_
  simp (maxSteps := 1000000) -dsimp -implicitDefEqProofs only [go_sem, ↓reduceIte, keep3, ib3, mk3, Try.f3, DService.c_eq]
  generalize hL : lft 1048576 a.s = L
  have hs := lft_step hL
  repeat' (with_reducible first | intro _ | refine And.intro ?_ ?_)
  all_goals try (first | (simp [hs, *]; done) | omega | (grind [hs]) | (simp [hs]; omega))
  rename_i h1
  have h2 := hs.2 h1
  have ha : a.s ≤ 1048576 := by omega
  clear hs hL h1 h2
  have hsub := DService.s_eq a
  have hsub2 := (a.fJob.fProgram).s_eq
  have hsub3 := a.fJob.s_eq
  have hps : (a.fJob.fProgram).s ≤ 1048576 := by omega
  first | refine HFnF.mk (to_Service a ha) ?_ | refine CallSF.mk (to_Service a ha) ?_ | refine HFnF.mkAt (to_Service a ha) ?_ | refine CallSF.mk (FnAt.fn0 (to_Service a ha)) ?_
  simp (maxSteps := 1000000) -dsimp -implicitDefEqProofs only [go_sem, ↓reduceIte, keep3, ib3, mk3, Try.f3]
  first | refine HFnF.mk (specValidService a (by omega)) ?_ | refine CallSF.mk (specValidService a (by omega)) ?_ | refine HFnF.mkAt (specValidService a (by omega)) ?_ | refine CallSF.mk (FnAt.fn0 (specValidService a (by omega))) ?_
  simp (maxSteps := 1000000) -dsimp -implicitDefEqProofs only [go_sem, ↓reduceIte, keep3, ib3, mk3, Try.f3]
  first | refine HFnF.mk (to_Service a ha) ?_ | refine CallSF.mk (to_Service a ha) ?_ | refine HFnF.mkAt (to_Service a ha) ?_ | refine CallSF.mk (FnAt.fn0 (to_Service a ha)) ?_
  simp (maxSteps := 1000000) -dsimp -implicitDefEqProofs only [go_sem, ↓reduceIte, keep3, ib3, mk3, Try.f3, DService.c_eq, upd_upd]
  repeat' (with_reducible first | intro _ | refine And.intro ?_ ?_)
  rename_i n1 h1
  first | refine HFnF.mk (ValidService a (by omega)) ?_ | refine CallSF.mk (ValidService a (by omega)) ?_ | refine HFnF.mkAt (ValidService a (by omega)) ?_ | refine CallSF.mk (FnAt.fn0 (ValidService a (by omega))) ?_
  simp (maxSteps := 1000000) -dsimp -implicitDefEqProofs only [go_sem, ↓reduceIte, keep3, ib3, mk3, Try.f3, bne_self_eq_false, upd_get]
  first | refine HFnF.mk (to_Service a ha) ?_ | refine CallSF.mk (to_Service a ha) ?_ | refine HFnF.mkAt (to_Service a ha) ?_ | refine CallSF.mk (FnAt.fn0 (to_Service a ha)) ?_
  simp (maxSteps := 1000000) -dsimp -implicitDefEqProofs only [go_sem, ↓reduceIte, keep3, ib3, mk3, Try.f3, upd_get]
  first | refine HFnF.mk (eq_Service a a) ?_ | refine CallSF.mk (eq_Service a a) ?_ | refine HFnF.mkAt (eq_Service a a) ?_ | refine CallSF.mk (FnAt.fn0 (eq_Service a a)) ?_
  simp (maxSteps := 1000000) -dsimp -implicitDefEqProofs only [go_sem, ↓reduceIte, keep3, ib3, mk3, Try.f3, upd_get, h1, decide_true, Bool.not_true]

open Go.Proofs
set_option linter.unusedVariables false
set_option linter.unusedSimpArgs false
set_option maxRecDepth 100000 in
theorem validService_args {xs : List HVal} (h : ArgsD Try.prog Try.f3.params.toList xs) : Fn0 Try.prog 3 xs (.bool true) := by
  have h : ArgsD Try.prog [32] xs := h
  match xs, h with
  | [v0], h =>
    obtain ⟨⟨m0, h0⟩, _⟩ := h
    simp only [ArgD, Try.underlying32] at h0
    obtain ⟨ys0, rfl, h0⟩ := h0
    obtain ⟨a0, rfl, w0⟩ := dat_32 h0
    exact law_ValidService a0
end Go.Hl
namespace Go.Proofs.Ythgfmobhhdmkpaa
open Go.Hl
set_option maxRecDepth 100000 in
theorem validService_returns (os : Os) (started : os.Started) (H : Type) (enc : TypeId × Value → H) :
    ReturnsInHanded {} Try.checked os 3 .any (Rows.fnExactValidServiceSpec.pre6 enc Try.prog Try.f3 [] false) (Rows.fnExactValidServiceSpec.post enc Try.prog Try.f3 false true false false) :=
  law_returns (C := Try.checked) (by kernel_rfl) started (by kernel_rfl) Try.func3
    (ChangeSpec.witness6 (enc := enc) (C := Try.checked) false ⟨#[], #[.agg #[.slice none 0 0, .int .i64 0, .int .i64 0, .slice none 0 0, .slice none 0 0, .slice none 0 0, .slice none 0 0, .slice none 0 0, .slice none 0 0]], []⟩ 8 (by kernel_rfl) (by kernel_rfl) (by kernel_rfl) (by kernel_rfl))
    (by kernel_rfl) (by kernel_rfl) (by kernel_rfl) datT datT_ok (by kernel_rfl) rfl (fun ds h => match ds, h with | [_], _ => rfl) (tb := 4) rfl Try.underlying4 fun xs h => validService_args h
theorem validService_holds : Rows.FnExactValidServiceSaid :=
  OpenClaim.holds_of_wide 3 Try.f3 rfl rfl rfl rfl rfl rfl rfl ⟨rfl, rfl, rfl, rfl, rfl⟩ rfl rfl rfl rfl rfl (by kernel_rfl) Try.func3 (by kernel_rfl)
    (of_decide_eq_true (by kernel_rfl)) (by unfold Func.isWrapper; first | (rw [if_pos (by decide +kernel)]; kernel_rfl) | (rw [if_neg (by decide +kernel)]; exact ⟨rfl, rfl⟩))
    (fun os started H enc _ => validService_returns os started H enc)
#print axioms validService_holds
end Go.Proofs.Ythgfmobhhdmkpaa
namespace Go.Hl


end Go.Hl

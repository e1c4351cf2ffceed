/-
  Contracts of functions and laws of the layer over the walk.
-/
import Derived.Test.YthldjpibagallaaDa
namespace Go.Hl
open Go.Proofs
set_option linter.unusedVariables false
set_option linter.unusedSimpArgs false
def keep91 : List Nat := [0, 1, 4, 5, 10, 14, 25]
def ib91 : List Nat := []
def mk91 : Marks := fun id => match id with | 6 => ([], [0, 1, 2, 3, 4, 5, 6, 7, 8]) | _ => ([], [])
set_option maxRecDepth 100000 in
theorem l00Same_Int64S (a b : List Int) : Fn0 Try.prog 91 [(sls 1 (fun n => [I n]) a), (sls 1 (fun n => [I n]) b)] (.bool (decide (a = b))) := by
  refine fn0F 26 keep91 ib91 mk91 mix Try.func91 rfl (by kernel_rfl) (by simp) fun h => ?_
  simp -dsimp -implicitDefEqProofs only [go_sem, Try.f91, ↓reduceIte, keep91, ib91, mk91]
  refine fun _ _ => ⟨fun hne => ?_, fun heq => ?_⟩
  · exact (decide_eq_false fun e => hne (by rw [e])).symm
  · refine loopF (keep := keep91) (ib := ib91) (mk := mk91) mix (by kernel_rfl) (fun k : Nat => [(0, (sls 1 (fun n => [I n]) a)), (1, (sls 1 (fun n => [I n]) b)), (5, I k)]) (fun _ => h) (fun k => k ≤ a.length ∧ a.take k = b.take k) (fun k => a.length - k) 0 (by simp [SatL, tget, Heap.le_refl]) ?_
    intro k ⟨hk, hp⟩
    rcases Nat.lt_or_ge k a.length with hlt | hge
    · have hlb : k < b.length := by omega
      have ea : a[k]? = some a[k] := List.getElem?_eq_getElem hlt
      have eb : b[k]? = some b[k] := List.getElem?_eq_getElem hlb
      simp -dsimp -implicitDefEqProofs only [go_sem, ↓reduceIte, keep91, ib91, mk91, Try.f91, ea, eb]
      refine fun _ => ⟨fun _ => ⟨hlt, hlb, fun hne => ?_, fun he => ?_⟩, fun hn => absurd hlt hn⟩
      · first
          | exact (decide_eq_false fun e => hne (getElem_of_eq e hlt)).symm
          | exact (decide_eq_false fun e => by have := getElem_of_eq e hlt (hb := hlb); rw [this] at hne; simp at hne).symm
      · exact ⟨k + 1, by rw [IntWalk.i64_in _ (by omega)]; rfl, ⟨by omega, take_step hlt hlb hp (by first | exact he | simpa using he)⟩, by omega⟩
    · have hk' : k = a.length := by omega
      subst hk'
      simp -dsimp -implicitDefEqProofs only [go_sem, ↓reduceIte, keep91, ib91, mk91, Try.f91, Nat.lt_irrefl]
      exact fun _ => (decide_eq_true (eq_of_take heq hp)).symm
def keep54 : List Nat := [0, 1, 4, 5, 10, 12, 13, 14, 24]
def ib54 : List Nat := []
def mk54 : Marks := fun id => match id with | 6 => ([], [0, 1, 2, 3, 4, 5, 6, 7, 8]) | _ => ([], [])
set_option maxRecDepth 100000 in
theorem slEq_Int64S (a b : List Int) : Fn0 Try.prog 54 [(sls 1 (fun n => [I n]) a), (sls 1 (fun n => [I n]) b)] (.bool (decide (a = b))) := by
  refine fn0F 26 keep54 ib54 mk54 mix Try.func54 rfl (by kernel_rfl) (by simp) fun h => ?_
  simp -dsimp -implicitDefEqProofs only [go_sem, ↓reduceIte, keep54, ib54, mk54, Try.f54]
  refine fun _ _ => ⟨fun hne => ?_, fun heq => ?_⟩
  · exact (decide_eq_false fun e => hne (by rw [e])).symm
  · refine fun _ => ?_
    refine loopF (keep := keep54) (ib := ib54) (mk := mk54) mix (by kernel_rfl) (fun k : Nat => [(0, (sls 1 (fun n => [I n]) a)), (1, (sls 1 (fun n => [I n]) b)), (12, I a.length), (13, I k)]) (fun _ => h) (fun k => k ≤ a.length ∧ a.take k = b.take k) (fun k => a.length - k) 0 (by simp [SatL, tget, Heap.le_refl]) ?_
    intro k ⟨hk, hp⟩
    rcases Nat.lt_or_ge k a.length with hlt | hge
    · have hlb : k < b.length := by omega
      have ea : a[k]? = some a[k] := List.getElem?_eq_getElem hlt
      have eb : b[k]? = some b[k] := List.getElem?_eq_getElem hlb
      simp -dsimp -implicitDefEqProofs only [go_sem, ↓reduceIte, keep54, ib54, mk54, Try.f54, ea, eb]
      refine ⟨fun _ => ⟨hlt, hlb, fun hne => ?_, fun he => ?_⟩, fun hn => absurd hlt hn⟩
      · first
          | exact (decide_eq_false fun e => hne (getElem_of_eq e hlt)).symm
          | exact (decide_eq_false fun e => by have := getElem_of_eq e hlt (hb := hlb); rw [this] at hne; simp at hne).symm
      · exact ⟨k + 1, by rw [IntWalk.i64_in _ (by omega)]; rfl, ⟨by omega, take_step hlt hlb hp (by first | exact he | simpa using he)⟩, by omega⟩
    · have hk' : k = a.length := by omega
      subst hk'
      simp -dsimp -implicitDefEqProofs only [go_sem, ↓reduceIte, keep54, ib54, mk54, Try.f54, Nat.lt_irrefl]
      exact (decide_eq_true (eq_of_take heq hp)).symm
def keep55 : List Nat := [0, 1, 4, 5, 10, 12, 13, 14, 24]
def ib55 : List Nat := []
def mk55 : Marks := fun id => match id with | 6 => ([], [0, 1, 2, 3, 4, 5, 6, 7, 8]) | _ => ([], [])
set_option maxRecDepth 100000 in
theorem slEq_BoolS (a b : List Bool) : Fn0 Try.prog 55 [(sls 1 (fun b => [.bool b]) a), (sls 1 (fun b => [.bool b]) b)] (.bool (decide (a = b))) := by
  refine fn0F 26 keep55 ib55 mk55 mix Try.func55 rfl (by kernel_rfl) (by simp) fun h => ?_
  simp -dsimp -implicitDefEqProofs only [go_sem, ↓reduceIte, keep55, ib55, mk55, Try.f55]
  refine fun _ _ => ⟨fun hne => ?_, fun heq => ?_⟩
  · exact (decide_eq_false fun e => hne (by rw [e])).symm
  · refine fun _ => ?_
    refine loopF (keep := keep55) (ib := ib55) (mk := mk55) mix (by kernel_rfl) (fun k : Nat => [(0, (sls 1 (fun b => [.bool b]) a)), (1, (sls 1 (fun b => [.bool b]) b)), (12, I a.length), (13, I k)]) (fun _ => h) (fun k => k ≤ a.length ∧ a.take k = b.take k) (fun k => a.length - k) 0 (by simp [SatL, tget, Heap.le_refl]) ?_
    intro k ⟨hk, hp⟩
    rcases Nat.lt_or_ge k a.length with hlt | hge
    · have hlb : k < b.length := by omega
      have ea : a[k]? = some a[k] := List.getElem?_eq_getElem hlt
      have eb : b[k]? = some b[k] := List.getElem?_eq_getElem hlb
      simp -dsimp -implicitDefEqProofs only [go_sem, ↓reduceIte, keep55, ib55, mk55, Try.f55, ea, eb]
      refine ⟨fun _ => ⟨hlt, hlb, fun hne => ?_, fun he => ?_⟩, fun hn => absurd hlt hn⟩
      · first
          | exact (decide_eq_false fun e => hne (getElem_of_eq e hlt)).symm
          | exact (decide_eq_false fun e => by have := getElem_of_eq e hlt (hb := hlb); rw [this] at hne; simp at hne).symm
      · exact ⟨k + 1, by rw [IntWalk.i64_in _ (by omega)]; rfl, ⟨by omega, take_step hlt hlb hp (by first | exact he | simpa using he)⟩, by omega⟩
    · have hk' : k = a.length := by omega
      subst hk'
      simp -dsimp -implicitDefEqProofs only [go_sem, ↓reduceIte, keep55, ib55, mk55, Try.f55, Nat.lt_irrefl]
      exact (decide_eq_true (eq_of_take heq hp)).symm

open Go.Proofs
set_option linter.unusedVariables false
set_option linter.unusedSimpArgs false
def keep109 : List Nat := [0, 1, 4]
def ib109 : List Nat := []
def mk109 : Marks := fun id => match id with | 1 => ([], [0, 1, 2, 3, 4, 5, 6, 7, 8, 9, 10, 11, 12, 13, 14, 15, 16, 17, 18, 19, 20, 21, 22, 23, 24, 25, 26, 27, 28, 29, 30, 31]) | _ => ([], [])
set_option maxRecDepth 100000 in
theorem l08SamePart (a b : DPart) : Fn0 Try.prog 109 [.ip 3 [a.c] 0 0, .ip 3 [b.c] 0 0] (.bool (decide (a = b))) := by
  simp only [DPart.c_eq]
  refine fn0F 36 keep109 ib109 mk109 mix Try.func109 rfl (by kernel_rfl) (by simp) fun h => ?_
  simp (maxSteps := 1000000) -dsimp -implicitDefEqProofs only [go_sem, ↓reduceIte, keep109, ib109, mk109, Try.f109]
  repeat' (with_reducible first | intro _ | refine And.intro ?_ ?_)
  all_goals try (first | (simp [DPart.eq_iff, *]; done) | omega | (grind [DPart.eq_iff]) | (simp [DPart.eq_iff]; omega))
  first | refine HFnF.mk (l00Same_Int64S a.fGrad b.fGrad) ?_ | refine CallSF.mk (l00Same_Int64S a.fGrad b.fGrad) ?_
  simp (maxSteps := 1000000) -dsimp -implicitDefEqProofs only [go_sem, ↓reduceIte, keep109, ib109, mk109, Try.f109]
  all_goals try (first | (simp [DPart.eq_iff, *]; done) | omega | (grind [DPart.eq_iff]) | (simp [DPart.eq_iff]; omega))
def keep141 : List Nat := [0, 1, 4, 5, 60, 67, 83]
def ib141 : List Nat := []
def mk141 : Marks := fun id => match id with | 1 => ([], [0, 1, 2, 3, 4, 5, 6, 7, 8, 9, 10, 11, 12, 13, 14, 15, 16, 17, 18, 19, 20, 21, 22, 23, 24, 25, 26, 27, 28, 29, 30, 31, 32, 33, 34, 35, 36, 37, 38, 39, 40, 41, 42, 43, 44, 45, 46, 47, 48, 49, 50, 51, 52, 53, 54]) | 6 => ([], [0, 1, 2, 3, 4, 5, 6, 7, 8, 9, 10, 11, 12, 13]) | _ => ([], [])
set_option maxRecDepth 100000 in
theorem l02Same_step (a b : DExpr) (hc : ∀ x ∈ a.fKids, ∀ y, Fn0 Try.prog 141 [.ip 5 [x.c] 0 0, .ip 5 [y.c] 0 0] (.bool (decide (x = y)))) : Fn0 Try.prog 141 [.ip 5 [a.c] 0 0, .ip 5 [b.c] 0 0] (.bool (decide (a = b))) := by
  rw [DExpr.c_eq a, DExpr.c_eq b]
  refine fn0F 84 keep141 ib141 mk141 mix Try.func141 rfl (by kernel_rfl) (by simp) fun h => ?_
  simp (maxSteps := 1000000) -dsimp -implicitDefEqProofs only [go_sem, ↓reduceIte, keep141, ib141, mk141, Try.f141]
  repeat' (with_reducible first | intro _ | refine And.intro ?_ ?_)
  all_goals try (first | (simp [DExpr.eq_iff, *]; done) | omega | (grind [DExpr.eq_iff]) | (simp [DExpr.eq_iff]; omega))
  rename_i e1 e2 e3 e4 e5
  refine loopF (keep := keep141) (ib := ib141) (mk := mk141) mix (by kernel_rfl) (fun k : Nat => [(0, .ip 5 [a.c] 0 0), (1, .ip 5 [b.c] 0 0), (5, I k)]) (fun _ => h) (fun k => k ≤ a.fKids.length ∧ a.fKids.take k = b.fKids.take k) (fun k => a.fKids.length - k) 0 (by simp [SatL, tget, Heap.le_refl, DExpr.c_eq]) ?_
  intro k ⟨hk, hp⟩
  rw [DExpr.c_eq a, DExpr.c_eq b]
  simp (maxSteps := 1000000) -dsimp -implicitDefEqProofs only [go_sem, ↓reduceIte, keep141, ib141, mk141, Try.f141]
  repeat' (with_reducible first | intro _ | refine And.intro ?_ ?_)
  all_goals try omega
  · rename_i hlt
    have hlb : k < b.fKids.length := by omega
    first | refine CallSF.mk ((hc a.fKids[k] (List.getElem_mem hlt) b.fKids[k]).sub (by repeat' (first | exact SubL.nil | refine SubL.cons ?_ ?_ | exact Sub.refl _ | (rw [DExpr.c_eq]; exact Sub.refl _) | exact Sub.ipAt rfl rfl rfl | exact Sub.ip (map_get (by omega)) (by simp) | exact Sub.ipAt (map_get (by omega)) rfl rfl | exact Sub.ip (by simp [*]) (by simp) | exact Sub.ipAt (by simp [*]) (by rfl) (by rfl)))) ?_ | refine HFnF.mk ((hc a.fKids[k] (List.getElem_mem hlt) b.fKids[k]).sub (by repeat' (first | exact SubL.nil | refine SubL.cons ?_ ?_ | exact Sub.refl _ | (rw [DExpr.c_eq]; exact Sub.refl _) | exact Sub.ipAt rfl rfl rfl | exact Sub.ip (map_get (by omega)) (by simp) | exact Sub.ipAt (map_get (by omega)) rfl rfl | exact Sub.ip (by simp [*]) (by simp) | exact Sub.ipAt (by simp [*]) (by rfl) (by rfl)))) ?_
    simp (maxSteps := 1000000) -dsimp -implicitDefEqProofs only [go_sem, ↓reduceIte, keep141, ib141, mk141, Try.f141]
    repeat' (with_reducible first | intro _ | refine And.intro ?_ ?_)
    · rename_i he
      exact (decide_eq_false fun e => he (by simp only [e])).symm
    · rename_i he
      refine ⟨k + 1, ?_⟩
      repeat' (with_reducible refine And.intro ?_ ?_)
      all_goals try (rw [IntWalk.i64_in _ (by omega)]; first | rfl | omega)
      all_goals try omega
      all_goals try (repeat' (with_reducible first | exact Heap.le_refl _ | refine (le_upd (by first | assumption | exact And.right (by assumption))).2 ?_))
      exact take_step hlt hlb hp he
  · have hk' : k = a.fKids.length := by omega
    subst hk'
    exact (decide_eq_true (DExpr.eq_iff.2 ⟨e1, e2, e3, e4, eq_of_take e5 hp⟩)).symm
theorem l02Same (a b : DExpr) : Fn0 Try.prog 141 [.ip 5 [a.c] 0 0, .ip 5 [b.c] 0 0] (.bool (decide (a = b))) :=
  l02Same_step a b fun x hx y => l02Same x y
termination_by SizeOf.sizeOf a
decreasing_by exact DExpr.kid_lt hx
def keep130 : List Nat := [0, 1, 4, 5, 38, 45, 61]
def ib130 : List Nat := []
def mk130 : Marks := fun id => match id with | 1 => ([], [0, 1, 2, 3, 4, 5, 6, 7, 8, 9, 10, 11, 12, 13, 14, 15, 16, 17, 18, 19, 20, 21, 22, 23, 24, 25, 26, 27, 28, 29, 30, 31, 32]) | 6 => ([], [0, 1, 2, 3, 4, 5, 6, 7, 8, 9, 10, 11, 12, 13]) | _ => ([], [])
set_option maxRecDepth 100000 in
theorem l02SameFunc (a b : DFunc) : Fn0 Try.prog 130 [.ip 3 [a.c] 0 0, .ip 3 [b.c] 0 0] (.bool (decide (a = b))) := by
  simp only [DFunc.c_eq]
  refine fn0F 62 keep130 ib130 mk130 mix Try.func130 rfl (by kernel_rfl) (by simp) fun h => ?_
  simp (maxSteps := 1000000) -dsimp -implicitDefEqProofs only [go_sem, ↓reduceIte, keep130, ib130, mk130, Try.f130]
  repeat' (with_reducible first | intro _ | refine And.intro ?_ ?_)
  all_goals try (first | (simp [DFunc.eq_iff, *]; done) | omega | (grind [DFunc.eq_iff]) | (simp [DFunc.eq_iff]; omega))
  rename_i e1 e2 e3
  refine loopF (keep := keep130) (ib := ib130) (mk := mk130) mix (by kernel_rfl) (fun k : Nat => [(0, .ip 3 [a.c] 0 0), (1, .ip 3 [b.c] 0 0), (5, I k)]) (fun _ => h) (fun k => k ≤ (a.fOuts).length ∧ (a.fOuts).take k = (b.fOuts).take k) (fun k => (a.fOuts).length - k) 0 (by simp [SatL, tget, Heap.le_refl, DFunc.c_eq]) ?_
  intro k ⟨hk, hp⟩
  simp only [DFunc.c_eq]
  simp (maxSteps := 1000000) -dsimp -implicitDefEqProofs only [go_sem, ↓reduceIte, keep130, ib130, mk130, Try.f130]
  repeat' (with_reducible first | intro _ | refine And.intro ?_ ?_)
  all_goals try omega
  · rename_i hlt
    have hlb : k < (b.fOuts).length := by omega
    first | refine CallSF.mk (((fun x _ y => l02Same x y) (a.fOuts)[k] (List.getElem_mem hlt) (b.fOuts)[k]).sub (by repeat' (first | exact SubL.nil | refine SubL.cons ?_ ?_ | exact Sub.refl _ | (rw [DExpr.c_eq]; exact Sub.refl _) | exact Sub.ipAt rfl rfl rfl | exact Sub.ip (map_get (by omega)) (by simp) | exact Sub.ipAt (map_get (by omega)) rfl rfl | exact Sub.ip (by simp [*]) (by simp) | exact Sub.ipAt (by simp [*]) (by rfl) (by rfl)))) ?_ | refine HFnF.mk (((fun x _ y => l02Same x y) (a.fOuts)[k] (List.getElem_mem hlt) (b.fOuts)[k]).sub (by repeat' (first | exact SubL.nil | refine SubL.cons ?_ ?_ | exact Sub.refl _ | (rw [DExpr.c_eq]; exact Sub.refl _) | exact Sub.ipAt rfl rfl rfl | exact Sub.ip (map_get (by omega)) (by simp) | exact Sub.ipAt (map_get (by omega)) rfl rfl | exact Sub.ip (by simp [*]) (by simp) | exact Sub.ipAt (by simp [*]) (by rfl) (by rfl)))) ?_
    simp (maxSteps := 1000000) -dsimp -implicitDefEqProofs only [go_sem, ↓reduceIte, keep130, ib130, mk130, Try.f130]
    repeat' (with_reducible first | intro _ | refine And.intro ?_ ?_)
    · rename_i he
      exact (decide_eq_false fun e => he (getElem_of_eq (congrArg DFunc.fOuts e) hlt)).symm
    · rename_i he
      refine ⟨k + 1, ?_⟩
      repeat' (with_reducible refine And.intro ?_ ?_)
      all_goals try (rw [IntWalk.i64_in _ (by omega)]; first | rfl | omega)
      all_goals try omega
      all_goals try (repeat' (with_reducible first | exact Heap.le_refl _ | refine (le_upd (by first | assumption | exact And.right (by assumption))).2 ?_))
      exact take_step hlt hlb hp he
  · have hk' : k = (a.fOuts).length := by omega
    subst hk'
    have hq := eq_of_take e3 hp
    exact (decide_eq_true (DFunc.eq_iff.2 ⟨e1, e2, hq⟩)).symm
open Go.Proofs
set_option linter.unusedVariables false
set_option linter.unusedSimpArgs false
def keep108 : List Nat := [0, 1, 2, 3, 4, 5, 12, 17, 29]
def ib108 : List Nat := [2, 3]
def mk108 : Marks := fun id => match id with | 6 => ([], [0, 1, 2, 3, 4, 5, 6, 7, 8, 9]) | _ => ([], [])
set_option maxRecDepth 100000 in
theorem specSameProgram (a b : DProgram) : Fn0 Try.prog 108 [.agg a.c, .agg b.c] (.bool (decide (a = b))) := by
  simp only [DProgram.c_eq]
  refine fn0F 30 keep108 ib108 mk108 mix Try.func108 rfl (by kernel_rfl) (by simp) fun h => ?_
  simp (maxSteps := 1000000) -dsimp -implicitDefEqProofs only [go_sem, ↓reduceIte, keep108, ib108, mk108, Try.f108]
  repeat' (with_reducible first | intro _ | refine And.intro ?_ ?_)
  all_goals try (first | (simp [DProgram.eq_iff, *]; done) | omega | (grind [DProgram.eq_iff]) | (simp [DProgram.eq_iff]; omega))
  rename_i e3
  refine loopF (keep := keep108) (ib := ib108) (mk := mk108) mix (by kernel_rfl) (fun k : Nat => [(2, .ip 1 [a.c] 0 0), (3, .ip 1 [b.c] 0 0), (5, I k)]) (fun _ => h) (fun k => k ≤ (a.fFuncs).length ∧ (a.fFuncs).take k = (b.fFuncs).take k) (fun k => (a.fFuncs).length - k) 0 (by simp [SatL, tget, Heap.le_refl, DProgram.c_eq]) ?_
  intro k ⟨hk, hp⟩
  simp only [DProgram.c_eq]
  simp (maxSteps := 1000000) -dsimp -implicitDefEqProofs only [go_sem, ↓reduceIte, keep108, ib108, mk108, Try.f108]
  repeat' (with_reducible first | intro _ | refine And.intro ?_ ?_)
  all_goals try omega
  · rename_i hlt
    have hlb : k < (b.fFuncs).length := by omega
    first | refine CallSF.mk (((fun x _ y => l02SameFunc x y) (a.fFuncs)[k] (List.getElem_mem hlt) (b.fFuncs)[k]).sub (by repeat' (first | exact SubL.nil | refine SubL.cons ?_ ?_ | exact Sub.refl _ | (rw [DExpr.c_eq]; exact Sub.refl _) | exact Sub.ipAt rfl rfl rfl | exact Sub.ip (map_get (by omega)) (by simp) | exact Sub.ipAt (map_get (by omega)) rfl rfl | exact Sub.ip (by simp [*]) (by simp) | exact Sub.ipAt (by simp [*]) (by rfl) (by rfl)))) ?_ | refine HFnF.mk (((fun x _ y => l02SameFunc x y) (a.fFuncs)[k] (List.getElem_mem hlt) (b.fFuncs)[k]).sub (by repeat' (first | exact SubL.nil | refine SubL.cons ?_ ?_ | exact Sub.refl _ | (rw [DExpr.c_eq]; exact Sub.refl _) | exact Sub.ipAt rfl rfl rfl | exact Sub.ip (map_get (by omega)) (by simp) | exact Sub.ipAt (map_get (by omega)) rfl rfl | exact Sub.ip (by simp [*]) (by simp) | exact Sub.ipAt (by simp [*]) (by rfl) (by rfl)))) ?_
    simp (maxSteps := 1000000) -dsimp -implicitDefEqProofs only [go_sem, ↓reduceIte, keep108, ib108, mk108, Try.f108]
    repeat' (with_reducible first | intro _ | refine And.intro ?_ ?_)
    · rename_i he
      exact (decide_eq_false fun e => he (getElem_of_eq (congrArg DProgram.fFuncs e) hlt)).symm
    · rename_i he
      refine ⟨k + 1, ?_⟩
      repeat' (with_reducible refine And.intro ?_ ?_)
      all_goals try (rw [IntWalk.i64_in _ (by omega)]; first | rfl | omega)
      all_goals try omega
      all_goals try (repeat' (with_reducible first | exact Heap.le_refl _ | refine (le_upd (by first | assumption | exact And.right (by assumption))).2 ?_))
      exact take_step hlt hlb hp he
  · have hk' : k = (a.fFuncs).length := by omega
    subst hk'
    have hq := eq_of_take e3 hp
    exact (decide_eq_true (DProgram.eq_iff.2 hq)).symm
def keep74 : List Nat := [0, 1, 4, 5, 62, 69, 87]
def ib74 : List Nat := []
def mk74 : Marks := fun id => match id with | 1 => ([], [0, 1, 2, 3, 4, 5, 6, 7, 8, 9, 10, 11, 12, 13, 14, 15, 16, 17, 18, 19, 20, 21, 22, 23, 24, 25, 26, 27, 28, 29, 30, 31, 32, 33, 34, 35, 36, 37, 38, 39, 40, 41, 42, 43, 44, 45, 46, 47, 48, 49, 50, 51, 52, 53, 54, 55, 56]) | 6 => ([], [0, 1, 2, 3, 4, 5, 6, 7, 8, 9, 10, 11, 12, 13, 14, 15]) | _ => ([], [])
set_option maxRecDepth 100000 in
theorem l08SameJob (a b : DJob) : Fn0 Try.prog 74 [.ip 5 [a.c] 0 0, .ip 5 [b.c] 0 0] (.bool (decide (a = b))) := by
  simp only [DJob.c_eq]
  refine fn0F 88 keep74 ib74 mk74 mix Try.func74 rfl (by kernel_rfl) (by simp) fun h => ?_
  simp (maxSteps := 1000000) -dsimp -implicitDefEqProofs only [go_sem, ↓reduceIte, keep74, ib74, mk74, Try.f74]
  first | refine HFnF.mk (specSameProgram a.fProgram b.fProgram) ?_ | refine CallSF.mk (specSameProgram a.fProgram b.fProgram) ?_
  simp (maxSteps := 1000000) -dsimp -implicitDefEqProofs only [go_sem, ↓reduceIte, keep74, ib74, mk74, Try.f74]
  repeat' (with_reducible first | intro _ | refine And.intro ?_ ?_)
  all_goals try (first | (simp [DJob.eq_iff, *]; done) | omega | (grind [DJob.eq_iff]) | (simp [DJob.eq_iff]; omega))
  first | refine HFnF.mk (l00Same_Int64S a.fPoint b.fPoint) ?_ | refine CallSF.mk (l00Same_Int64S a.fPoint b.fPoint) ?_
  simp (maxSteps := 1000000) -dsimp -implicitDefEqProofs only [go_sem, ↓reduceIte, keep74, ib74, mk74, Try.f74]
  repeat' (with_reducible first | intro _ | refine And.intro ?_ ?_)
  all_goals try (first | (simp [DJob.eq_iff, *]; done) | omega | (grind [DJob.eq_iff]) | (simp [DJob.eq_iff]; omega))
  rename_i e1 e2 e3 e4 e5
  refine loopF (keep := keep74) (ib := ib74) (mk := mk74) mix (by kernel_rfl) (fun k : Nat => [(0, .ip 5 [a.c] 0 0), (1, .ip 5 [b.c] 0 0), (5, I k)]) (fun _ => h) (fun k => k ≤ a.fTerms.length ∧ a.fTerms.take k = b.fTerms.take k) (fun k => a.fTerms.length - k) 0 (by simp [SatL, tget, Heap.le_refl, DJob.c_eq]) ?_
  intro k ⟨hk, hp⟩
  simp only [DJob.c_eq]
  rcases Nat.lt_or_ge k a.fTerms.length with hlt | hge
  · have hlb : k < b.fTerms.length := by omega
    have ea : a.fTerms[k]? = some a.fTerms[k] := List.getElem?_eq_getElem hlt
    have eb : b.fTerms[k]? = some b.fTerms[k] := List.getElem?_eq_getElem hlb
    simp (maxSteps := 1000000) -dsimp -implicitDefEqProofs only [go_sem, ↓reduceIte, keep74, ib74, mk74, Try.f74, ea, eb]
    repeat' (with_reducible first | intro _ | refine And.intro ?_ ?_)
    all_goals try omega
    first | refine HFnF.mk (l00Same_Int64S a.fTerms[k] b.fTerms[k]) ?_ | refine CallSF.mk (l00Same_Int64S a.fTerms[k] b.fTerms[k]) ?_
    simp (maxSteps := 1000000) -dsimp -implicitDefEqProofs only [go_sem, ↓reduceIte, keep74, ib74, mk74, Try.f74]
    repeat' (with_reducible first | intro _ | refine And.intro ?_ ?_)
    · rename_i he
      exact (decide_eq_false fun e => he (by simp only [e])).symm
    · rename_i he
      refine ⟨k + 1, ?_⟩
      repeat' (with_reducible refine And.intro ?_ ?_)
      all_goals try (rw [IntWalk.i64_in _ (by omega)]; first | rfl | omega)
      all_goals try omega
      all_goals try (repeat' (with_reducible first | exact Heap.le_refl _ | refine (le_upd (by first | assumption | exact And.right (by assumption))).2 ?_))
      exact take_step hlt hlb hp he
  · have hk' : k = a.fTerms.length := by omega
    subst hk'
    simp (maxSteps := 1000000) -dsimp -implicitDefEqProofs only [go_sem, ↓reduceIte, keep74, ib74, mk74, Try.f74, Nat.lt_irrefl]
    exact fun _ => (decide_eq_true (DJob.eq_iff.2 ⟨e1, e2, e3, e4, eq_of_take e5 hp⟩)).symm
def keep90 : List Nat := [0, 1, 4, 5, 6, 52, 59, 76, 83, 99]
def ib90 : List Nat := []
def mk90 : Marks := fun id => match id with | 1 => ([], [0, 1, 2, 3, 4, 5, 6, 7, 8, 9, 10, 11, 12, 13, 14, 15, 16, 17, 18, 19, 20, 21, 22, 23, 24, 25, 26, 27, 28, 29, 30, 31, 32, 33, 34, 35, 36, 37, 38, 39, 40, 41, 42, 43, 44, 45]) | 6 => ([], [0, 1, 2, 3, 4, 5, 6, 7, 8, 9, 10, 11, 12, 13, 14]) | 11 => ([], [0, 1, 2, 3, 4, 5, 6, 7, 8, 9, 10, 11, 12, 13]) | _ => ([], [])
set_option maxRecDepth 100000 in
theorem l08SameKnown (a b : DService) : Fn0 Try.prog 90 [.ip 9 [a.c] 0 0, .ip 9 [b.c] 0 0] (.bool (decide (a.fJob = b.fJob ∧ a.fStamps = b.fStamps ∧ a.fKnown = b.fKnown ∧ a.fParts = b.fParts))) := by
  simp only [DService.c_eq]
  refine fn0F 100 keep90 ib90 mk90 mix Try.func90 rfl (by kernel_rfl) (by simp) fun h => ?_
  simp (maxSteps := 1000000) -dsimp -implicitDefEqProofs only [go_sem, ↓reduceIte, keep90, ib90, mk90, Try.f90]
  first | refine CallSF.mk ((l08SameJob a.fJob b.fJob).sub (by repeat' (first | exact SubL.nil | refine SubL.cons ?_ ?_ | exact Sub.refl _ | (rw [DExpr.c_eq]; exact Sub.refl _) | exact Sub.ipAt rfl rfl rfl | exact Sub.ip (map_get (by omega)) (by simp) | exact Sub.ipAt (map_get (by omega)) rfl rfl | exact Sub.ip (by simp [*]) (by simp) | exact Sub.ipAt (by simp [*]) (by rfl) (by rfl)))) ?_ | refine HFnF.mk ((l08SameJob a.fJob b.fJob).sub (by repeat' (first | exact SubL.nil | refine SubL.cons ?_ ?_ | exact Sub.refl _ | (rw [DExpr.c_eq]; exact Sub.refl _) | exact Sub.ipAt rfl rfl rfl | exact Sub.ip (map_get (by omega)) (by simp) | exact Sub.ipAt (map_get (by omega)) rfl rfl | exact Sub.ip (by simp [*]) (by simp) | exact Sub.ipAt (by simp [*]) (by rfl) (by rfl)))) ?_
  simp (maxSteps := 1000000) -dsimp -implicitDefEqProofs only [go_sem, ↓reduceIte, keep90, ib90, mk90, Try.f90]
  repeat' (with_reducible first | intro _ | refine And.intro ?_ ?_)
  all_goals try (first | (simp [DService.eq_iff, *]; done) | omega | (grind [DService.eq_iff]) | (simp [DService.eq_iff]; omega))
  first | refine HFnF.mk (l00Same_Int64S a.fStamps b.fStamps) ?_ | refine CallSF.mk (l00Same_Int64S a.fStamps b.fStamps) ?_
  simp (maxSteps := 1000000) -dsimp -implicitDefEqProofs only [go_sem, ↓reduceIte, keep90, ib90, mk90, Try.f90]
  repeat' (with_reducible first | intro _ | refine And.intro ?_ ?_)
  all_goals try (first | (simp [DService.eq_iff, *]; done) | omega | (grind [DService.eq_iff]) | (simp [DService.eq_iff]; omega))
  rename_i e1 e2 e3 e4
  refine loopF (keep := keep90) (ib := ib90) (mk := mk90) mix (by kernel_rfl) (fun k : Nat => [(0, .ip 9 [a.c] 0 0), (1, .ip 9 [b.c] 0 0), (5, I k)]) (fun _ => h) (fun k => k ≤ a.fKnown.length ∧ a.fKnown.take k = b.fKnown.take k) (fun k => a.fKnown.length - k) 0 (by simp [SatL, tget, Heap.le_refl, DService.c_eq]) ?_
  intro k ⟨hk, hp⟩
  simp only [DService.c_eq]
  rcases Nat.lt_or_ge k a.fKnown.length with hlt | hge
  · have hlb : k < b.fKnown.length := by omega
    have ea : a.fKnown[k]? = some a.fKnown[k] := List.getElem?_eq_getElem hlt
    have eb : b.fKnown[k]? = some b.fKnown[k] := List.getElem?_eq_getElem hlb
    simp (maxSteps := 1000000) -dsimp -implicitDefEqProofs only [go_sem, ↓reduceIte, keep90, ib90, mk90, Try.f90, ea, eb]
    repeat' (with_reducible first | intro _ | refine And.intro ?_ ?_)
    all_goals try omega
    · rename_i he
      refine (decide_eq_false fun e => ?_).symm
      have := getElem_of_eq e.2.2.1 hlt (hb := hlb)
      simp [this] at he
    · rename_i he
      refine ⟨k + 1, ?_⟩
      repeat' (with_reducible refine And.intro ?_ ?_)
      all_goals try (rw [IntWalk.i64_in _ (by omega)]; first | rfl | omega)
      all_goals try omega
      all_goals try (repeat' (with_reducible first | exact Heap.le_refl _ | refine (le_upd (by first | assumption | exact And.right (by assumption))).2 ?_))
      exact take_step hlt hlb hp (by simpa using he)
  · have hk' : k = a.fKnown.length := by omega
    subst hk'
    have ek := eq_of_take e3 hp
    simp (maxSteps := 1000000) -dsimp -implicitDefEqProofs only [go_sem, ↓reduceIte, keep90, ib90, mk90, Try.f90, Nat.lt_irrefl]
    intro _
    refine loopF (keep := keep90) (ib := ib90) (mk := mk90) mix (by kernel_rfl) (fun k : Nat => [(0, .ip 9 [a.c] 0 0), (1, .ip 9 [b.c] 0 0), (6, I k)]) (fun _ => h) (fun k => k ≤ (a.fParts).length ∧ (a.fParts).take k = (b.fParts).take k) (fun k => (a.fParts).length - k) 0 (by simp [SatL, tget, Heap.le_refl, DService.c_eq]) ?_
    intro k ⟨hk, hp⟩
    simp only [DService.c_eq]
    simp (maxSteps := 1000000) -dsimp -implicitDefEqProofs only [go_sem, ↓reduceIte, keep90, ib90, mk90, Try.f90]
    repeat' (with_reducible first | intro _ | refine And.intro ?_ ?_)
    all_goals try omega
    · rename_i hlt
      have hlb : k < (b.fParts).length := by omega
      first | refine CallSF.mk (((fun x _ y => l08SamePart x y) (a.fParts)[k] (List.getElem_mem hlt) (b.fParts)[k]).sub (by repeat' (first | exact SubL.nil | refine SubL.cons ?_ ?_ | exact Sub.refl _ | (rw [DExpr.c_eq]; exact Sub.refl _) | exact Sub.ipAt rfl rfl rfl | exact Sub.ip (map_get (by omega)) (by simp) | exact Sub.ipAt (map_get (by omega)) rfl rfl | exact Sub.ip (by simp [*]) (by simp) | exact Sub.ipAt (by simp [*]) (by rfl) (by rfl)))) ?_ | refine HFnF.mk (((fun x _ y => l08SamePart x y) (a.fParts)[k] (List.getElem_mem hlt) (b.fParts)[k]).sub (by repeat' (first | exact SubL.nil | refine SubL.cons ?_ ?_ | exact Sub.refl _ | (rw [DExpr.c_eq]; exact Sub.refl _) | exact Sub.ipAt rfl rfl rfl | exact Sub.ip (map_get (by omega)) (by simp) | exact Sub.ipAt (map_get (by omega)) rfl rfl | exact Sub.ip (by simp [*]) (by simp) | exact Sub.ipAt (by simp [*]) (by rfl) (by rfl)))) ?_
      simp (maxSteps := 1000000) -dsimp -implicitDefEqProofs only [go_sem, ↓reduceIte, keep90, ib90, mk90, Try.f90]
      repeat' (with_reducible first | intro _ | refine And.intro ?_ ?_)
      · rename_i he
        exact (decide_eq_false fun e => he (getElem_of_eq (e.2.2.2) hlt)).symm
      · rename_i he
        refine ⟨k + 1, ?_⟩
        repeat' (with_reducible refine And.intro ?_ ?_)
        all_goals try (rw [IntWalk.i64_in _ (by omega)]; first | rfl | omega)
        all_goals try omega
        all_goals try (repeat' (with_reducible first | exact Heap.le_refl _ | refine (le_upd (by first | assumption | exact And.right (by assumption))).2 ?_))
        exact take_step hlt hlb hp he
    · have hk' : k = (a.fParts).length := by omega
      subst hk'
      have hq := eq_of_take e4 hp
      exact (decide_eq_true ⟨e1, e2, ek, hq⟩).symm
def keep50 : List Nat := [0, 1, 4]
def ib50 : List Nat := []
def mk50 : Marks := fun id => match id with | 1 => ([], [0, 1, 2, 3, 4, 5, 6, 7, 8, 9, 10, 11, 12, 13, 14]) | _ => ([], [])
set_option maxRecDepth 100000 in
theorem l08Same (a b : DService) : Fn0 Try.prog 50 [.ip 9 [a.c] 0 0, .ip 9 [b.c] 0 0] (.bool (decide (a = b))) := by
  simp only [DService.c_eq]
  refine fn0F 19 keep50 ib50 mk50 mix Try.func50 rfl (by kernel_rfl) (by simp) fun h => ?_
  simp (maxSteps := 1000000) -dsimp -implicitDefEqProofs only [go_sem, ↓reduceIte, keep50, ib50, mk50, Try.f50]
  first | refine CallSF.mk ((l08SameKnown a b).sub (by repeat' (first | exact SubL.nil | refine SubL.cons ?_ ?_ | exact Sub.refl _ | (rw [DExpr.c_eq]; exact Sub.refl _) | exact Sub.ipAt rfl rfl rfl | exact Sub.ip (map_get (by omega)) (by simp) | exact Sub.ipAt (map_get (by omega)) rfl rfl | exact Sub.ip (by simp [*]) (by simp) | exact Sub.ipAt (by simp [*]) (by rfl) (by rfl)))) ?_ | refine HFnF.mk ((l08SameKnown a b).sub (by repeat' (first | exact SubL.nil | refine SubL.cons ?_ ?_ | exact Sub.refl _ | (rw [DExpr.c_eq]; exact Sub.refl _) | exact Sub.ipAt rfl rfl rfl | exact Sub.ip (map_get (by omega)) (by simp) | exact Sub.ipAt (map_get (by omega)) rfl rfl | exact Sub.ip (by simp [*]) (by simp) | exact Sub.ipAt (by simp [*]) (by rfl) (by rfl)))) ?_
  simp (maxSteps := 1000000) -dsimp -implicitDefEqProofs only [go_sem, ↓reduceIte, keep50, ib50, mk50, Try.f50]
  repeat' (with_reducible first | intro _ | refine And.intro ?_ ?_)
  all_goals try (first | (simp [DService.eq_iff, *]; done) | omega | (grind [DService.eq_iff]) | (simp [DService.eq_iff]; omega))
  first | refine HFnF.mk (l00Same_Int64S a.fOwners b.fOwners) ?_ | refine CallSF.mk (l00Same_Int64S a.fOwners b.fOwners) ?_
  simp (maxSteps := 1000000) -dsimp -implicitDefEqProofs only [go_sem, ↓reduceIte, keep50, ib50, mk50, Try.f50]
  all_goals try (first | (simp [DService.eq_iff, *]; done) | omega | (grind [DService.eq_iff]) | (simp [DService.eq_iff]; omega))
def keep17 : List Nat := [0, 1, 2, 3, 4]
def ib17 : List Nat := [2, 3]
def mk17 : Marks := fun _ => ([], [])
set_option maxRecDepth 100000 in
theorem specSameService (a b : DService) : Fn0 Try.prog 17 [.agg a.c, .agg b.c] (.bool (decide (a = b))) := by
  simp only [DService.c_eq]
  refine fn0F 6 keep17 ib17 mk17 mix Try.func17 rfl (by kernel_rfl) (by simp) fun h => ?_
  simp (maxSteps := 1000000) -dsimp -implicitDefEqProofs only [go_sem, ↓reduceIte, keep17, ib17, mk17, Try.f17]
  first | refine CallSF.mk ((l08Same a b).sub (by repeat' (first | exact SubL.nil | refine SubL.cons ?_ ?_ | exact Sub.refl _ | (rw [DExpr.c_eq]; exact Sub.refl _) | exact Sub.ipAt rfl rfl rfl | exact Sub.ip (map_get (by omega)) (by simp) | exact Sub.ipAt (map_get (by omega)) rfl rfl | exact Sub.ip (by simp [*]) (by simp) | exact Sub.ipAt (by simp [*]) (by rfl) (by rfl)))) ?_ | refine HFnF.mk ((l08Same a b).sub (by repeat' (first | exact SubL.nil | refine SubL.cons ?_ ?_ | exact Sub.refl _ | (rw [DExpr.c_eq]; exact Sub.refl _) | exact Sub.ipAt rfl rfl rfl | exact Sub.ip (map_get (by omega)) (by simp) | exact Sub.ipAt (map_get (by omega)) rfl rfl | exact Sub.ip (by simp [*]) (by simp) | exact Sub.ipAt (by simp [*]) (by rfl) (by rfl)))) ?_
  simp (maxSteps := 1000000) -dsimp -implicitDefEqProofs only [go_sem, ↓reduceIte, keep17, ib17, mk17, Try.f17]
open Go.Proofs
set_option linter.unusedVariables false
set_option linter.unusedSimpArgs false
def keep56 : List Nat := [0, 1, 2, 6, 7, 8, 9, 14, 15, 16, 17, 18, 30]
def ib56 : List Nat := []
def mk56 : Marks := fun _ => ([], [])
set_option maxRecDepth 100000 in
theorem slEqF_PartS (a b : List DPart) (g : FuncId) (cap : List HVal) (hc : ∀ x ∈ a, ∀ y, Fn0 Try.prog g ([(.agg (DPart.c x)), (.agg (DPart.c y))] ++ cap) (.bool (decide (x = y)))) : Fn0 Try.prog 56 [(sls 3 DPart.c a), (sls 3 DPart.c b), .fn (.func g) [] cap] (.bool (decide (a = b))) := by
  refine fn0F 32 keep56 ib56 mk56 mix Try.func56 rfl (by kernel_rfl) (by simp) fun h => ?_
  simp -dsimp -implicitDefEqProofs only [go_sem, ↓reduceIte, keep56, ib56, mk56, Try.f56]
  refine fun _ _ => ⟨fun hne => ?_, fun heq => ?_⟩
  · exact (decide_eq_false fun e => hne (by rw [e])).symm
  · refine fun _ => ?_
    refine loopF (keep := keep56) (ib := ib56) (mk := mk56) mix (by kernel_rfl) (fun k : Nat => [(0, (sls 3 DPart.c a)), (1, (sls 3 DPart.c b)), (2, .fn (.func g) [] cap), (15, (sls 3 DPart.c a)), (16, I a.length), (17, I k)]) (fun _ => h) (fun k => k ≤ a.length ∧ a.take k = b.take k) (fun k => a.length - k) 0 (by simp [SatL, tget, Heap.le_refl]) ?_
    intro k ⟨hk, hp⟩
    rcases Nat.lt_or_ge k a.length with hlt | hge
    · have hlb : k < b.length := by omega
      have ea : a[k]? = some a[k] := List.getElem?_eq_getElem hlt
      have eb : b[k]? = some b[k] := List.getElem?_eq_getElem hlb
      simp -dsimp -implicitDefEqProofs only [go_sem, ↓reduceIte, keep56, ib56, mk56, Try.f56, ea, eb, DPart.c_eq]
      refine ⟨fun _ => ⟨hlt, fun n hn => ⟨hlb, fun m hm => ?_⟩⟩, fun hn => absurd hlt hn⟩
      have e1 : (n = m) = False := eq_false fun e => hm.1 e.symm
      have e2 : (m = n) = False := eq_false hm.1
      simp -dsimp -implicitDefEqProofs only [go_sem, ↓reduceIte, keep56, ib56, mk56, Try.f56, upd_upd, upd_get, e1, e2]
      have hx := hc a[k] (List.getElem_mem hlt) b[k]
      simp only [DPart.c_eq] at hx
      refine HFnF.mk hx ?_
      by_cases he : a[k] = b[k]
      · have d := decide_eq_true he
        simp -dsimp -implicitDefEqProofs only [go_sem, ↓reduceIte, keep56, ib56, mk56, Try.f56, d]
        refine ⟨k + 1, by rw [IntWalk.i64_in _ (by omega)]; rfl, ?_, ⟨by omega, take_step hlt hlb hp he⟩, by omega⟩
        simp only [go_sem, hn, hm, e1, e2, upd_get]
      · have d := decide_eq_false he
        simp -dsimp -implicitDefEqProofs only [go_sem, ↓reduceIte, keep56, ib56, mk56, Try.f56, d]
        refine ⟨(decide_eq_false fun e => he (getElem_of_eq e hlt)).symm, ?_⟩
        simp only [go_sem, hn, hm, e1, e2, upd_get]
    · have hk' : k = a.length := by omega
      subst hk'
      simp -dsimp -implicitDefEqProofs only [go_sem, ↓reduceIte, keep56, ib56, mk56, Try.f56, Nat.lt_irrefl]
      exact (decide_eq_true (eq_of_take heq hp)).symm

def keep117 : List Nat := [0, 1, 2, 6, 7, 8, 9, 14, 15, 16, 17, 18, 30]
def ib117 : List Nat := []
def mk117 : Marks := fun _ => ([], [])
set_option maxRecDepth 100000 in
theorem slEqF_ExprS (a b : List DExpr) (g : FuncId) (cap : List HVal) (hc : ∀ x ∈ a, ∀ y, Fn0 Try.prog g ([(.agg (DExpr.c x)), (.agg (DExpr.c y))] ++ cap) (.bool (decide (x = y)))) : Fn0 Try.prog 117 [(sls 5 DExpr.c a), (sls 5 DExpr.c b), .fn (.func g) [] cap] (.bool (decide (a = b))) := by
  refine fn0F 32 keep117 ib117 mk117 mix Try.func117 rfl (by kernel_rfl) (by simp) fun h => ?_
  simp -dsimp -implicitDefEqProofs only [go_sem, ↓reduceIte, keep117, ib117, mk117, Try.f117]
  refine fun _ _ => ⟨fun hne => ?_, fun heq => ?_⟩
  · exact (decide_eq_false fun e => hne (by rw [e])).symm
  · refine fun _ => ?_
    refine loopF (keep := keep117) (ib := ib117) (mk := mk117) mix (by kernel_rfl) (fun k : Nat => [(0, (sls 5 DExpr.c a)), (1, (sls 5 DExpr.c b)), (2, .fn (.func g) [] cap), (15, (sls 5 DExpr.c a)), (16, I a.length), (17, I k)]) (fun _ => h) (fun k => k ≤ a.length ∧ a.take k = b.take k) (fun k => a.length - k) 0 (by simp [SatL, tget, Heap.le_refl]) ?_
    intro k ⟨hk, hp⟩
    rcases Nat.lt_or_ge k a.length with hlt | hge
    · have hlb : k < b.length := by omega
      have ea : a[k]? = some a[k] := List.getElem?_eq_getElem hlt
      have eb : b[k]? = some b[k] := List.getElem?_eq_getElem hlb
      simp -dsimp -implicitDefEqProofs only [go_sem, ↓reduceIte, keep117, ib117, mk117, Try.f117, ea, eb, DExpr.c_eq]
      refine ⟨fun _ => ⟨hlt, fun n hn => ⟨hlb, fun m hm => ?_⟩⟩, fun hn => absurd hlt hn⟩
      have e1 : (n = m) = False := eq_false fun e => hm.1 e.symm
      have e2 : (m = n) = False := eq_false hm.1
      simp -dsimp -implicitDefEqProofs only [go_sem, ↓reduceIte, keep117, ib117, mk117, Try.f117, upd_upd, upd_get, e1, e2]
      have hx := hc a[k] (List.getElem_mem hlt) b[k]
      simp only [DExpr.c_eq] at hx
      refine HFnF.mk hx ?_
      by_cases he : a[k] = b[k]
      · have d := decide_eq_true he
        simp -dsimp -implicitDefEqProofs only [go_sem, ↓reduceIte, keep117, ib117, mk117, Try.f117, d]
        refine ⟨k + 1, by rw [IntWalk.i64_in _ (by omega)]; rfl, ?_, ⟨by omega, take_step hlt hlb hp he⟩, by omega⟩
        simp only [go_sem, hn, hm, e1, e2, upd_get]
      · have d := decide_eq_false he
        simp -dsimp -implicitDefEqProofs only [go_sem, ↓reduceIte, keep117, ib117, mk117, Try.f117, d]
        refine ⟨(decide_eq_false fun e => he (getElem_of_eq e hlt)).symm, ?_⟩
        simp only [go_sem, hn, hm, e1, e2, upd_get]
    · have hk' : k = a.length := by omega
      subst hk'
      simp -dsimp -implicitDefEqProofs only [go_sem, ↓reduceIte, keep117, ib117, mk117, Try.f117, Nat.lt_irrefl]
      exact (decide_eq_true (eq_of_take heq hp)).symm

def keep115 : List Nat := [0, 1, 2, 6, 7, 8, 9, 14, 15, 16, 17, 18, 30]
def ib115 : List Nat := []
def mk115 : Marks := fun _ => ([], [])
set_option maxRecDepth 100000 in
theorem slEqF_FuncS (a b : List DFunc) (g : FuncId) (cap : List HVal) (hc : ∀ x ∈ a, ∀ y, Fn0 Try.prog g ([(.agg (DFunc.c x)), (.agg (DFunc.c y))] ++ cap) (.bool (decide (x = y)))) : Fn0 Try.prog 115 [(sls 3 DFunc.c a), (sls 3 DFunc.c b), .fn (.func g) [] cap] (.bool (decide (a = b))) := by
  refine fn0F 32 keep115 ib115 mk115 mix Try.func115 rfl (by kernel_rfl) (by simp) fun h => ?_
  simp -dsimp -implicitDefEqProofs only [go_sem, ↓reduceIte, keep115, ib115, mk115, Try.f115]
  refine fun _ _ => ⟨fun hne => ?_, fun heq => ?_⟩
  · exact (decide_eq_false fun e => hne (by rw [e])).symm
  · refine fun _ => ?_
    refine loopF (keep := keep115) (ib := ib115) (mk := mk115) mix (by kernel_rfl) (fun k : Nat => [(0, (sls 3 DFunc.c a)), (1, (sls 3 DFunc.c b)), (2, .fn (.func g) [] cap), (15, (sls 3 DFunc.c a)), (16, I a.length), (17, I k)]) (fun _ => h) (fun k => k ≤ a.length ∧ a.take k = b.take k) (fun k => a.length - k) 0 (by simp [SatL, tget, Heap.le_refl]) ?_
    intro k ⟨hk, hp⟩
    rcases Nat.lt_or_ge k a.length with hlt | hge
    · have hlb : k < b.length := by omega
      have ea : a[k]? = some a[k] := List.getElem?_eq_getElem hlt
      have eb : b[k]? = some b[k] := List.getElem?_eq_getElem hlb
      simp -dsimp -implicitDefEqProofs only [go_sem, ↓reduceIte, keep115, ib115, mk115, Try.f115, ea, eb, DFunc.c_eq]
      refine ⟨fun _ => ⟨hlt, fun n hn => ⟨hlb, fun m hm => ?_⟩⟩, fun hn => absurd hlt hn⟩
      have e1 : (n = m) = False := eq_false fun e => hm.1 e.symm
      have e2 : (m = n) = False := eq_false hm.1
      simp -dsimp -implicitDefEqProofs only [go_sem, ↓reduceIte, keep115, ib115, mk115, Try.f115, upd_upd, upd_get, e1, e2]
      have hx := hc a[k] (List.getElem_mem hlt) b[k]
      simp only [DFunc.c_eq] at hx
      refine HFnF.mk hx ?_
      by_cases he : a[k] = b[k]
      · have d := decide_eq_true he
        simp -dsimp -implicitDefEqProofs only [go_sem, ↓reduceIte, keep115, ib115, mk115, Try.f115, d]
        refine ⟨k + 1, by rw [IntWalk.i64_in _ (by omega)]; rfl, ?_, ⟨by omega, take_step hlt hlb hp he⟩, by omega⟩
        simp only [go_sem, hn, hm, e1, e2, upd_get]
      · have d := decide_eq_false he
        simp -dsimp -implicitDefEqProofs only [go_sem, ↓reduceIte, keep115, ib115, mk115, Try.f115, d]
        refine ⟨(decide_eq_false fun e => he (getElem_of_eq e hlt)).symm, ?_⟩
        simp only [go_sem, hn, hm, e1, e2, upd_get]
    · have hk' : k = a.length := by omega
      subst hk'
      simp -dsimp -implicitDefEqProofs only [go_sem, ↓reduceIte, keep115, ib115, mk115, Try.f115, Nat.lt_irrefl]
      exact (decide_eq_true (eq_of_take heq hp)).symm

def keep111 : List Nat := [0, 1, 2, 6, 7, 8, 9, 14, 15, 16, 17, 18, 30]
def ib111 : List Nat := []
def mk111 : Marks := fun _ => ([], [])
set_option maxRecDepth 100000 in
theorem slEqF_ReportS (a b : List DReport) (g : FuncId) (cap : List HVal) (hc : ∀ x ∈ a, ∀ y, Fn0 Try.prog g ([(.agg (DReport.c x)), (.agg (DReport.c y))] ++ cap) (.bool (decide (x = y)))) : Fn0 Try.prog 111 [(sls 5 DReport.c a), (sls 5 DReport.c b), .fn (.func g) [] cap] (.bool (decide (a = b))) := by
  refine fn0F 32 keep111 ib111 mk111 mix Try.func111 rfl (by kernel_rfl) (by simp) fun h => ?_
  simp -dsimp -implicitDefEqProofs only [go_sem, ↓reduceIte, keep111, ib111, mk111, Try.f111]
  refine fun _ _ => ⟨fun hne => ?_, fun heq => ?_⟩
  · exact (decide_eq_false fun e => hne (by rw [e])).symm
  · refine fun _ => ?_
    refine loopF (keep := keep111) (ib := ib111) (mk := mk111) mix (by kernel_rfl) (fun k : Nat => [(0, (sls 5 DReport.c a)), (1, (sls 5 DReport.c b)), (2, .fn (.func g) [] cap), (15, (sls 5 DReport.c a)), (16, I a.length), (17, I k)]) (fun _ => h) (fun k => k ≤ a.length ∧ a.take k = b.take k) (fun k => a.length - k) 0 (by simp [SatL, tget, Heap.le_refl]) ?_
    intro k ⟨hk, hp⟩
    rcases Nat.lt_or_ge k a.length with hlt | hge
    · have hlb : k < b.length := by omega
      have ea : a[k]? = some a[k] := List.getElem?_eq_getElem hlt
      have eb : b[k]? = some b[k] := List.getElem?_eq_getElem hlb
      simp -dsimp -implicitDefEqProofs only [go_sem, ↓reduceIte, keep111, ib111, mk111, Try.f111, ea, eb, DReport.c_eq]
      refine ⟨fun _ => ⟨hlt, fun n hn => ⟨hlb, fun m hm => ?_⟩⟩, fun hn => absurd hlt hn⟩
      have e1 : (n = m) = False := eq_false fun e => hm.1 e.symm
      have e2 : (m = n) = False := eq_false hm.1
      simp -dsimp -implicitDefEqProofs only [go_sem, ↓reduceIte, keep111, ib111, mk111, Try.f111, upd_upd, upd_get, e1, e2]
      have hx := hc a[k] (List.getElem_mem hlt) b[k]
      simp only [DReport.c_eq] at hx
      refine HFnF.mk hx ?_
      by_cases he : a[k] = b[k]
      · have d := decide_eq_true he
        simp -dsimp -implicitDefEqProofs only [go_sem, ↓reduceIte, keep111, ib111, mk111, Try.f111, d]
        refine ⟨k + 1, by rw [IntWalk.i64_in _ (by omega)]; rfl, ?_, ⟨by omega, take_step hlt hlb hp he⟩, by omega⟩
        simp only [go_sem, hn, hm, e1, e2, upd_get]
      · have d := decide_eq_false he
        simp -dsimp -implicitDefEqProofs only [go_sem, ↓reduceIte, keep111, ib111, mk111, Try.f111, d]
        refine ⟨(decide_eq_false fun e => he (getElem_of_eq e hlt)).symm, ?_⟩
        simp only [go_sem, hn, hm, e1, e2, upd_get]
    · have hk' : k = a.length := by omega
      subst hk'
      simp -dsimp -implicitDefEqProofs only [go_sem, ↓reduceIte, keep111, ib111, mk111, Try.f111, Nat.lt_irrefl]
      exact (decide_eq_true (eq_of_take heq hp)).symm

def keep94 : List Nat := [0, 1, 2, 6, 7, 8, 9, 14, 15, 16, 17, 18, 30]
def ib94 : List Nat := []
def mk94 : Marks := fun _ => ([], [])
set_option maxRecDepth 100000 in
theorem slEqF_Int64SS (a b : List (List Int)) (g : FuncId) (cap : List HVal) (hc : ∀ x ∈ a, ∀ y, Fn0 Try.prog g ([(sls 1 (fun n => [I n]) x), (sls 1 (fun n => [I n]) y)] ++ cap) (.bool (decide (x = y)))) : Fn0 Try.prog 94 [(sls 1 (fun x => [sls 1 (fun n => [I n]) x]) a), (sls 1 (fun x => [sls 1 (fun n => [I n]) x]) b), .fn (.func g) [] cap] (.bool (decide (a = b))) := by
  refine fn0F 32 keep94 ib94 mk94 mix Try.func94 rfl (by kernel_rfl) (by simp) fun h => ?_
  simp -dsimp -implicitDefEqProofs only [go_sem, ↓reduceIte, keep94, ib94, mk94, Try.f94]
  refine fun _ _ => ⟨fun hne => ?_, fun heq => ?_⟩
  · exact (decide_eq_false fun e => hne (by rw [e])).symm
  · refine fun _ => ?_
    refine loopF (keep := keep94) (ib := ib94) (mk := mk94) mix (by kernel_rfl) (fun k : Nat => [(0, (sls 1 (fun x => [sls 1 (fun n => [I n]) x]) a)), (1, (sls 1 (fun x => [sls 1 (fun n => [I n]) x]) b)), (2, .fn (.func g) [] cap), (15, (sls 1 (fun x => [sls 1 (fun n => [I n]) x]) a)), (16, I a.length), (17, I k)]) (fun _ => h) (fun k => k ≤ a.length ∧ a.take k = b.take k) (fun k => a.length - k) 0 (by simp [SatL, tget, Heap.le_refl]) ?_
    intro k ⟨hk, hp⟩
    rcases Nat.lt_or_ge k a.length with hlt | hge
    · have hlb : k < b.length := by omega
      have ea : a[k]? = some a[k] := List.getElem?_eq_getElem hlt
      have eb : b[k]? = some b[k] := List.getElem?_eq_getElem hlb
      simp -dsimp -implicitDefEqProofs only [go_sem, ↓reduceIte, keep94, ib94, mk94, Try.f94, ea, eb]
      refine ⟨fun _ => ⟨hlt, hlb, ?_⟩, fun hn => absurd hlt hn⟩
      have hx := hc a[k] (List.getElem_mem hlt) b[k]
      refine HFnF.mk hx ?_
      by_cases he : a[k] = b[k]
      · have d := decide_eq_true he
        simp -dsimp -implicitDefEqProofs only [go_sem, ↓reduceIte, keep94, ib94, mk94, Try.f94, d]
        refine ⟨k + 1, by rw [IntWalk.i64_in _ (by omega)]; rfl, ⟨by omega, take_step hlt hlb hp he⟩, by omega⟩
      · have d := decide_eq_false he
        simp -dsimp -implicitDefEqProofs only [go_sem, ↓reduceIte, keep94, ib94, mk94, Try.f94, d]
        exact (decide_eq_false fun e => he (getElem_of_eq e hlt)).symm
    · have hk' : k = a.length := by omega
      subst hk'
      simp -dsimp -implicitDefEqProofs only [go_sem, ↓reduceIte, keep94, ib94, mk94, Try.f94, Nat.lt_irrefl]
      exact (decide_eq_true (eq_of_take heq hp)).symm

def keep78 : List Nat := [0, 1, 2, 6, 7, 8, 9, 14, 15, 16, 17, 18, 30]
def ib78 : List Nat := []
def mk78 : Marks := fun _ => ([], [])
set_option maxRecDepth 100000 in
theorem slEqF_ReportSS (a b : List (List DReport)) (g : FuncId) (cap : List HVal) (hc : ∀ x ∈ a, ∀ y, Fn0 Try.prog g ([(sls 5 DReport.c x), (sls 5 DReport.c y)] ++ cap) (.bool (decide (x = y)))) : Fn0 Try.prog 78 [(sls 1 (fun x => [sls 5 DReport.c x]) a), (sls 1 (fun x => [sls 5 DReport.c x]) b), .fn (.func g) [] cap] (.bool (decide (a = b))) := by
  refine fn0F 32 keep78 ib78 mk78 mix Try.func78 rfl (by kernel_rfl) (by simp) fun h => ?_
  simp -dsimp -implicitDefEqProofs only [go_sem, ↓reduceIte, keep78, ib78, mk78, Try.f78]
  refine fun _ _ => ⟨fun hne => ?_, fun heq => ?_⟩
  · exact (decide_eq_false fun e => hne (by rw [e])).symm
  · refine fun _ => ?_
    refine loopF (keep := keep78) (ib := ib78) (mk := mk78) mix (by kernel_rfl) (fun k : Nat => [(0, (sls 1 (fun x => [sls 5 DReport.c x]) a)), (1, (sls 1 (fun x => [sls 5 DReport.c x]) b)), (2, .fn (.func g) [] cap), (15, (sls 1 (fun x => [sls 5 DReport.c x]) a)), (16, I a.length), (17, I k)]) (fun _ => h) (fun k => k ≤ a.length ∧ a.take k = b.take k) (fun k => a.length - k) 0 (by simp [SatL, tget, Heap.le_refl]) ?_
    intro k ⟨hk, hp⟩
    rcases Nat.lt_or_ge k a.length with hlt | hge
    · have hlb : k < b.length := by omega
      have ea : a[k]? = some a[k] := List.getElem?_eq_getElem hlt
      have eb : b[k]? = some b[k] := List.getElem?_eq_getElem hlb
      simp -dsimp -implicitDefEqProofs only [go_sem, ↓reduceIte, keep78, ib78, mk78, Try.f78, ea, eb]
      refine ⟨fun _ => ⟨hlt, hlb, ?_⟩, fun hn => absurd hlt hn⟩
      have hx := hc a[k] (List.getElem_mem hlt) b[k]
      refine HFnF.mk hx ?_
      by_cases he : a[k] = b[k]
      · have d := decide_eq_true he
        simp -dsimp -implicitDefEqProofs only [go_sem, ↓reduceIte, keep78, ib78, mk78, Try.f78, d]
        refine ⟨k + 1, by rw [IntWalk.i64_in _ (by omega)]; rfl, ⟨by omega, take_step hlt hlb hp he⟩, by omega⟩
      · have d := decide_eq_false he
        simp -dsimp -implicitDefEqProofs only [go_sem, ↓reduceIte, keep78, ib78, mk78, Try.f78, d]
        exact (decide_eq_false fun e => he (getElem_of_eq e hlt)).symm
    · have hk' : k = a.length := by omega
      subst hk'
      simp -dsimp -implicitDefEqProofs only [go_sem, ↓reduceIte, keep78, ib78, mk78, Try.f78, Nat.lt_irrefl]
      exact (decide_eq_true (eq_of_take heq hp)).symm

open Go.Proofs
set_option linter.unusedVariables false
set_option linter.unusedSimpArgs false
def keep57 : List Nat := [0, 1, 2, 3, 4]
def ib57 : List Nat := [2, 3]
def mk57 : Marks := fun _ => ([], [])
set_option maxRecDepth 100000 in
theorem samePart (a b : DPart) : Fn0 Try.prog 57 [.agg a.c, .agg b.c] (.bool (decide (a = b))) := by
  simp only [DPart.c_eq]
  refine fn0F 24 keep57 ib57 mk57 mix Try.func57 rfl (by kernel_rfl) (by simp) fun h => ?_
  simp (maxSteps := 1000000) -dsimp -implicitDefEqProofs only [go_sem, ↓reduceIte, keep57, ib57, mk57, Try.f57]
  repeat' (with_reducible first | intro _ | refine And.intro ?_ ?_)
  all_goals try (first | (simp [DPart.eq_iff, *]; done) | omega | (grind [DPart.eq_iff]) | (simp [DPart.eq_iff]; omega))
  first | refine HFnF.mk (slEq_Int64S a.fGrad b.fGrad) ?_ | refine CallSF.mk (slEq_Int64S a.fGrad b.fGrad) ?_
  simp (maxSteps := 1000000) -dsimp -implicitDefEqProofs only [go_sem, ↓reduceIte, keep57, ib57, mk57, Try.f57]
  all_goals try (first | (simp [DPart.eq_iff, *]; done) | omega | (grind [DPart.eq_iff]) | (simp [DPart.eq_iff]; omega))
def keep118 : List Nat := [0, 1, 2, 3, 4]
def ib118 : List Nat := [2, 3]
def mk118 : Marks := fun _ => ([], [])
set_option maxRecDepth 100000 in
theorem SameExpr_step (a b : DExpr) (hk : Fn0 Try.prog 117 [sls 5 DExpr.c a.fKids, sls 5 DExpr.c b.fKids, .fn (.func 118) [] []] (.bool (decide (a.fKids = b.fKids)))) : Fn0 Try.prog 118 [.agg a.c, .agg b.c] (.bool (decide (a = b))) := by
  simp only [DExpr.c_eq]
  refine fn0F 38 keep118 ib118 mk118 mix Try.func118 rfl (by kernel_rfl) (by simp) fun h => ?_
  simp (maxSteps := 1000000) -dsimp -implicitDefEqProofs only [go_sem, ↓reduceIte, keep118, ib118, mk118, Try.f118]
  repeat' (with_reducible first | intro _ | refine And.intro ?_ ?_)
  all_goals try (first | (simp [DExpr.eq_iff, *]; done) | omega | (grind [DExpr.eq_iff]) | (simp [DExpr.eq_iff]; omega))
  first | refine HFnF.mk (hk) ?_ | refine CallSF.mk (hk) ?_
  simp (maxSteps := 1000000) -dsimp -implicitDefEqProofs only [go_sem, ↓reduceIte, keep118, ib118, mk118, Try.f118]
  all_goals try (first | (simp [DExpr.eq_iff, *]; done) | omega | (grind [DExpr.eq_iff]) | (simp [DExpr.eq_iff]; omega))
theorem SameExpr (a b : DExpr) : Fn0 Try.prog 118 [.agg a.c, .agg b.c] (.bool (decide (a = b))) :=
  SameExpr_step a b (slEqF_ExprS a.fKids b.fKids 118 [] fun x hx y => SameExpr x y)
termination_by SizeOf.sizeOf a
decreasing_by exact DExpr.kid_lt hx
def keep116 : List Nat := [0, 1, 2, 3, 4]
def ib116 : List Nat := [2, 3]
def mk116 : Marks := fun _ => ([], [])
set_option maxRecDepth 100000 in
theorem SameProgram1 (a b : DFunc) : Fn0 Try.prog 116 [.agg a.c, .agg b.c] (.bool (decide (a = b))) := by
  simp only [DFunc.c_eq]
  refine fn0F 24 keep116 ib116 mk116 mix Try.func116 rfl (by kernel_rfl) (by simp) fun h => ?_
  simp (maxSteps := 1000000) -dsimp -implicitDefEqProofs only [go_sem, ↓reduceIte, keep116, ib116, mk116, Try.f116]
  repeat' (with_reducible first | intro _ | refine And.intro ?_ ?_)
  all_goals try (first | (simp [DFunc.eq_iff, *]; done) | omega | (grind [DFunc.eq_iff]) | (simp [DFunc.eq_iff]; omega))
  first | refine HFnF.mk (slEqF_ExprS a.fOuts b.fOuts 118 [] fun x _ y => SameExpr x y) ?_ | refine CallSF.mk (slEqF_ExprS a.fOuts b.fOuts 118 [] fun x _ y => SameExpr x y) ?_
  simp (maxSteps := 1000000) -dsimp -implicitDefEqProofs only [go_sem, ↓reduceIte, keep116, ib116, mk116, Try.f116]
  all_goals try (first | (simp [DFunc.eq_iff, *]; done) | omega | (grind [DFunc.eq_iff]) | (simp [DFunc.eq_iff]; omega))
def keep93 : List Nat := [0, 1, 2, 3, 4]
def ib93 : List Nat := [2, 3]
def mk93 : Marks := fun _ => ([], [])
set_option maxRecDepth 100000 in
theorem SameProgram (a b : DProgram) : Fn0 Try.prog 93 [.agg a.c, .agg b.c] (.bool (decide (a = b))) := by
  simp only [DProgram.c_eq]
  refine fn0F 10 keep93 ib93 mk93 mix Try.func93 rfl (by kernel_rfl) (by simp) fun h => ?_
  simp (maxSteps := 1000000) -dsimp -implicitDefEqProofs only [go_sem, ↓reduceIte, keep93, ib93, mk93, Try.f93]
  first | refine HFnF.mk (slEqF_FuncS a.fFuncs b.fFuncs 116 [] fun x _ y => SameProgram1 x y) ?_ | refine CallSF.mk (slEqF_FuncS a.fFuncs b.fFuncs 116 [] fun x _ y => SameProgram1 x y) ?_
  simp (maxSteps := 1000000) -dsimp -implicitDefEqProofs only [go_sem, ↓reduceIte, keep93, ib93, mk93, Try.f93]
  all_goals try (first | (simp [DProgram.eq_iff, *]; done) | omega | (grind [DProgram.eq_iff]) | (simp [DProgram.eq_iff]; omega))
def keep95 : List Nat := [0, 1, 4]
def ib95 : List Nat := []
def mk95 : Marks := fun _ => ([], [])
set_option maxRecDepth 100000 in
theorem sameJob1 (a b : List Int) : Fn0 Try.prog 95 [sls 1 (fun n => [I n]) a, sls 1 (fun n => [I n]) b] (.bool (decide (a = b))) := by
  refine fn0F 8 keep95 ib95 mk95 mix Try.func95 rfl (by kernel_rfl) (by simp) fun h => ?_
  simp (maxSteps := 1000000) -dsimp -implicitDefEqProofs only [go_sem, ↓reduceIte, keep95, ib95, mk95, Try.f95]
  first | refine HFnF.mk (slEq_Int64S a b) ?_ | refine CallSF.mk (slEq_Int64S a b) ?_
  simp (maxSteps := 1000000) -dsimp -implicitDefEqProofs only [go_sem, ↓reduceIte, keep95, ib95, mk95, Try.f95]
def keep53 : List Nat := [0, 1, 2, 3, 4]
def ib53 : List Nat := [2, 3]
def mk53 : Marks := fun _ => ([], [])
set_option maxRecDepth 100000 in
theorem sameJob (a b : DJob) : Fn0 Try.prog 53 [.agg a.c, .agg b.c] (.bool (decide (a = b))) := by
  simp only [DJob.c_eq]
  refine fn0F 38 keep53 ib53 mk53 mix Try.func53 rfl (by kernel_rfl) (by simp) fun h => ?_
  simp (maxSteps := 1000000) -dsimp -implicitDefEqProofs only [go_sem, ↓reduceIte, keep53, ib53, mk53, Try.f53]
  first | refine HFnF.mk (SameProgram a.fProgram b.fProgram) ?_ | refine CallSF.mk (SameProgram a.fProgram b.fProgram) ?_
  simp (maxSteps := 1000000) -dsimp -implicitDefEqProofs only [go_sem, ↓reduceIte, keep53, ib53, mk53, Try.f53]
  repeat' (with_reducible first | intro _ | refine And.intro ?_ ?_)
  all_goals try (first | (simp [DJob.eq_iff, *]; done) | omega | (grind [DJob.eq_iff]) | (simp [DJob.eq_iff]; omega))
  first | refine HFnF.mk (slEq_Int64S a.fPoint b.fPoint) ?_ | refine CallSF.mk (slEq_Int64S a.fPoint b.fPoint) ?_
  simp (maxSteps := 1000000) -dsimp -implicitDefEqProofs only [go_sem, ↓reduceIte, keep53, ib53, mk53, Try.f53]
  repeat' (with_reducible first | intro _ | refine And.intro ?_ ?_)
  all_goals try (first | (simp [DJob.eq_iff, *]; done) | omega | (grind [DJob.eq_iff]) | (simp [DJob.eq_iff]; omega))
  first | refine HFnF.mk (slEqF_Int64SS a.fTerms b.fTerms 95 [] fun x _ y => sameJob1 x y) ?_ | refine CallSF.mk (slEqF_Int64SS a.fTerms b.fTerms 95 [] fun x _ y => sameJob1 x y) ?_
  simp (maxSteps := 1000000) -dsimp -implicitDefEqProofs only [go_sem, ↓reduceIte, keep53, ib53, mk53, Try.f53]
  all_goals try (first | (simp [DJob.eq_iff, *]; done) | omega | (grind [DJob.eq_iff]) | (simp [DJob.eq_iff]; omega))
def keep19 : List Nat := [0, 1, 2, 3, 4]
def ib19 : List Nat := [2, 3]
def mk19 : Marks := fun _ => ([], [])
set_option maxRecDepth 100000 in
theorem SameService (a b : DService) : Fn0 Try.prog 19 [.agg a.c, .agg b.c] (.bool (decide (a = b))) := by
  simp only [DService.c_eq]
  refine fn0F 38 keep19 ib19 mk19 mix Try.func19 rfl (by kernel_rfl) (by simp) fun h => ?_
  simp (maxSteps := 1000000) -dsimp -implicitDefEqProofs only [go_sem, ↓reduceIte, keep19, ib19, mk19, Try.f19]
  first | refine HFnF.mk (sameJob a.fJob b.fJob) ?_ | refine CallSF.mk (sameJob a.fJob b.fJob) ?_
  simp (maxSteps := 1000000) -dsimp -implicitDefEqProofs only [go_sem, ↓reduceIte, keep19, ib19, mk19, Try.f19]
  repeat' (with_reducible first | intro _ | refine And.intro ?_ ?_)
  all_goals try (first | (simp [DService.eq_iff, *]; done) | omega | (grind [DService.eq_iff]) | (simp [DService.eq_iff]; omega))
  first | refine HFnF.mk (slEq_Int64S a.fStamps b.fStamps) ?_ | refine CallSF.mk (slEq_Int64S a.fStamps b.fStamps) ?_
  simp (maxSteps := 1000000) -dsimp -implicitDefEqProofs only [go_sem, ↓reduceIte, keep19, ib19, mk19, Try.f19]
  repeat' (with_reducible first | intro _ | refine And.intro ?_ ?_)
  all_goals try (first | (simp [DService.eq_iff, *]; done) | omega | (grind [DService.eq_iff]) | (simp [DService.eq_iff]; omega))
  first | refine HFnF.mk (slEq_BoolS a.fKnown b.fKnown) ?_ | refine CallSF.mk (slEq_BoolS a.fKnown b.fKnown) ?_
  simp (maxSteps := 1000000) -dsimp -implicitDefEqProofs only [go_sem, ↓reduceIte, keep19, ib19, mk19, Try.f19]
  repeat' (with_reducible first | intro _ | refine And.intro ?_ ?_)
  all_goals try (first | (simp [DService.eq_iff, *]; done) | omega | (grind [DService.eq_iff]) | (simp [DService.eq_iff]; omega))
  first | refine HFnF.mk (slEqF_PartS a.fParts b.fParts 57 [] fun x _ y => samePart x y) ?_ | refine CallSF.mk (slEqF_PartS a.fParts b.fParts 57 [] fun x _ y => samePart x y) ?_
  simp (maxSteps := 1000000) -dsimp -implicitDefEqProofs only [go_sem, ↓reduceIte, keep19, ib19, mk19, Try.f19]
  repeat' (with_reducible first | intro _ | refine And.intro ?_ ?_)
  all_goals try (first | (simp [DService.eq_iff, *]; done) | omega | (grind [DService.eq_iff]) | (simp [DService.eq_iff]; omega))
  first | refine HFnF.mk (slEq_Int64S a.fOwners b.fOwners) ?_ | refine CallSF.mk (slEq_Int64S a.fOwners b.fOwners) ?_
  simp (maxSteps := 1000000) -dsimp -implicitDefEqProofs only [go_sem, ↓reduceIte, keep19, ib19, mk19, Try.f19]
  all_goals try (first | (simp [DService.eq_iff, *]; done) | omega | (grind [DService.eq_iff]) | (simp [DService.eq_iff]; omega))
def keep112 : List Nat := [0, 1, 2, 3, 4]
def ib112 : List Nat := [2, 3]
def mk112 : Marks := fun _ => ([], [])
set_option maxRecDepth 100000 in
theorem sameReport (a b : DReport) : Fn0 Try.prog 112 [.agg a.c, .agg b.c] (.bool (decide (a = b))) := by
  simp only [DReport.c_eq]
  refine fn0F 24 keep112 ib112 mk112 mix Try.func112 rfl (by kernel_rfl) (by simp) fun h => ?_
  simp (maxSteps := 1000000) -dsimp -implicitDefEqProofs only [go_sem, ↓reduceIte, keep112, ib112, mk112, Try.f112]
  repeat' (with_reducible first | intro _ | refine And.intro ?_ ?_)
  all_goals try (first | (simp [DReport.eq_iff, *]; done) | omega | (grind [DReport.eq_iff]) | (simp [DReport.eq_iff]; omega))
  first | refine HFnF.mk (samePart a.fPart b.fPart) ?_ | refine CallSF.mk (samePart a.fPart b.fPart) ?_
  simp (maxSteps := 1000000) -dsimp -implicitDefEqProofs only [go_sem, ↓reduceIte, keep112, ib112, mk112, Try.f112]
  all_goals try (first | (simp [DReport.eq_iff, *]; done) | omega | (grind [DReport.eq_iff]) | (simp [DReport.eq_iff]; omega))
def keep79 : List Nat := [0, 1, 4]
def ib79 : List Nat := []
def mk79 : Marks := fun _ => ([], [])
set_option maxRecDepth 100000 in
theorem sameReports (a b : List DReport) : Fn0 Try.prog 79 [sls 5 DReport.c a, sls 5 DReport.c b] (.bool (decide (a = b))) := by
  refine fn0F 8 keep79 ib79 mk79 mix Try.func79 rfl (by kernel_rfl) (by simp) fun h => ?_
  simp (maxSteps := 1000000) -dsimp -implicitDefEqProofs only [go_sem, ↓reduceIte, keep79, ib79, mk79, Try.f79]
  first | refine HFnF.mk (slEqF_ReportS a b 112 [] fun x _ y => sameReport x y) ?_ | refine CallSF.mk (slEqF_ReportS a b 112 [] fun x _ y => sameReport x y) ?_
  simp (maxSteps := 1000000) -dsimp -implicitDefEqProofs only [go_sem, ↓reduceIte, keep79, ib79, mk79, Try.f79]
def keep29 : List Nat := [0, 1, 2, 3, 4]
def ib29 : List Nat := [2, 3]
def mk29 : Marks := fun _ => ([], [])
set_option maxRecDepth 100000 in
theorem SameNet (a b : DNet) : Fn0 Try.prog 29 [.agg a.c, .agg b.c] (.bool (decide (a = b))) := by
  simp only [DNet.c_eq]
  refine fn0F 45 keep29 ib29 mk29 mix Try.func29 rfl (by kernel_rfl) (by simp) fun h => ?_
  simp (maxSteps := 1000000) -dsimp -implicitDefEqProofs only [go_sem, ↓reduceIte, keep29, ib29, mk29, Try.f29]
  first | refine HFnF.mk (sameJob a.fStart b.fStart) ?_ | refine CallSF.mk (sameJob a.fStart b.fStart) ?_
  simp (maxSteps := 1000000) -dsimp -implicitDefEqProofs only [go_sem, ↓reduceIte, keep29, ib29, mk29, Try.f29]
  repeat' (with_reducible first | intro _ | refine And.intro ?_ ?_)
  all_goals try (first | (simp [DNet.eq_iff, *]; done) | omega | (grind [DNet.eq_iff]) | (simp [DNet.eq_iff]; omega))
  first | refine HFnF.mk (SameService a.fService b.fService) ?_ | refine CallSF.mk (SameService a.fService b.fService) ?_
  simp (maxSteps := 1000000) -dsimp -implicitDefEqProofs only [go_sem, ↓reduceIte, keep29, ib29, mk29, Try.f29]
  repeat' (with_reducible first | intro _ | refine And.intro ?_ ?_)
  all_goals try (first | (simp [DNet.eq_iff, *]; done) | omega | (grind [DNet.eq_iff]) | (simp [DNet.eq_iff]; omega))
  first | refine HFnF.mk (slEqF_ReportSS a.fQueues b.fQueues 79 [] fun x _ y => sameReports x y) ?_ | refine CallSF.mk (slEqF_ReportSS a.fQueues b.fQueues 79 [] fun x _ y => sameReports x y) ?_
  simp (maxSteps := 1000000) -dsimp -implicitDefEqProofs only [go_sem, ↓reduceIte, keep29, ib29, mk29, Try.f29]
  repeat' (with_reducible first | intro _ | refine And.intro ?_ ?_)
  all_goals try (first | (simp [DNet.eq_iff, *]; done) | omega | (grind [DNet.eq_iff]) | (simp [DNet.eq_iff]; omega))
  first | refine HFnF.mk (sameReports a.fFlying b.fFlying) ?_ | refine CallSF.mk (sameReports a.fFlying b.fFlying) ?_
  simp (maxSteps := 1000000) -dsimp -implicitDefEqProofs only [go_sem, ↓reduceIte, keep29, ib29, mk29, Try.f29]
  all_goals try (first | (simp [DNet.eq_iff, *]; done) | omega | (grind [DNet.eq_iff]) | (simp [DNet.eq_iff]; omega))
open Go.Proofs
set_option linter.unusedVariables false
set_option linter.unusedSimpArgs false
def keep75 : List Nat := [0, 1, 4, 5, 10, 14, 52]
def ib75 : List Nat := []
def mk75 : Marks := fun id => match id with | 6 => ([], [0, 1, 2, 3, 4, 5, 6, 7, 8, 9, 10, 11, 12, 13, 14, 15, 16, 17, 18, 19, 20, 21, 22, 23, 24, 25, 26, 27, 28, 29, 30, 31, 32, 33, 34, 35]) | _ => ([], [])
set_option maxRecDepth 100000 in
theorem l08SameReports (a b : List DReport) : Fn0 Try.prog 75 [sls 5 DReport.c a, sls 5 DReport.c b] (.bool (decide (a = b))) := by
  refine fn0F 53 keep75 ib75 mk75 mix Try.func75 rfl (by kernel_rfl) (by simp) fun h => ?_
  simp (maxSteps := 1000000) -dsimp -implicitDefEqProofs only [go_sem, ↓reduceIte, keep75, ib75, mk75, Try.f75]
  repeat' (with_reducible first | intro _ | refine And.intro ?_ ?_)
  all_goals try (first | (simp [*]; done) | omega | grind)
  rename_i e
  refine loopF (keep := keep75) (ib := ib75) (mk := mk75) mix (by kernel_rfl) (fun k : Nat => [(0, sls 5 DReport.c a), (1, sls 5 DReport.c b), (5, I k)]) (fun _ => h) (fun k => k ≤ a.length ∧ a.take k = b.take k) (fun k => a.length - k) 0 (by simp [SatL, tget, Heap.le_refl]) ?_
  intro k ⟨hk, hp⟩
  rcases Nat.lt_or_ge k a.length with hlt | hge
  · have hlb : k < b.length := by omega
    have ea : a[k]? = some a[k] := List.getElem?_eq_getElem hlt
    have eb : b[k]? = some b[k] := List.getElem?_eq_getElem hlb
    have ne (hn : ¬ a[k] = b[k]) : ¬ a = b := fun e => hn (getElem_of_eq e hlt)
    have ec := @DReport.eq_iff a[k] b[k]
    simp (maxSteps := 1000000) -dsimp -implicitDefEqProofs only [go_sem, ↓reduceIte, keep75, ib75, mk75, Try.f75, ea, eb, DReport.c_eq]
    repeat' (with_reducible first | intro _ | refine And.intro ?_ ?_)
    all_goals try omega
    all_goals try (first | (simp [*]; done) | omega | grind)
    first | refine CallSF.mk ((l08SamePart a[k].fPart b[k].fPart).sub (by repeat' (first | exact SubL.nil | refine SubL.cons ?_ ?_ | exact Sub.refl _ | (rw [DExpr.c_eq]; exact Sub.refl _) | exact Sub.ipAt rfl rfl rfl | exact Sub.ip (map_get (by omega)) (by simp) | exact Sub.ipAt (map_get (by omega)) rfl rfl | exact Sub.ip (by simp [*]) (by simp) | exact Sub.ipAt (by simp [*]) (by rfl) (by rfl)))) ?_ | refine HFnF.mk ((l08SamePart a[k].fPart b[k].fPart).sub (by repeat' (first | exact SubL.nil | refine SubL.cons ?_ ?_ | exact Sub.refl _ | (rw [DExpr.c_eq]; exact Sub.refl _) | exact Sub.ipAt rfl rfl rfl | exact Sub.ip (map_get (by omega)) (by simp) | exact Sub.ipAt (map_get (by omega)) rfl rfl | exact Sub.ip (by simp [*]) (by simp) | exact Sub.ipAt (by simp [*]) (by rfl) (by rfl)))) ?_
    simp (maxSteps := 1000000) -dsimp -implicitDefEqProofs only [go_sem, ↓reduceIte, keep75, ib75, mk75, Try.f75]
    repeat' (with_reducible first | intro _ | refine And.intro ?_ ?_)
    all_goals try (first | (simp [*]; done) | omega | grind)
    refine ⟨k + 1, ?_⟩
    repeat' (with_reducible refine And.intro ?_ ?_)
    all_goals try (rw [IntWalk.i64_in _ (by omega)]; first | rfl | omega)
    all_goals try omega
    all_goals try (repeat' (with_reducible first | exact Heap.le_refl _ | refine (le_upd (by first | assumption | exact And.right (by assumption))).2 ?_))
    exact take_step hlt hlb hp (ec.2 (by simp [*]))
  · have hk' : k = a.length := by omega
    subst hk'
    simp (maxSteps := 1000000) -dsimp -implicitDefEqProofs only [go_sem, ↓reduceIte, keep75, ib75, mk75, Try.f75, Nat.lt_irrefl]
    exact fun _ => (decide_eq_true (eq_of_take e hp)).symm
def keep27 : List Nat := [0, 1, 2, 3, 4, 5, 38, 43, 57]
def ib27 : List Nat := [2, 3]
def mk27 : Marks := fun id => match id with | 6 => ([], [0, 1, 2, 3, 4, 5, 6, 7, 8, 9, 10, 11]) | _ => ([], [])
set_option maxRecDepth 100000 in
theorem specSameNet (a b : DNet) : Fn0 Try.prog 27 [.agg a.c, .agg b.c] (.bool (decide (a = b))) := by
  simp only [DNet.c_eq]
  refine fn0F 63 keep27 ib27 mk27 mix Try.func27 rfl (by kernel_rfl) (by simp) fun h => ?_
  simp (maxSteps := 1000000) -dsimp -implicitDefEqProofs only [go_sem, ↓reduceIte, keep27, ib27, mk27, Try.f27]
  first | refine CallSF.mk ((l08SameJob a.fStart b.fStart).sub (by repeat' (first | exact SubL.nil | refine SubL.cons ?_ ?_ | exact Sub.refl _ | (rw [DExpr.c_eq]; exact Sub.refl _) | exact Sub.ipAt rfl rfl rfl | exact Sub.ip (map_get (by omega)) (by simp) | exact Sub.ipAt (map_get (by omega)) rfl rfl | exact Sub.ip (by simp [*]) (by simp) | exact Sub.ipAt (by simp [*]) (by rfl) (by rfl)))) ?_ | refine HFnF.mk ((l08SameJob a.fStart b.fStart).sub (by repeat' (first | exact SubL.nil | refine SubL.cons ?_ ?_ | exact Sub.refl _ | (rw [DExpr.c_eq]; exact Sub.refl _) | exact Sub.ipAt rfl rfl rfl | exact Sub.ip (map_get (by omega)) (by simp) | exact Sub.ipAt (map_get (by omega)) rfl rfl | exact Sub.ip (by simp [*]) (by simp) | exact Sub.ipAt (by simp [*]) (by rfl) (by rfl)))) ?_
  simp (maxSteps := 1000000) -dsimp -implicitDefEqProofs only [go_sem, ↓reduceIte, keep27, ib27, mk27, Try.f27]
  repeat' (with_reducible first | intro _ | refine And.intro ?_ ?_)
  all_goals try (first | (simp [DNet.eq_iff, *]; done) | omega | (grind [DNet.eq_iff]) | (simp [DNet.eq_iff]; omega))
  first | refine CallSF.mk ((l08Same a.fService b.fService).sub (by repeat' (first | exact SubL.nil | refine SubL.cons ?_ ?_ | exact Sub.refl _ | (rw [DExpr.c_eq]; exact Sub.refl _) | exact Sub.ipAt rfl rfl rfl | exact Sub.ip (map_get (by omega)) (by simp) | exact Sub.ipAt (map_get (by omega)) rfl rfl | exact Sub.ip (by simp [*]) (by simp) | exact Sub.ipAt (by simp [*]) (by rfl) (by rfl)))) ?_ | refine HFnF.mk ((l08Same a.fService b.fService).sub (by repeat' (first | exact SubL.nil | refine SubL.cons ?_ ?_ | exact Sub.refl _ | (rw [DExpr.c_eq]; exact Sub.refl _) | exact Sub.ipAt rfl rfl rfl | exact Sub.ip (map_get (by omega)) (by simp) | exact Sub.ipAt (map_get (by omega)) rfl rfl | exact Sub.ip (by simp [*]) (by simp) | exact Sub.ipAt (by simp [*]) (by rfl) (by rfl)))) ?_
  simp (maxSteps := 1000000) -dsimp -implicitDefEqProofs only [go_sem, ↓reduceIte, keep27, ib27, mk27, Try.f27]
  repeat' (with_reducible first | intro _ | refine And.intro ?_ ?_)
  all_goals try (first | (simp [DNet.eq_iff, *]; done) | omega | (grind [DNet.eq_iff]) | (simp [DNet.eq_iff]; omega))
  rename_i e1 e2 e3 e4 e5
  refine loopF (keep := keep27) (ib := ib27) (mk := mk27) mix (by kernel_rfl) (fun k : Nat => [(2, .ip 18 [a.c] 0 0), (3, .ip 18 [b.c] 0 0), (5, I k)]) (fun _ => h) (fun k => k ≤ (a.fQueues).length ∧ (a.fQueues).take k = (b.fQueues).take k) (fun k => (a.fQueues).length - k) 0 (by simp [SatL, tget, Heap.le_refl, DNet.c_eq]) ?_
  intro k ⟨hk, hp⟩
  simp only [DNet.c_eq]
  rcases Nat.lt_or_ge k (a.fQueues).length with hlt | hge
  · have hlb : k < (b.fQueues).length := by omega
    have ea : (a.fQueues)[k]? = some (a.fQueues)[k] := List.getElem?_eq_getElem hlt
    have eb : (b.fQueues)[k]? = some (b.fQueues)[k] := List.getElem?_eq_getElem hlb
    simp (maxSteps := 1000000) -dsimp -implicitDefEqProofs only [go_sem, ↓reduceIte, keep27, ib27, mk27, Try.f27, ea, eb]
    repeat' (with_reducible first | intro _ | refine And.intro ?_ ?_)
    all_goals try omega
    first | refine HFnF.mk (l08SameReports (a.fQueues)[k] (b.fQueues)[k]) ?_ | refine CallSF.mk (l08SameReports (a.fQueues)[k] (b.fQueues)[k]) ?_
    simp (maxSteps := 1000000) -dsimp -implicitDefEqProofs only [go_sem, ↓reduceIte, keep27, ib27, mk27, Try.f27]
    repeat' (with_reducible first | intro _ | refine And.intro ?_ ?_)
    · rename_i he
      exact (decide_eq_false fun e => he (getElem_of_eq (congrArg DNet.fQueues e) hlt)).symm
    · rename_i he
      refine ⟨k + 1, ?_⟩
      repeat' (with_reducible refine And.intro ?_ ?_)
      all_goals try (rw [IntWalk.i64_in _ (by omega)]; first | rfl | omega)
      all_goals try omega
      all_goals try (repeat' (with_reducible first | exact Heap.le_refl _ | refine (le_upd (by first | assumption | exact And.right (by assumption))).2 ?_))
      exact take_step hlt hlb hp he
  · have hk' : k = (a.fQueues).length := by omega
    subst hk'
    have hq := eq_of_take e5 hp
    simp (maxSteps := 1000000) -dsimp -implicitDefEqProofs only [go_sem, ↓reduceIte, keep27, ib27, mk27, Try.f27, Nat.lt_irrefl]
    intro _
    first | refine HFnF.mk (l08SameReports a.fFlying b.fFlying) ?_ | refine CallSF.mk (l08SameReports a.fFlying b.fFlying) ?_
    simp (maxSteps := 1000000) -dsimp -implicitDefEqProofs only [go_sem, ↓reduceIte, keep27, ib27, mk27, Try.f27]
    all_goals try (first | (simp [DNet.eq_iff, *]; done) | omega | (grind [DNet.eq_iff]) | (simp [DNet.eq_iff]; omega))

end Go.Hl

/-
  Contracts of functions and laws of the layer over the walk.
-/
import Derived.Test.YthgfmobhhdmkpaaDa
namespace Go.Hl
open Go.Proofs
set_option linter.unusedVariables false
set_option linter.unusedSimpArgs false
def keep63 : List Nat := [0, 1, 4, 5, 10, 12, 13, 14, 24]
def ib63 : List Nat := []
def mk63 : Marks := fun id => match id with | 6 => ([], [0, 1, 2, 3, 4, 5, 6, 7, 8]) | _ => ([], [])
set_option maxRecDepth 100000 in
theorem slEq_Int64S (a b : List Int) : Fn0 Try.prog 63 [(sls 1 (fun n => [I n]) a), (sls 1 (fun n => [I n]) b)] (.bool (decide (a = b))) := by
  refine fn0F 26 keep63 ib63 mk63 mix Try.func63 rfl (by kernel_rfl) (by simp) fun h => ?_
  simp -dsimp -implicitDefEqProofs only [go_sem, ↓reduceIte, keep63, ib63, mk63, Try.f63]
  refine fun _ _ => ⟨fun hne => ?_, fun heq => ?_⟩
  · exact (decide_eq_false fun e => hne (by rw [e])).symm
  · refine fun _ => ?_
    refine loopF (keep := keep63) (ib := ib63) (mk := mk63) mix (by kernel_rfl) (fun k : Nat => [(0, (sls 1 (fun n => [I n]) a)), (1, (sls 1 (fun n => [I n]) b)), (12, I a.length), (13, I k)]) (fun _ => h) (fun k => k ≤ a.length ∧ a.take k = b.take k) (fun k => a.length - k) 0 (by simp [SatL, tget, Heap.le_refl]) ?_
    intro k ⟨hk, hp⟩
    rcases Nat.lt_or_ge k a.length with hlt | hge
    · have hlb : k < b.length := by omega
      have ea : a[k]? = some a[k] := List.getElem?_eq_getElem hlt
      have eb : b[k]? = some b[k] := List.getElem?_eq_getElem hlb
      simp -dsimp -implicitDefEqProofs only [go_sem, ↓reduceIte, keep63, ib63, mk63, Try.f63, ea, eb]
      refine ⟨fun _ => ⟨hlt, hlb, fun hne => ?_, fun he => ?_⟩, fun hn => absurd hlt hn⟩
      · first
          | exact (decide_eq_false fun e => hne (getElem_of_eq e hlt)).symm
          | exact (decide_eq_false fun e => by have := getElem_of_eq e hlt (hb := hlb); rw [this] at hne; simp at hne).symm
      · exact ⟨k + 1, by rw [IntWalk.i64_in _ (by omega)]; rfl, ⟨by omega, take_step hlt hlb hp (by first | exact he | simpa using he)⟩, by omega⟩
    · have hk' : k = a.length := by omega
      subst hk'
      simp -dsimp -implicitDefEqProofs only [go_sem, ↓reduceIte, keep63, ib63, mk63, Try.f63, Nat.lt_irrefl]
      exact (decide_eq_true (eq_of_take heq hp)).symm

open Go.Proofs
set_option linter.unusedVariables false
set_option linter.unusedSimpArgs false
open Go.Proofs
set_option linter.unusedVariables false
set_option linter.unusedSimpArgs false
def keep34 : List Nat := [0, 1, 2, 3, 4]
def ib34 : List Nat := [2, 3]
def mk34 : Marks := fun _ => ([], [])
set_option maxRecDepth 100000 in
theorem samePart (a b : DPart) : Fn0 Try.prog 34 [.agg a.c, .agg b.c] (.bool (decide (a = b))) := by
  simp only [DPart.c_eq]
  refine fn0F 24 keep34 ib34 mk34 mix Try.func34 rfl (by kernel_rfl) (by simp) fun h => ?_
  simp (maxSteps := 1000000) -dsimp -implicitDefEqProofs only [go_sem, ↓reduceIte, keep34, ib34, mk34, Try.f34]
  repeat' (with_reducible first | intro _ | refine And.intro ?_ ?_)
  all_goals try (first | (simp [DPart.eq_iff, *]; done) | omega | (grind [DPart.eq_iff]) | (simp [DPart.eq_iff]; omega))
  first | refine HFnF.mk (slEq_Int64S a.fGrad b.fGrad) ?_ | refine CallSF.mk (slEq_Int64S a.fGrad b.fGrad) ?_ | refine HFnF.mkAt (slEq_Int64S a.fGrad b.fGrad) ?_ | refine CallSF.mk (FnAt.fn0 (slEq_Int64S a.fGrad b.fGrad)) ?_
  simp (maxSteps := 1000000) -dsimp -implicitDefEqProofs only [go_sem, ↓reduceIte, keep34, ib34, mk34, Try.f34]
  all_goals try (first | (simp [DPart.eq_iff, *]; done) | omega | (grind [DPart.eq_iff]) | (simp [DPart.eq_iff]; omega))
end Go.Hl

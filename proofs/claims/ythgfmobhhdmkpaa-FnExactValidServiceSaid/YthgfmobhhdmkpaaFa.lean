/-
  Contracts of functions and laws of the layer over the walk.
-/
import Derived.Test.YthgfmobhhdmkpaaTr
namespace Go.Hl
open Go.Proofs
set_option linter.unusedVariables false
set_option linter.unusedSimpArgs false
set_option maxHeartbeats 8000000 in
set_option maxRecDepth 100000 in
theorem isFormed_plain (p : DProgram) (e : DExpr) (vars funcs : Int) (hv : 0 ≤ vars) (hv2 : vars + e.s ≤ 4294967296) (hf0 : 0 ≤ funcs) (hf : funcs ≤ p.fFuncs.length) (hps : p.s ≤ 4294967296)
    (hc : ∀ y ∈ e.fKids, ∀ vars : Int, 0 ≤ vars → vars + y.s ≤ 4294967296 → Fn0 Try.prog 110 [.agg [sls 3 DFunc.c p.fFuncs, I funcs], .agg y.c, I vars] (.bool (decide (y.ok p funcs vars)))) (hk : ¬ (e.fKind = 10 ∨ e.fKind = 11)) :
    Fn0 Try.prog 110 [.agg [sls 3 DFunc.c p.fFuncs, I funcs], .agg e.c, I vars] (.bool (decide (e.ok p funcs vars))) := by
  have hok := DExpr.ok_iff p funcs e vars
  have hl := p.len_s
  have e1 : IntKind.i64.wrap (funcs - 1) = funcs - 1 := IntWalk.i64_in _ (by omega)
  have e2 : IntKind.i64.wrap (vars - 1) = vars - 1 := IntWalk.i64_in _ (by omega)
  simp only [DExpr.c_eq]
  have no1 (hk : ¬ (e.fKind = 10 ∨ e.fKind = 11)) (q : ¬ (kidsN e.fKind = e.fKids.length ∧ e.fPick = 0 ∧ e.fCount = 0 ∧ (e.fKind = 1 → Num e.fNum) ∧ (e.fKind = 2 → 0 ≤ e.fNum ∧ e.fNum ≤ vars - 1) ∧ (e.fKind ≠ 1 → e.fKind ≠ 2 → e.fNum = 0))) : false = decide (e.ok p funcs vars) :=
    (decide_eq_false fun z => q ((nodeOK_plain hk).1 (hok.1 z).1)).symm
  have yes1 (hk : ¬ (e.fKind = 10 ∨ e.fKind = 11)) (q : kidsN e.fKind = e.fKids.length ∧ e.fPick = 0 ∧ e.fCount = 0 ∧ (e.fKind = 1 → Num e.fNum) ∧ (e.fKind = 2 → 0 ≤ e.fNum ∧ e.fNum ≤ vars - 1) ∧ (e.fKind ≠ 1 → e.fKind ≠ 2 → e.fNum = 0)) : nodeOK p e vars funcs := (nodeOK_plain hk).2 q
  refine fn0F 177 keep110 ib110 mk110 mix Try.func110 rfl (by kernel_rfl) (by simp) fun h => ?_
  simp (maxSteps := 1000000) -dsimp -implicitDefEqProofs only [go_sem, ↓reduceIte, keep110, ib110, mk110, Try.f110, e1, e2]
  repeat' (with_reducible first | intro _ | refine And.intro ?_ ?_)
  all_goals try omega
  all_goals try (refine no1 (by omega) ?_; simp only [kidsN]; grind)
  · first | refine HFnF.mk (isNumber e.fNum) ?_ | refine CallSF.mk (isNumber e.fNum) ?_ | refine HFnF.mkAt (isNumber e.fNum) ?_ | refine CallSF.mk (FnAt.fn0 (isNumber e.fNum)) ?_
    simp (maxSteps := 1000000) -dsimp -implicitDefEqProofs only [go_sem, ↓reduceIte, keep110, ib110, mk110, Try.f110]
    rw [decide_eq_decide, hok, nodeOK_plain hk]
    have : e.fKids.length = 0 := by omega
    constructor
    · intro q
      exact ⟨by simp only [kidsN]; grind, fun k hk => by omega⟩
    · intro q
      grind
  · first | refine HFnF.mk (within e.fNum 0 (vars - 1)) ?_ | refine CallSF.mk (within e.fNum 0 (vars - 1)) ?_ | refine HFnF.mkAt (within e.fNum 0 (vars - 1)) ?_ | refine CallSF.mk (FnAt.fn0 (within e.fNum 0 (vars - 1))) ?_
    simp (maxSteps := 1000000) -dsimp -implicitDefEqProofs only [go_sem, ↓reduceIte, keep110, ib110, mk110, Try.f110]
    rw [decide_eq_decide, hok, nodeOK_plain hk]
    have : e.fKids.length = 0 := by omega
    constructor
    · intro q
      exact ⟨by simp only [kidsN]; grind, fun k hk => by omega⟩
    · intro q
      grind
  all_goals
    have hn := yes1 hk (by simp only [kidsN]; grind)
    clear no1 yes1
    refine loopF (keep := keep110) (ib := ib110) (mk := mk110) mix (by kernel_rfl) (fun k : Nat => [(2, I vars), (3, .ip 2 [[sls 3 DFunc.c p.fFuncs, I funcs]] 0 0), (4, .ip 5 [e.c] 0 0), (154, sls 5 DExpr.c e.fKids), (155, I e.fKids.length), (156, I k)]) (fun _ => h) (fun k => k ≤ e.fKids.length ∧ ∀ (j : Nat) (hj : j < e.fKids.length), j < k → e.fKids[j].ok p funcs (moreV e.fKind j vars)) (fun k => e.fKids.length - k) 0 (by refine ⟨by simp [SatL, tget, DExpr.c_eq], by repeat' (with_reducible first | exact Heap.le_refl _ | refine (le_upd (by first | assumption | exact And.right (by assumption) | exact upd_none.2 (by assumption))).2 ?_), by simp⟩) ?_
    intro k ⟨hk, hp⟩
    simp only [DExpr.c_eq]
    rcases Nat.lt_or_ge k e.fKids.length with hlt | hge
    · have hs1 := DExpr.kid_s (List.getElem_mem hlt)
      have nx (q : e.fKids[k].ok p funcs (moreV e.fKind k vars)) : ∀ (j : Nat) (hj : j < e.fKids.length), j < k + 1 → e.fKids[j].ok p funcs (moreV e.fKind j vars) := by
        intro j hj hjk
        rcases Nat.lt_succ_iff_lt_or_eq.1 hjk with h1 | rfl
        · exact hp j hj h1
        · exact q
      have no (q : ¬ e.fKids[k].ok p funcs (moreV e.fKind k vars)) : false = decide (e.ok p funcs vars) := (decide_eq_false fun z => q ((hok.1 z).2 k hlt)).symm
      have ea : e.fKids[k]? = some e.fKids[k] := List.getElem?_eq_getElem hlt
      rcases Decidable.em (e.fKind = 9 ∧ k = 1) with e9 | e9
      · have em : moreV e.fKind k vars = vars + 1 := if_pos e9
        rw [em] at nx no
        have hcy := hc e.fKids[k] (List.getElem_mem hlt) (vars + 1) (by omega) (by omega)
        simp only [DExpr.c_eq] at hcy
        simp (maxSteps := 1000000) -dsimp -implicitDefEqProofs only [go_sem, ↓reduceIte, keep110, ib110, mk110, Try.f110, ea, DExpr.c_eq, upd_upd]
        repeat' (with_reducible first | intro _ | refine And.intro ?_ ?_)
        all_goals try omega
        all_goals try simp (disch := omega) only [IntWalk.i64_in]
        all_goals (first | refine HFnF.mk (hcy) ?_ | refine CallSF.mk (hcy) ?_)
        all_goals simp (maxSteps := 1000000) -dsimp -implicitDefEqProofs only [go_sem, ↓reduceIte, keep110, ib110, mk110, Try.f110]
        all_goals repeat' (with_reducible first | intro _ | refine And.intro ?_ ?_)
        all_goals first | exact no (by assumption) | exact Heap.le_refl _ | skip
        all_goals try (exact (le_upd (by assumption)).2 (Heap.le_refl _))
        all_goals
          refine ⟨k + 1, ?_⟩
          repeat' (with_reducible refine And.intro ?_ ?_)
          all_goals try (rw [IntWalk.i64_in _ (by omega)]; first | rfl | omega)
          all_goals try omega
          all_goals try (repeat' (with_reducible first | exact Heap.le_refl _ | refine (le_upd (by first | assumption | exact And.right (by assumption) | exact upd_none.2 (by assumption))).2 ?_))
          all_goals try (simp only [DExpr.c_eq]; done)
          exact nx (by assumption)
      · have em : moreV e.fKind k vars = vars := if_neg e9
        rw [em] at nx no
        have hcy := hc e.fKids[k] (List.getElem_mem hlt) vars (by omega) (by omega)
        simp only [DExpr.c_eq] at hcy
        simp (maxSteps := 1000000) -dsimp -implicitDefEqProofs only [go_sem, ↓reduceIte, keep110, ib110, mk110, Try.f110, ea, DExpr.c_eq, upd_upd]
        repeat' (with_reducible first | intro _ | refine And.intro ?_ ?_)
        all_goals try omega
        all_goals (first | refine HFnF.mk (hcy) ?_ | refine CallSF.mk (hcy) ?_)
        all_goals simp (maxSteps := 1000000) -dsimp -implicitDefEqProofs only [go_sem, ↓reduceIte, keep110, ib110, mk110, Try.f110]
        all_goals repeat' (with_reducible first | intro _ | refine And.intro ?_ ?_)
        all_goals first | exact no (by assumption) | exact Heap.le_refl _ | skip
        all_goals try (exact (le_upd (by assumption)).2 (Heap.le_refl _))
        all_goals
          refine ⟨k + 1, ?_⟩
          repeat' (with_reducible refine And.intro ?_ ?_)
          all_goals try (rw [IntWalk.i64_in _ (by omega)]; first | rfl | omega)
          all_goals try omega
          all_goals try (repeat' (with_reducible first | exact Heap.le_refl _ | refine (le_upd (by first | assumption | exact And.right (by assumption) | exact upd_none.2 (by assumption))).2 ?_))
          all_goals try (simp only [DExpr.c_eq]; done)
          exact nx (by assumption)
    · have hk' : k = e.fKids.length := by omega
      subst hk'
      simp (maxSteps := 1000000) -dsimp -implicitDefEqProofs only [go_sem, ↓reduceIte, keep110, ib110, mk110, Try.f110, Nat.lt_irrefl]
      exact (decide_eq_true (hok.2 ⟨hn, fun j hj => hp j hj hj⟩)).symm
end Go.Hl

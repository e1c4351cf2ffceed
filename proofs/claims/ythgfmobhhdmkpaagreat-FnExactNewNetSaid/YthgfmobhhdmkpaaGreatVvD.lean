/-
  Contracts of functions and laws of the layer over the walk.
-/
import Derived.Test.YthgfmobhhdmkpaaGreatVvC
import Derived.Test.YthgfmobhhdmkpaaGreatVvA
import Derived.Test.YthgfmobhhdmkpaaGreatHlD
namespace Go.Hl
open Go.Proofs
set_option linter.unusedVariables false
set_option linter.unusedSimpArgs false
theorem no_call {p : DProgram} {e : DExpr} {vars funcs : Int} {f : DFunc} (hk : e.fKind = 10 ∨ e.fKind = 11) (ef : p.fFuncs[e.fNum.toNat]? = some f)
    (q : ¬ (0 ≤ e.fPick ∧ e.fPick ≤ (f.fOuts.length : Int) - 1 ∧ (e.fKids.length : Int) = f.fParams ∧ (e.fKind = 10 → e.fCount = 0) ∧ (e.fKind = 11 → 0 ≤ e.fCount ∧ e.fCount ≤ 8 ∧ (f.fOuts.length : Int) = f.fParams))) : false = decide (e.ok p funcs vars) :=
  (decide_eq_false fun z => q ((nodeOK_call hk ef).1 ((DExpr.ok_iff _ _ _ _).1 z).1).2.2).symm
theorem no_range {p : DProgram} {e : DExpr} {vars funcs : Int} (hk : e.fKind = 10 ∨ e.fKind = 11) (q : ¬ (0 ≤ e.fNum ∧ e.fNum ≤ funcs - 1)) : false = decide (e.ok p funcs vars) :=
  (decide_eq_false fun z => nodeOK_range hk q ((DExpr.ok_iff _ _ _ _).1 z).1).symm
set_option maxHeartbeats 8000000 in
set_option maxRecDepth 100000 in
theorem isFormed_10 (p : DProgram) (e : DExpr) (vars funcs : Int) (hv : 0 ≤ vars) (hv2 : vars + e.s ≤ 4294967296) (hf0 : 0 ≤ funcs) (hf : funcs ≤ p.fFuncs.length) (hps : p.s ≤ 4294967296)
    (hc : ∀ y ∈ e.fKids, ∀ vars : Int, 0 ≤ vars → vars + y.s ≤ 4294967296 → Fn0 Tryz.prog 164 [.agg [sls 3 DFunc.c p.fFuncs, I funcs], .agg y.c, I vars] (.bool (decide (y.ok p funcs vars)))) (hk : e.fKind = 10) :
    Fn0 Tryz.prog 164 [.agg [sls 3 DFunc.c p.fFuncs, I funcs], .agg e.c, I vars] (.bool (decide (e.ok p funcs vars))) := by
  have hl := p.len_s
  have e1 : IntKind.i64.wrap (funcs - 1) = funcs - 1 := IntWalk.i64_in _ (by omega)
  simp only [DExpr.c_eq]
  by_cases hr : 0 ≤ e.fNum ∧ e.fNum ≤ funcs - 1
  · obtain ⟨f, ef⟩ : ∃ f, p.fFuncs[e.fNum.toNat]? = some f := ⟨_, List.getElem?_eq_getElem (by omega)⟩
    have hfs := DProgram.func_s (List.mem_of_getElem? ef)
    have hos := f.outs_s
    have e3 : IntKind.i64.wrap ((f.fOuts.length : Int) - 1) = f.fOuts.length - 1 := IntWalk.i64_in _ (by omega)
    refine fn0F 177 keep164 ib164 mk164 mix Tryz.func164 rfl (by kernel_rfl) (by simp) fun h => ?_
    simp (maxSteps := 1000000) -dsimp -implicitDefEqProofs only [go_sem, ↓reduceIte, keep164, ib164, mk164, Tryz.f164, e1, e3, hk]
    repeat' (with_reducible first | intro _ | refine And.intro ?_ ?_)
    all_goals try omega
    all_goals (first | refine HFnF.mk (within e.fNum 0 (funcs - 1)) ?_ | refine CallSF.mk (within e.fNum 0 (funcs - 1)) ?_)
    all_goals simp (maxSteps := 1000000) -dsimp -implicitDefEqProofs only [go_sem, ↓reduceIte, keep164, ib164, mk164, Tryz.f164, ef, DFunc.c_eq, upd_upd, hk, e3]
    all_goals repeat' (with_reducible first | intro _ | refine And.intro ?_ ?_)
    all_goals try omega
    all_goals try (refine no_call (by omega) ef ?_; omega)
    all_goals try (repeat' (with_reducible first | exact Heap.le_refl _ | refine (le_upd (by first | assumption | exact And.right (by assumption) | exact upd_none.2 (by assumption))).2 ?_))
    all_goals (first | refine HFnF.mk (within e.fPick 0 (f.fOuts.length - 1)) ?_ | refine CallSF.mk (within e.fPick 0 (f.fOuts.length - 1)) ?_)
    all_goals simp (maxSteps := 1000000) -dsimp -implicitDefEqProofs only [go_sem, ↓reduceIte, keep164, ib164, mk164, Tryz.f164, ef, DFunc.c_eq, upd_upd, hk]
    all_goals repeat' (with_reducible first | intro _ | refine And.intro ?_ ?_)
    all_goals try omega
    all_goals try (refine no_call (by omega) ef ?_; omega)
    all_goals try (repeat' (with_reducible first | exact Heap.le_refl _ | refine (le_upd (by first | assumption | exact And.right (by assumption) | exact upd_none.2 (by assumption))).2 ?_))
    all_goals
      have hn : nodeOK p e vars funcs := (nodeOK_call (by omega) ef).2 (by omega)
      have hok := DExpr.ok_iff p funcs e vars
      clear hr hfs hos ef
      refine loopF (keep := keep164) (ib := ib164) (mk := mk164) mix (by kernel_rfl) (fun k : Nat => [(2, I vars), (3, .ip 2 [[sls 3 DFunc.c p.fFuncs, I funcs]] 0 0), (4, .ip 5 [e.c] 0 0), (154, sls 5 DExpr.c e.fKids), (155, I e.fKids.length), (156, I k)]) (fun _ => h) (fun k => k ≤ e.fKids.length ∧ ∀ (j : Nat) (hj : j < e.fKids.length), j < k → e.fKids[j].ok p funcs vars) (fun k => e.fKids.length - k) 0 (by refine ⟨by simp [SatL, tget, DExpr.c_eq, hk], by repeat' (with_reducible first | exact Heap.le_refl _ | refine (le_upd (by first | assumption | exact And.right (by assumption) | exact upd_none.2 (by assumption))).2 ?_), by simp⟩) ?_
      intro k ⟨hk', hp⟩
      simp only [DExpr.c_eq]
      rcases Nat.lt_or_ge k e.fKids.length with hlt | hge
      · have hs1 := DExpr.kid_s (List.getElem_mem hlt)
        have nx (q : e.fKids[k].ok p funcs vars) : ∀ (j : Nat) (hj : j < e.fKids.length), j < k + 1 → e.fKids[j].ok p funcs vars := by
          intro j hj hjk
          rcases Nat.lt_succ_iff_lt_or_eq.1 hjk with h1 | rfl
          · exact hp j hj h1
          · exact q
        have no (q : ¬ e.fKids[k].ok p funcs vars) : false = decide (e.ok p funcs vars) := (decide_eq_false fun z => q (by have := (hok.1 z).2 k hlt; rwa [show moreV e.fKind k vars = vars from if_neg (by omega)] at this)).symm
        have ea : e.fKids[k]? = some e.fKids[k] := List.getElem?_eq_getElem hlt
        have hcy := hc e.fKids[k] (List.getElem_mem hlt) vars (by omega) (by omega)
        simp only [DExpr.c_eq] at hcy
        simp (maxSteps := 1000000) -dsimp -implicitDefEqProofs only [go_sem, ↓reduceIte, keep164, ib164, mk164, Tryz.f164, ea, DExpr.c_eq, upd_upd, hk]
        repeat' (with_reducible first | intro _ | refine And.intro ?_ ?_)
        all_goals try omega
        first | refine HFnF.mk (hcy) ?_ | refine CallSF.mk (hcy) ?_ | refine HFnF.mkAt (hcy) ?_ | refine CallSF.mk (FnAt.fn0 (hcy)) ?_
        simp (maxSteps := 1000000) -dsimp -implicitDefEqProofs only [go_sem, ↓reduceIte, keep164, ib164, mk164, Tryz.f164]
        repeat' (with_reducible first | intro _ | refine And.intro ?_ ?_)
        all_goals first | exact no (by assumption) | skip
        all_goals try (repeat' (with_reducible first | exact Heap.le_refl _ | refine (le_upd (by first | assumption | exact And.right (by assumption) | exact upd_none.2 (by assumption))).2 ?_))
        refine ⟨k + 1, ?_⟩
        repeat' (with_reducible refine And.intro ?_ ?_)
        all_goals try (rw [IntWalk.i64_in _ (by omega)]; first | rfl | omega)
        all_goals try omega
        all_goals try (repeat' (with_reducible first | exact Heap.le_refl _ | refine (le_upd (by first | assumption | exact And.right (by assumption) | exact upd_none.2 (by assumption))).2 ?_))
        all_goals try (simp only [DExpr.c_eq, hk]; done)
        exact nx (by assumption)
      · have hk'' : k = e.fKids.length := by omega
        subst hk''
        simp (maxSteps := 1000000) -dsimp -implicitDefEqProofs only [go_sem, ↓reduceIte, keep164, ib164, mk164, Tryz.f164, Nat.lt_irrefl]
        exact (decide_eq_true (hok.2 ⟨hn, fun j hj => by rw [show moreV e.fKind j vars = vars from if_neg (by omega)]; exact hp j hj hj⟩)).symm
  · refine fn0F 177 keep164 ib164 mk164 mix Tryz.func164 rfl (by kernel_rfl) (by simp) fun h => ?_
    simp (maxSteps := 1000000) -dsimp -implicitDefEqProofs only [go_sem, ↓reduceIte, keep164, ib164, mk164, Tryz.f164, e1, hk]
    repeat' (with_reducible first | intro _ | refine And.intro ?_ ?_)
    all_goals try omega
    all_goals (first | refine HFnF.mk (within e.fNum 0 (funcs - 1)) ?_ | refine CallSF.mk (within e.fNum 0 (funcs - 1)) ?_)
    all_goals simp (maxSteps := 1000000) -dsimp -implicitDefEqProofs only [go_sem, ↓reduceIte, keep164, ib164, mk164, Tryz.f164]
    all_goals repeat' (with_reducible first | intro _ | refine And.intro ?_ ?_)
    all_goals try omega
    all_goals exact no_range (by omega) hr
set_option maxHeartbeats 8000000 in
set_option maxRecDepth 100000 in
theorem isFormed_11 (p : DProgram) (e : DExpr) (vars funcs : Int) (hv : 0 ≤ vars) (hv2 : vars + e.s ≤ 4294967296) (hf0 : 0 ≤ funcs) (hf : funcs ≤ p.fFuncs.length) (hps : p.s ≤ 4294967296)
    (hc : ∀ y ∈ e.fKids, ∀ vars : Int, 0 ≤ vars → vars + y.s ≤ 4294967296 → Fn0 Tryz.prog 164 [.agg [sls 3 DFunc.c p.fFuncs, I funcs], .agg y.c, I vars] (.bool (decide (y.ok p funcs vars)))) (hk : e.fKind = 11) :
    Fn0 Tryz.prog 164 [.agg [sls 3 DFunc.c p.fFuncs, I funcs], .agg e.c, I vars] (.bool (decide (e.ok p funcs vars))) := by
  have hl := p.len_s
  have e1 : IntKind.i64.wrap (funcs - 1) = funcs - 1 := IntWalk.i64_in _ (by omega)
  simp only [DExpr.c_eq]
  by_cases hr : 0 ≤ e.fNum ∧ e.fNum ≤ funcs - 1
  · obtain ⟨f, ef⟩ : ∃ f, p.fFuncs[e.fNum.toNat]? = some f := ⟨_, List.getElem?_eq_getElem (by omega)⟩
    have hfs := DProgram.func_s (List.mem_of_getElem? ef)
    have hos := f.outs_s
    have e3 : IntKind.i64.wrap ((f.fOuts.length : Int) - 1) = f.fOuts.length - 1 := IntWalk.i64_in _ (by omega)
    refine fn0F 177 keep164 ib164 mk164 mix Tryz.func164 rfl (by kernel_rfl) (by simp) fun h => ?_
    simp (maxSteps := 1000000) -dsimp -implicitDefEqProofs only [go_sem, ↓reduceIte, keep164, ib164, mk164, Tryz.f164, e1, e3, hk]
    repeat' (with_reducible first | intro _ | refine And.intro ?_ ?_)
    all_goals try omega
    all_goals (first | refine HFnF.mk (within e.fNum 0 (funcs - 1)) ?_ | refine CallSF.mk (within e.fNum 0 (funcs - 1)) ?_)
    all_goals simp (maxSteps := 1000000) -dsimp -implicitDefEqProofs only [go_sem, ↓reduceIte, keep164, ib164, mk164, Tryz.f164, ef, DFunc.c_eq, upd_upd, hk, e3]
    all_goals repeat' (with_reducible first | intro _ | refine And.intro ?_ ?_)
    all_goals try omega
    all_goals try (refine no_call (by omega) ef ?_; omega)
    all_goals try (repeat' (with_reducible first | exact Heap.le_refl _ | refine (le_upd (by first | assumption | exact And.right (by assumption) | exact upd_none.2 (by assumption))).2 ?_))
    all_goals (first | refine HFnF.mk (within e.fPick 0 (f.fOuts.length - 1)) ?_ | refine CallSF.mk (within e.fPick 0 (f.fOuts.length - 1)) ?_)
    all_goals simp (maxSteps := 1000000) -dsimp -implicitDefEqProofs only [go_sem, ↓reduceIte, keep164, ib164, mk164, Tryz.f164, ef, DFunc.c_eq, upd_upd, hk]
    all_goals repeat' (with_reducible first | intro _ | refine And.intro ?_ ?_)
    all_goals try omega
    all_goals try (refine no_call (by omega) ef ?_; omega)
    all_goals try (repeat' (with_reducible first | exact Heap.le_refl _ | refine (le_upd (by first | assumption | exact And.right (by assumption) | exact upd_none.2 (by assumption))).2 ?_))
    all_goals (first | refine HFnF.mk (within e.fCount 0 8) ?_ | refine CallSF.mk (within e.fCount 0 8) ?_)
    all_goals simp (maxSteps := 1000000) -dsimp -implicitDefEqProofs only [go_sem, ↓reduceIte, keep164, ib164, mk164, Tryz.f164, upd_upd, hk]
    all_goals repeat' (with_reducible first | intro _ | refine And.intro ?_ ?_)
    all_goals try (refine no_call (by omega) ef ?_; omega)
    all_goals try (repeat' (with_reducible first | exact Heap.le_refl _ | refine (le_upd (by first | assumption | exact And.right (by assumption) | exact upd_none.2 (by assumption))).2 ?_))
    all_goals
      have hn : nodeOK p e vars funcs := (nodeOK_call (by omega) ef).2 (by omega)
      have hok := DExpr.ok_iff p funcs e vars
      clear hr hfs hos ef
      refine loopF (keep := keep164) (ib := ib164) (mk := mk164) mix (by kernel_rfl) (fun k : Nat => [(2, I vars), (3, .ip 2 [[sls 3 DFunc.c p.fFuncs, I funcs]] 0 0), (4, .ip 5 [e.c] 0 0), (154, sls 5 DExpr.c e.fKids), (155, I e.fKids.length), (156, I k)]) (fun _ => h) (fun k => k ≤ e.fKids.length ∧ ∀ (j : Nat) (hj : j < e.fKids.length), j < k → e.fKids[j].ok p funcs vars) (fun k => e.fKids.length - k) 0 (by refine ⟨by simp [SatL, tget, DExpr.c_eq, hk], by repeat' (with_reducible first | exact Heap.le_refl _ | refine (le_upd (by first | assumption | exact And.right (by assumption) | exact upd_none.2 (by assumption))).2 ?_), by simp⟩) ?_
      intro k ⟨hk', hp⟩
      simp only [DExpr.c_eq]
      rcases Nat.lt_or_ge k e.fKids.length with hlt | hge
      · have hs1 := DExpr.kid_s (List.getElem_mem hlt)
        have nx (q : e.fKids[k].ok p funcs vars) : ∀ (j : Nat) (hj : j < e.fKids.length), j < k + 1 → e.fKids[j].ok p funcs vars := by
          intro j hj hjk
          rcases Nat.lt_succ_iff_lt_or_eq.1 hjk with h1 | rfl
          · exact hp j hj h1
          · exact q
        have no (q : ¬ e.fKids[k].ok p funcs vars) : false = decide (e.ok p funcs vars) := (decide_eq_false fun z => q (by have := (hok.1 z).2 k hlt; rwa [show moreV e.fKind k vars = vars from if_neg (by omega)] at this)).symm
        have ea : e.fKids[k]? = some e.fKids[k] := List.getElem?_eq_getElem hlt
        have hcy := hc e.fKids[k] (List.getElem_mem hlt) vars (by omega) (by omega)
        simp only [DExpr.c_eq] at hcy
        simp (maxSteps := 1000000) -dsimp -implicitDefEqProofs only [go_sem, ↓reduceIte, keep164, ib164, mk164, Tryz.f164, ea, DExpr.c_eq, upd_upd, hk]
        repeat' (with_reducible first | intro _ | refine And.intro ?_ ?_)
        all_goals try omega
        first | refine HFnF.mk (hcy) ?_ | refine CallSF.mk (hcy) ?_ | refine HFnF.mkAt (hcy) ?_ | refine CallSF.mk (FnAt.fn0 (hcy)) ?_
        simp (maxSteps := 1000000) -dsimp -implicitDefEqProofs only [go_sem, ↓reduceIte, keep164, ib164, mk164, Tryz.f164]
        repeat' (with_reducible first | intro _ | refine And.intro ?_ ?_)
        all_goals first | exact no (by assumption) | skip
        all_goals try (repeat' (with_reducible first | exact Heap.le_refl _ | refine (le_upd (by first | assumption | exact And.right (by assumption) | exact upd_none.2 (by assumption))).2 ?_))
        refine ⟨k + 1, ?_⟩
        repeat' (with_reducible refine And.intro ?_ ?_)
        all_goals try (rw [IntWalk.i64_in _ (by omega)]; first | rfl | omega)
        all_goals try omega
        all_goals try (repeat' (with_reducible first | exact Heap.le_refl _ | refine (le_upd (by first | assumption | exact And.right (by assumption) | exact upd_none.2 (by assumption))).2 ?_))
        all_goals try (simp only [DExpr.c_eq, hk]; done)
        exact nx (by assumption)
      · have hk'' : k = e.fKids.length := by omega
        subst hk''
        simp (maxSteps := 1000000) -dsimp -implicitDefEqProofs only [go_sem, ↓reduceIte, keep164, ib164, mk164, Tryz.f164, Nat.lt_irrefl]
        exact (decide_eq_true (hok.2 ⟨hn, fun j hj => by rw [show moreV e.fKind j vars = vars from if_neg (by omega)]; exact hp j hj hj⟩)).symm
  · refine fn0F 177 keep164 ib164 mk164 mix Tryz.func164 rfl (by kernel_rfl) (by simp) fun h => ?_
    simp (maxSteps := 1000000) -dsimp -implicitDefEqProofs only [go_sem, ↓reduceIte, keep164, ib164, mk164, Tryz.f164, e1, hk]
    repeat' (with_reducible first | intro _ | refine And.intro ?_ ?_)
    all_goals try omega
    all_goals (first | refine HFnF.mk (within e.fNum 0 (funcs - 1)) ?_ | refine CallSF.mk (within e.fNum 0 (funcs - 1)) ?_)
    all_goals simp (maxSteps := 1000000) -dsimp -implicitDefEqProofs only [go_sem, ↓reduceIte, keep164, ib164, mk164, Tryz.f164]
    all_goals repeat' (with_reducible first | intro _ | refine And.intro ?_ ?_)
    all_goals try omega
    all_goals exact no_range (by omega) hr
open Go.Proofs
set_option linter.unusedVariables false
set_option linter.unusedSimpArgs false
theorem isFormed (p : DProgram) (e : DExpr) (vars funcs : Int) (hv : 0 ≤ vars) (hv2 : vars + e.s ≤ 4294967296) (hf0 : 0 ≤ funcs) (hf : funcs ≤ p.fFuncs.length) (hps : p.s ≤ 4294967296) :
    Fn0 Tryz.prog 164 [.agg [sls 3 DFunc.c p.fFuncs, I funcs], .agg e.c, I vars] (.bool (decide (e.ok p funcs vars))) := by
  by_cases h1 : e.fKind = 10
  · exact isFormed_10 p e vars funcs hv hv2 hf0 hf hps (fun y hy vars hv hv2 => isFormed p y vars funcs hv hv2 hf0 hf hps) h1
  · by_cases h2 : e.fKind = 11
    · exact isFormed_11 p e vars funcs hv hv2 hf0 hf hps (fun y hy vars hv hv2 => isFormed p y vars funcs hv hv2 hf0 hf hps) h2
    · exact isFormed_plain p e vars funcs hv hv2 hf0 hf hps (fun y hy vars hv hv2 => isFormed p y vars funcs hv hv2 hf0 hf hps) (fun q => q.elim h1 h2)
termination_by SizeOf.sizeOf e
decreasing_by all_goals exact DExpr.kid_lt hy

open Go.Proofs
set_option linter.unusedVariables false
set_option linter.unusedSimpArgs false
def exprOK (p : DProgram) (e : DExpr) (vars funcs : Int) : Prop := (0 ≤ vars ∧ vars ≤ 412) ∧ (0 ≤ funcs ∧ funcs ≤ p.fFuncs.length) ∧ (e.s : Int) + 1 ≤ 400 ∧ (e.d : Int) ≤ 60 ∧ e.ok p funcs vars
noncomputable instance (p : DProgram) (e : DExpr) (vars funcs : Int) : Decidable (exprOK p e vars funcs) := Classical.propDecidable _
def funcOK (p : DProgram) (k : Nat) (f : DFunc) : Prop := IsNm f.fName ∧ (0 ≤ f.fParams ∧ f.fParams ≤ 12) ∧ (1 ≤ (f.fOuts.length : Int) ∧ (f.fOuts.length : Int) ≤ 12) ∧ (∀ g ∈ p.fFuncs.take k, g.fName ≠ f.fName) ∧ (szs DExpr.s f.fOuts : Int) ≤ 400 ∧ ∀ e ∈ f.fOuts, exprOK p e f.fParams k
noncomputable instance (p : DProgram) (k : Nat) (f : DFunc) : Decidable (funcOK p k f) := Classical.propDecidable _
def DProgram.ok (p : DProgram) : Prop := (p.fFuncs.length : Int) ≤ 16 ∧ ∀ (k : Nat) (f : DFunc), p.fFuncs[k]? = some f → funcOK p k f
noncomputable instance (p : DProgram) : Decidable p.ok := Classical.propDecidable _
def keep157 : List Nat := [0, 2]
def ib157 : List Nat := []
def mk157 : Marks := fun _ => ([], .nil, [])
theorem l02Vars (n : Int) : Fn0 Tryz.prog 157 [I n] (.bool (decide (0 ≤ n ∧ n ≤ 412))) := by
  refine fn0F 5 keep157 ib157 mk157 mix Tryz.func157 rfl (by kernel_rfl) (by simp) fun h => ?_
  simp (maxSteps := 1000000) -dsimp -implicitDefEqProofs only [go_sem, ↓reduceIte, keep157, ib157, mk157, Tryz.f157]
  first | refine HFnF.mk (l00In n 0 412) ?_ | refine CallSF.mk (l00In n 0 412) ?_ | refine HFnF.mkAt (l00In n 0 412) ?_ | refine CallSF.mk (FnAt.fn0 (l00In n 0 412)) ?_
  simp (maxSteps := 1000000) -dsimp -implicitDefEqProofs only [go_sem, ↓reduceIte, keep157, ib157, mk157, Tryz.f157]
def keep162 : List Nat := [0, 2]
def ib162 : List Nat := []
def mk162 : Marks := fun _ => ([], .nil, [])
theorem areVars (n : Int) : Fn0 Tryz.prog 162 [I n] (.bool (decide (0 ≤ n ∧ n ≤ 412))) := by
  refine fn0F 5 keep162 ib162 mk162 mix Tryz.func162 rfl (by kernel_rfl) (by simp) fun h => ?_
  simp (maxSteps := 1000000) -dsimp -implicitDefEqProofs only [go_sem, ↓reduceIte, keep162, ib162, mk162, Tryz.f162]
  first | refine HFnF.mk (within n 0 412) ?_ | refine CallSF.mk (within n 0 412) ?_ | refine HFnF.mkAt (within n 0 412) ?_ | refine CallSF.mk (FnAt.fn0 (within n 0 412)) ?_
  simp (maxSteps := 1000000) -dsimp -implicitDefEqProofs only [go_sem, ↓reduceIte, keep162, ib162, mk162, Tryz.f162]
theorem lft_nonneg {left : Int} {n : Nat} : 0 ≤ lft left n ↔ (n : Int) ≤ left := by
  unfold lft; split <;> omega
def keep147 : List Nat := [0, 1, 2, 3, 8]
def ib147 : List Nat := []
def mk147 : Marks := fun _ => ([], .nil, [])
set_option maxRecDepth 100000 in
theorem l02Expr (p : DProgram) (e : DExpr) (vars funcs : Int) (hs : e.s ≤ 4294966296) (hps : p.s ≤ 4294967296) : Fn0 Tryz.prog 147 [.ip 1 [p.c] 0 0, .ip 5 [e.c] 0 0, I vars, I funcs] (.bool (decide (exprOK p e vars funcs))) := by
  simp only [DProgram.c_eq]
  refine fn0F 37 keep147 ib147 mk147 mix Tryz.func147 rfl (by kernel_rfl) (by simp) fun h => ?_
  simp (maxSteps := 1000000) -dsimp -implicitDefEqProofs only [go_sem, ↓reduceIte, keep147, ib147, mk147, Tryz.f147]
  first | refine HFnF.mk (l02Vars vars) ?_ | refine CallSF.mk (l02Vars vars) ?_ | refine HFnF.mkAt (l02Vars vars) ?_ | refine CallSF.mk (FnAt.fn0 (l02Vars vars)) ?_
  simp (maxSteps := 1000000) -dsimp -implicitDefEqProofs only [go_sem, ↓reduceIte, keep147, ib147, mk147, Tryz.f147]
  repeat' (with_reducible first | intro _ | refine And.intro ?_ ?_)
  all_goals try (first | (simp [exprOK, *]; done) | omega | (grind [exprOK]) | (simp [exprOK]; omega))
  first | refine HFnF.mk (l00In funcs 0 p.fFuncs.length) ?_ | refine CallSF.mk (l00In funcs 0 p.fFuncs.length) ?_ | refine HFnF.mkAt (l00In funcs 0 p.fFuncs.length) ?_ | refine CallSF.mk (FnAt.fn0 (l00In funcs 0 p.fFuncs.length)) ?_
  simp (maxSteps := 1000000) -dsimp -implicitDefEqProofs only [go_sem, ↓reduceIte, keep147, ib147, mk147, Tryz.f147]
  repeat' (with_reducible first | intro _ | refine And.intro ?_ ?_)
  all_goals try (first | (simp [exprOK, *]; done) | omega | (grind [exprOK]) | (simp [exprOK]; omega))
  first | refine CallSF.mk ((l02Left e 400 (by omega) (by omega) (by omega)).sub (by repeat' (first | exact SubL.nil | refine SubL.cons ?_ ?_ | exact Sub.refl _ | (rw [DExpr.c_eq]; exact Sub.refl _) | exact Sub.ipAt rfl rfl rfl | exact Sub.ip (map_get (by omega)) (by simp) | exact Sub.ipAt (map_get (by omega)) rfl rfl | exact Sub.ip (by simp [*]) (by simp) | exact Sub.ipAt (by simp [*]) (by rfl) (by rfl)))) ?_ | refine HFnF.mk ((l02Left e 400 (by omega) (by omega) (by omega)).sub (by repeat' (first | exact SubL.nil | refine SubL.cons ?_ ?_ | exact Sub.refl _ | (rw [DExpr.c_eq]; exact Sub.refl _) | exact Sub.ipAt rfl rfl rfl | exact Sub.ip (map_get (by omega)) (by simp) | exact Sub.ipAt (map_get (by omega)) rfl rfl | exact Sub.ip (by simp [*]) (by simp) | exact Sub.ipAt (by simp [*]) (by rfl) (by rfl)))) ?_
  simp (maxSteps := 1000000) -dsimp -implicitDefEqProofs only [go_sem, ↓reduceIte, keep147, ib147, mk147, Tryz.f147]
  repeat' (with_reducible first | intro _ | refine And.intro ?_ ?_)
  · have hle : ((e.s + 1 : Nat) : Int) ≤ 400 := lft_nonneg.1 (by assumption)
    first | refine CallSF.mk ((l02Depth e (by omega)).sub (by repeat' (first | exact SubL.nil | refine SubL.cons ?_ ?_ | exact Sub.refl _ | (rw [DExpr.c_eq]; exact Sub.refl _) | exact Sub.ipAt rfl rfl rfl | exact Sub.ip (map_get (by omega)) (by simp) | exact Sub.ipAt (map_get (by omega)) rfl rfl | exact Sub.ip (by simp [*]) (by simp) | exact Sub.ipAt (by simp [*]) (by rfl) (by rfl)))) ?_ | refine HFnF.mk ((l02Depth e (by omega)).sub (by repeat' (first | exact SubL.nil | refine SubL.cons ?_ ?_ | exact Sub.refl _ | (rw [DExpr.c_eq]; exact Sub.refl _) | exact Sub.ipAt rfl rfl rfl | exact Sub.ip (map_get (by omega)) (by simp) | exact Sub.ipAt (map_get (by omega)) rfl rfl | exact Sub.ip (by simp [*]) (by simp) | exact Sub.ipAt (by simp [*]) (by rfl) (by rfl)))) ?_
    simp (maxSteps := 1000000) -dsimp -implicitDefEqProofs only [go_sem, ↓reduceIte, keep147, ib147, mk147, Tryz.f147]
    repeat' (with_reducible first | intro _ | refine And.intro ?_ ?_)
    · first | refine CallSF.mk ((l02Tree p e vars funcs (by omega) (by omega) (by omega) (by omega) hps).sub (by repeat' (first | exact SubL.nil | refine SubL.cons ?_ ?_ | exact Sub.refl _ | (rw [DExpr.c_eq]; exact Sub.refl _) | exact Sub.ipAt rfl rfl rfl | exact Sub.ip (map_get (by omega)) (by simp) | exact Sub.ipAt (map_get (by omega)) rfl rfl | exact Sub.ip (by simp [*]) (by simp) | exact Sub.ipAt (by simp [*]) (by rfl) (by rfl)))) ?_ | refine HFnF.mk ((l02Tree p e vars funcs (by omega) (by omega) (by omega) (by omega) hps).sub (by repeat' (first | exact SubL.nil | refine SubL.cons ?_ ?_ | exact Sub.refl _ | (rw [DExpr.c_eq]; exact Sub.refl _) | exact Sub.ipAt rfl rfl rfl | exact Sub.ip (map_get (by omega)) (by simp) | exact Sub.ipAt (map_get (by omega)) rfl rfl | exact Sub.ip (by simp [*]) (by simp) | exact Sub.ipAt (by simp [*]) (by rfl) (by rfl)))) ?_
      simp (maxSteps := 1000000) -dsimp -implicitDefEqProofs only [go_sem, ↓reduceIte, keep147, ib147, mk147, Tryz.f147]
      rw [decide_eq_decide]
      exact ⟨fun q => ⟨by omega, by omega, by omega, by omega, q⟩, fun q => q.2.2.2.2⟩
    · exact (decide_eq_false fun q => by have := q.2.2.2.1; omega).symm
  · rename_i hn
    exact (decide_eq_false fun q => hn (lft_nonneg.2 (by have := q.2.2.1; omega))).symm
def keep152 : List Nat := [0, 1, 2, 3, 4, 5, 8]
def ib152 : List Nat := [4, 5]
def mk152 : Marks := fun _ => ([], .nil, [])
set_option maxRecDepth 100000 in
theorem ValidExpr (p : DProgram) (e : DExpr) (vars funcs : Int) (hs : e.s ≤ 4294966296) (hps : p.s ≤ 4294967296) : Fn0 Tryz.prog 152 [.agg p.c, .agg e.c, I vars, I funcs] (.bool (decide (exprOK p e vars funcs))) := by
  have h1 := ExprSize e (by omega)
  have h2 := ExprDepth e (by omega)
  simp only [DExpr.c_eq] at h1 h2
  simp only [DProgram.c_eq, DExpr.c_eq]
  refine fn0F 36 keep152 ib152 mk152 mix Tryz.func152 rfl (by kernel_rfl) (by simp) fun h => ?_
  simp (maxSteps := 1000000) -dsimp -implicitDefEqProofs only [go_sem, ↓reduceIte, keep152, ib152, mk152, Tryz.f152]
  first | refine HFnF.mk (areVars vars) ?_ | refine CallSF.mk (areVars vars) ?_ | refine HFnF.mkAt (areVars vars) ?_ | refine CallSF.mk (FnAt.fn0 (areVars vars)) ?_
  simp (maxSteps := 1000000) -dsimp -implicitDefEqProofs only [go_sem, ↓reduceIte, keep152, ib152, mk152, Tryz.f152]
  repeat' (with_reducible first | intro _ | refine And.intro ?_ ?_)
  all_goals try (first | (simp [exprOK, *]; done) | omega | (grind [exprOK]) | (simp [exprOK]; omega))
  first | refine HFnF.mk (within funcs 0 p.fFuncs.length) ?_ | refine CallSF.mk (within funcs 0 p.fFuncs.length) ?_ | refine HFnF.mkAt (within funcs 0 p.fFuncs.length) ?_ | refine CallSF.mk (FnAt.fn0 (within funcs 0 p.fFuncs.length)) ?_
  simp (maxSteps := 1000000) -dsimp -implicitDefEqProofs only [go_sem, ↓reduceIte, keep152, ib152, mk152, Tryz.f152]
  repeat' (with_reducible first | intro _ | refine And.intro ?_ ?_)
  all_goals try (first | (simp [exprOK, *]; done) | omega | (grind [exprOK]) | (simp [exprOK]; omega))
  first | refine HFnF.mk (h1) ?_ | refine CallSF.mk (h1) ?_ | refine HFnF.mkAt (h1) ?_ | refine CallSF.mk (FnAt.fn0 (h1)) ?_
  simp (maxSteps := 1000000) -dsimp -implicitDefEqProofs only [go_sem, ↓reduceIte, keep152, ib152, mk152, Tryz.f152]
  repeat' (with_reducible first | intro _ | refine And.intro ?_ ?_)
  · first | refine HFnF.mk (h2) ?_ | refine CallSF.mk (h2) ?_ | refine HFnF.mkAt (h2) ?_ | refine CallSF.mk (FnAt.fn0 (h2)) ?_
    simp (maxSteps := 1000000) -dsimp -implicitDefEqProofs only [go_sem, ↓reduceIte, keep152, ib152, mk152, Tryz.f152]
    repeat' (with_reducible first | intro _ | refine And.intro ?_ ?_)
    · have h3 := isFormed p e vars funcs (by omega) (by omega) (by omega) (by omega) hps
      simp only [DExpr.c_eq] at h3
      first | refine HFnF.mk (h3) ?_ | refine CallSF.mk (h3) ?_ | refine HFnF.mkAt (h3) ?_ | refine CallSF.mk (FnAt.fn0 (h3)) ?_
      simp (maxSteps := 1000000) -dsimp -implicitDefEqProofs only [go_sem, ↓reduceIte, keep152, ib152, mk152, Tryz.f152]
      rw [decide_eq_decide]
      exact ⟨fun q => ⟨by omega, by omega, by omega, by omega, q⟩, fun q => q.2.2.2.2⟩
    · exact (decide_eq_false fun q => by have := q.2.2.2.1; omega).symm
  · exact (decide_eq_false fun q => by have := q.2.2.1; omega).symm
def keep132 : List Nat := [0, 1, 4, 5, 6, 7, 8, 37, 40, 55, 62, 90]
def ib132 : List Nat := []
def mk132 : Marks := fun id => match id with | 7 => ([], (.op 0 (.op 1 (.op 2 (.op 3 (.op 4 (.op 5 (.op 6 (.op 7 (.op 8 (.op 9 (.op 10 (.op 11 (.op 12 .nil))))))))))))), []) | 14 => ([], (.op 0 (.op 1 (.op 2 (.op 3 (.op 4 (.op 5 (.op 6 (.op 7 (.op 8 (.op 9 (.op 10 (.op 11 (.op 12 (.op 13 (.op 14 (.op 15 (.op 16 (.op 17 .nil)))))))))))))))))), []) | _ => ([], .nil, [])
set_option maxRecDepth 100000 in
theorem l02Func (p : DProgram) (k : Nat) (f : DFunc) (ef : p.fFuncs[k]? = some f) (hps : p.s ≤ 4194304) : Fn0 Tryz.prog 132 [.ip 1 [p.c] 0 0, I k] (.bool (decide (funcOK p k f))) := by
  have hk : k < p.fFuncs.length := (List.getElem?_eq_some_iff.1 ef).1
  have hfs := DProgram.func_s (List.mem_of_getElem? ef)
  have hl := p.len_s
  have hos := f.outs_s
  simp only [DProgram.c_eq]
  have no (q : ¬ (IsNm f.fName ∧ (0 ≤ f.fParams ∧ f.fParams ≤ 12) ∧ (1 ≤ (f.fOuts.length : Int) ∧ (f.fOuts.length : Int) ≤ 12))) : false = decide (funcOK p k f) := (decide_eq_false fun z => q ⟨z.1, z.2.1, z.2.2.1⟩).symm
  refine fn0F 91 keep132 ib132 mk132 mix Tryz.func132 rfl (by kernel_rfl) (by simp) fun h => ?_
  simp (maxSteps := 1000000) -dsimp -implicitDefEqProofs only [go_sem, ↓reduceIte, keep132, ib132, mk132, Tryz.f132, ef, DFunc.c_eq, Int.toNat_natCast]
  repeat' (with_reducible first | intro _ | refine And.intro ?_ ?_)
  all_goals try omega
  first | refine HFnF.mk (specIsName f.fName) ?_ | refine CallSF.mk (specIsName f.fName) ?_ | refine HFnF.mkAt (specIsName f.fName) ?_ | refine CallSF.mk (FnAt.fn0 (specIsName f.fName)) ?_
  simp (maxSteps := 1000000) -dsimp -implicitDefEqProofs only [go_sem, ↓reduceIte, keep132, ib132, mk132, Tryz.f132, ef, DFunc.c_eq]
  repeat' (with_reducible first | intro _ | refine And.intro ?_ ?_)
  · first | refine HFnF.mk (l00In f.fParams 0 12) ?_ | refine CallSF.mk (l00In f.fParams 0 12) ?_ | refine HFnF.mkAt (l00In f.fParams 0 12) ?_ | refine CallSF.mk (FnAt.fn0 (l00In f.fParams 0 12)) ?_
    simp (maxSteps := 1000000) -dsimp -implicitDefEqProofs only [go_sem, ↓reduceIte, keep132, ib132, mk132, Tryz.f132, ef, DFunc.c_eq]
    repeat' (with_reducible first | intro _ | refine And.intro ?_ ?_)
    · first | refine HFnF.mk (l00In f.fOuts.length 1 12) ?_ | refine CallSF.mk (l00In f.fOuts.length 1 12) ?_ | refine HFnF.mkAt (l00In f.fOuts.length 1 12) ?_ | refine CallSF.mk (FnAt.fn0 (l00In f.fOuts.length 1 12)) ?_
      simp (maxSteps := 1000000) -dsimp -implicitDefEqProofs only [go_sem, ↓reduceIte, keep132, ib132, mk132, Tryz.f132, ef, DFunc.c_eq]
      repeat' (with_reducible first | intro _ | refine And.intro ?_ ?_)
      · exact no fun z => by simp_all
      · rename_i q1 q2 q3
        refine loopF (keep := keep132) (ib := ib132) (mk := mk132) mix (by kernel_rfl) (fun j : Nat => [(0, .ip 1 [p.c] 0 0), (1, I k), (5, .ip 3 (p.fFuncs.map DFunc.c) k 0), (6, I j)]) (fun _ => h) (fun j => j ≤ k ∧ ∀ g ∈ p.fFuncs.take j, g.fName ≠ f.fName) (fun j => k - j) 0 (by refine ⟨by simp [SatL, tget, DProgram.c_eq], by repeat' (with_reducible first | exact Heap.le_refl _ | refine (le_upd (by first | assumption | exact And.right (by assumption) | exact upd_none.2 (by assumption))).2 ?_), by simp⟩) ?_
        intro j ⟨hj, hp⟩
        simp only [DProgram.c_eq]
        rcases Nat.lt_or_ge j k with hlt | hge
        · have eg : p.fFuncs[j]? = some p.fFuncs[j] := List.getElem?_eq_getElem (by omega)
          simp (maxSteps := 1000000) -dsimp -implicitDefEqProofs only [go_sem, ↓reduceIte, keep132, ib132, mk132, Tryz.f132, ef, eg, DFunc.c_eq, Int.toNat_natCast]
          repeat' (with_reducible first | intro _ | refine And.intro ?_ ?_)
          all_goals try omega
          · rename_i he
            refine (decide_eq_false fun z => z.2.2.2.1 p.fFuncs[j] ?_ he).symm
            exact List.mem_take_iff_getElem.2 ⟨j, by omega, rfl⟩
          · rename_i he
            refine ⟨j + 1, ?_⟩
            repeat' (with_reducible refine And.intro ?_ ?_)
            all_goals try (rw [IntWalk.i64_in _ (by omega)]; first | rfl | omega)
            all_goals try omega
            all_goals try (repeat' (with_reducible first | exact Heap.le_refl _ | refine (le_upd (by first | assumption | exact And.right (by assumption) | exact upd_none.2 (by assumption))).2 ?_))
            all_goals try (simp only [DProgram.c_eq]; done)
            exact all_step (P := fun g : DFunc => g.fName ≠ f.fName) (by omega) hp he
        · have hj' : j = k := by omega
          rw [hj'] at hp
          simp (maxSteps := 1000000) -dsimp -implicitDefEqProofs only [go_sem, ↓reduceIte, keep132, ib132, mk132, Tryz.f132, hj', Int.lt_irrefl]
          have part (i : Nat) (hi : i < f.fOuts.length) : i + ((f.fOuts.take i).map DExpr.s).sum + f.fOuts[i].s + 1 ≤ szs DExpr.s f.fOuts := by
            have h1 := sum_take_succ DExpr.s f.fOuts i hi
            have h2 := sum_take_le DExpr.s f.fOuts (i + 1)
            rw [szs_eq]; omega
          have hszs : szs DExpr.s f.fOuts ≤ f.s := by rw [f.s_eq]; omega
          refine loopF (keep := keep132) (ib := ib132) (mk := mk132) mix (by kernel_rfl) (fun i : Nat => [(0, .ip 1 [p.c] 0 0), (1, I k), (5, .ip 3 (p.fFuncs.map DFunc.c) k 0), (7, I (400 - (i + ((f.fOuts.take i).map DExpr.s).sum : Nat))), (8, I i)]) (fun _ => h) (fun i => i ≤ f.fOuts.length ∧ i + ((f.fOuts.take i).map DExpr.s).sum ≤ 400 ∧ ∀ e ∈ f.fOuts.take i, exprOK p e f.fParams k) (fun i => f.fOuts.length - i) 0 (by refine ⟨by simp [SatL, tget, DProgram.c_eq], by repeat' (with_reducible first | exact Heap.le_refl _ | refine (le_upd (by first | assumption | exact And.right (by assumption) | exact upd_none.2 (by assumption))).2 ?_), by simp⟩) ?_
          intro i ⟨hi, hsum, hall⟩
          simp only [DProgram.c_eq]
          rcases Nat.lt_or_ge i f.fOuts.length with hlt | hge
          · have h1 := sum_take_succ DExpr.s f.fOuts i hlt
            have hpt := part i hlt
            have hout := DFunc.out_s (List.getElem_mem hlt)
            simp (maxSteps := 1000000) -dsimp -implicitDefEqProofs only [go_sem, ↓reduceIte, keep132, ib132, mk132, Tryz.f132, ef, DFunc.c_eq, Int.toNat_natCast]
            repeat' (with_reducible first | intro _ | refine And.intro ?_ ?_)
            all_goals try omega
            first | refine CallSF.mk ((l02Left f.fOuts[i] (400 - (i + ((f.fOuts.take i).map DExpr.s).sum : Nat)) (by omega) (by omega) (by omega)).sub (by repeat' (first | exact SubL.nil | refine SubL.cons ?_ ?_ | exact Sub.refl _ | (rw [DExpr.c_eq]; exact Sub.refl _) | exact Sub.ipAt rfl rfl rfl | exact Sub.ip (map_get (by omega)) (by simp) | exact Sub.ipAt (map_get (by omega)) rfl rfl | exact Sub.ip (by simp [*]) (by simp) | exact Sub.ipAt (by simp [*]) (by rfl) (by rfl)))) ?_ | refine HFnF.mk ((l02Left f.fOuts[i] (400 - (i + ((f.fOuts.take i).map DExpr.s).sum : Nat)) (by omega) (by omega) (by omega)).sub (by repeat' (first | exact SubL.nil | refine SubL.cons ?_ ?_ | exact Sub.refl _ | (rw [DExpr.c_eq]; exact Sub.refl _) | exact Sub.ipAt rfl rfl rfl | exact Sub.ip (map_get (by omega)) (by simp) | exact Sub.ipAt (map_get (by omega)) rfl rfl | exact Sub.ip (by simp [*]) (by simp) | exact Sub.ipAt (by simp [*]) (by rfl) (by rfl)))) ?_
            simp (maxSteps := 1000000) -dsimp -implicitDefEqProofs only [go_sem, ↓reduceIte, keep132, ib132, mk132, Tryz.f132, ef, DFunc.c_eq]
            rcases lft_cases (400 - (i + ((f.fOuts.take i).map DExpr.s).sum : Nat)) (f.fOuts[i].s + 1) with ⟨e, hl1⟩ | ⟨e, hl1⟩
            · simp (maxSteps := 1000000) -dsimp -implicitDefEqProofs only [go_sem, ↓reduceIte, keep132, ib132, mk132, Tryz.f132, e]
              repeat' (with_reducible first | intro _ | refine And.intro ?_ ?_)
              all_goals try omega
              all_goals exact (decide_eq_false fun z => by have := z.2.2.2.2.1; omega).symm
            · simp (maxSteps := 1000000) -dsimp -implicitDefEqProofs only [go_sem, ↓reduceIte, keep132, ib132, mk132, Tryz.f132, e]
              repeat' (with_reducible first | intro _ | refine And.intro ?_ ?_)
              all_goals try omega
              first | refine CallSF.mk ((l02Expr p f.fOuts[i] f.fParams k (by omega) (by omega)).sub (by repeat' (first | exact SubL.nil | refine SubL.cons ?_ ?_ | exact Sub.refl _ | (rw [DExpr.c_eq]; exact Sub.refl _) | exact Sub.ipAt rfl rfl rfl | exact Sub.ip (map_get (by omega)) (by simp) | exact Sub.ipAt (map_get (by omega)) rfl rfl | exact Sub.ip (by simp [*]) (by simp) | exact Sub.ipAt (by simp [*]) (by rfl) (by rfl)))) ?_ | refine HFnF.mk ((l02Expr p f.fOuts[i] f.fParams k (by omega) (by omega)).sub (by repeat' (first | exact SubL.nil | refine SubL.cons ?_ ?_ | exact Sub.refl _ | (rw [DExpr.c_eq]; exact Sub.refl _) | exact Sub.ipAt rfl rfl rfl | exact Sub.ip (map_get (by omega)) (by simp) | exact Sub.ipAt (map_get (by omega)) rfl rfl | exact Sub.ip (by simp [*]) (by simp) | exact Sub.ipAt (by simp [*]) (by rfl) (by rfl)))) ?_
              simp (maxSteps := 1000000) -dsimp -implicitDefEqProofs only [go_sem, ↓reduceIte, keep132, ib132, mk132, Tryz.f132, ef, DFunc.c_eq]
              repeat' (with_reducible first | intro _ | refine And.intro ?_ ?_)
              · rename_i hn
                exact (decide_eq_false fun z => hn (z.2.2.2.2.2 _ (List.getElem_mem hlt))).symm
              · rename_i hn
                refine ⟨i + 1, ?_⟩
                repeat' (with_reducible refine And.intro ?_ ?_)
                all_goals try (rw [IntWalk.i64_in _ (by omega)]; first | rfl | omega)
                all_goals try omega
                all_goals try (repeat' (with_reducible first | exact Heap.le_refl _ | refine (le_upd (by first | assumption | exact And.right (by assumption) | exact upd_none.2 (by assumption))).2 ?_))
                all_goals try (simp only [DProgram.c_eq]; done)
                exact all_step (P := fun e => exprOK p e f.fParams k) hlt hall hn
          · have hi' : i = f.fOuts.length := by omega
            subst hi'
            rw [List.take_length] at hsum hall
            simp (maxSteps := 1000000) -dsimp -implicitDefEqProofs only [go_sem, ↓reduceIte, keep132, ib132, mk132, Tryz.f132, ef, DFunc.c_eq, Nat.lt_irrefl]
            exact fun _ => (decide_eq_true ⟨by assumption, q1, q3, hp, by rw [szs_eq]; omega, hall⟩).symm
    · exact no fun z => by simp_all
  · exact no fun z => by simp_all
def keep106 : List Nat := [0, 2, 3, 9, 16, 22]
def ib106 : List Nat := []
def mk106 : Marks := fun _ => ([], .nil, [])
set_option maxRecDepth 100000 in
theorem l02Ok (p : DProgram) (hps : p.s ≤ 4194304) : Fn0 Tryz.prog 106 [.ip 1 [p.c] 0 0] (.bool (decide p.ok)) := by
  simp only [DProgram.c_eq]
  refine fn0F 23 keep106 ib106 mk106 mix Tryz.func106 rfl (by kernel_rfl) (by simp) fun h => ?_
  simp (maxSteps := 1000000) -dsimp -implicitDefEqProofs only [go_sem, ↓reduceIte, keep106, ib106, mk106, Tryz.f106]
  repeat' (with_reducible first | intro _ | refine And.intro ?_ ?_)
  · exact (decide_eq_false fun z => by have := z.1; omega).symm
  refine loopF (keep := keep106) (ib := ib106) (mk := mk106) mix (by kernel_rfl) (fun k : Nat => [(0, .ip 1 [p.c] 0 0), (3, I k)]) (fun _ => h) (fun k => k ≤ p.fFuncs.length ∧ ∀ (j : Nat) (f : DFunc), j < k → p.fFuncs[j]? = some f → funcOK p j f) (fun k => p.fFuncs.length - k) 0 (by refine ⟨by simp [SatL, tget, DProgram.c_eq], by repeat' (with_reducible first | exact Heap.le_refl _ | refine (le_upd (by first | assumption | exact And.right (by assumption) | exact upd_none.2 (by assumption))).2 ?_), by simp⟩) ?_
  intro k ⟨hk, hp⟩
  simp only [DProgram.c_eq]
  rcases Nat.lt_or_ge k p.fFuncs.length with hlt | hge
  · have eg : p.fFuncs[k]? = some p.fFuncs[k] := List.getElem?_eq_getElem (by omega)
    simp (maxSteps := 1000000) -dsimp -implicitDefEqProofs only [go_sem, ↓reduceIte, keep106, ib106, mk106, Tryz.f106]
    repeat' (with_reducible first | intro _ | refine And.intro ?_ ?_)
    all_goals try omega
    first | refine CallSF.mk ((l02Func p k p.fFuncs[k] eg hps).sub (by repeat' (first | exact SubL.nil | refine SubL.cons ?_ ?_ | exact Sub.refl _ | (rw [DExpr.c_eq]; exact Sub.refl _) | exact Sub.ipAt rfl rfl rfl | exact Sub.ip (map_get (by omega)) (by simp) | exact Sub.ipAt (map_get (by omega)) rfl rfl | exact Sub.ip (by simp [*]) (by simp) | exact Sub.ipAt (by simp [*]) (by rfl) (by rfl)))) ?_ | refine HFnF.mk ((l02Func p k p.fFuncs[k] eg hps).sub (by repeat' (first | exact SubL.nil | refine SubL.cons ?_ ?_ | exact Sub.refl _ | (rw [DExpr.c_eq]; exact Sub.refl _) | exact Sub.ipAt rfl rfl rfl | exact Sub.ip (map_get (by omega)) (by simp) | exact Sub.ipAt (map_get (by omega)) rfl rfl | exact Sub.ip (by simp [*]) (by simp) | exact Sub.ipAt (by simp [*]) (by rfl) (by rfl)))) ?_
    simp (maxSteps := 1000000) -dsimp -implicitDefEqProofs only [go_sem, ↓reduceIte, keep106, ib106, mk106, Tryz.f106]
    repeat' (with_reducible first | intro _ | refine And.intro ?_ ?_)
    · rename_i hn
      exact (decide_eq_false fun z => hn (z.2 k _ eg)).symm
    · rename_i hn
      refine ⟨k + 1, ?_⟩
      repeat' (with_reducible refine And.intro ?_ ?_)
      all_goals try (rw [IntWalk.i64_in _ (by omega)]; first | rfl | omega)
      all_goals try omega
      all_goals try (repeat' (with_reducible first | exact Heap.le_refl _ | refine (le_upd (by first | assumption | exact And.right (by assumption) | exact upd_none.2 (by assumption))).2 ?_))
      all_goals try (simp only [DProgram.c_eq]; done)
      intro j f hj ej
      rcases Nat.lt_succ_iff_lt_or_eq.1 hj with h1 | rfl
      · exact hp j f h1 ej
      · rw [eg] at ej; obtain rfl := Option.some.inj ej; exact hn
  · have hk' : k = p.fFuncs.length := by omega
    subst hk'
    simp (maxSteps := 1000000) -dsimp -implicitDefEqProofs only [go_sem, ↓reduceIte, keep106, ib106, mk106, Tryz.f106, Nat.lt_irrefl]
    exact fun _ => (decide_eq_true ⟨by omega, fun j f ej => hp j f (List.getElem?_eq_some_iff.1 ej).1 ej⟩).symm
open Go.Proofs
set_option linter.unusedVariables false
set_option linter.unusedSimpArgs false
def keep161 : List Nat := [0, 1, 4, 5, 7, 8, 9, 16]
def ib161 : List Nat := []
def mk161 : Marks := fun _ => ([], .nil, [])
set_option maxRecDepth 100000 in
theorem idxF_FuncS (a : List DFunc) (p : DFunc → Bool) (g : FuncId) (cap : List HVal) {h0 : Heap} (hc : ∀ x ∈ a, FnAt Tryz.prog g ([(.agg (DFunc.c x))] ++ cap) (.bool (p x)) h0) : FnAt Tryz.prog 161 [(sls 3 DFunc.c a), .fn (.func g) [] cap] (I (idxOf p a)) h0 := by
  refine fnAtF 19 keep161 ib161 mk161 mix Tryz.func161 rfl (by kernel_rfl) (by simp) fun h hle => ?_
  simp -dsimp -implicitDefEqProofs only [go_sem, ↓reduceIte, keep161, ib161, mk161, Tryz.f161, Tryz.f161]
  intro _
  refine loopF (keep := keep161) (ib := ib161) (mk := mk161) mix (by kernel_rfl) (fun k : Nat => [(0, (sls 3 DFunc.c a)), (1, .fn (.func g) [] cap), (7, I a.length), (8, I k)]) (fun _ => h) (fun k => k ≤ a.length ∧ ∀ x ∈ a.take k, p x = false) (fun k => a.length - k) 0 (by simp [SatL, tget, Heap.le_refl]) ?_
  intro k ⟨hk, hp⟩
  rcases Nat.lt_or_ge k a.length with hlt | hge
  · have ea : a[k]? = some a[k] := List.getElem?_eq_getElem hlt
    simp -dsimp -implicitDefEqProofs only [go_sem, ↓reduceIte, keep161, ib161, mk161, Tryz.f161, Tryz.f161, ea, DFunc.c_eq]
    repeat' (with_reducible first | intro _ | refine And.intro ?_ ?_)
    all_goals try omega
    have hx := hc a[k] (List.getElem_mem hlt)
    simp only [DFunc.c_eq] at hx
    refine HFnF.mkAt (hx.mono hle) ?_
    cases hpk : p a[k] with
    | true =>
      simp -dsimp -implicitDefEqProofs only [go_sem, ↓reduceIte, keep161, ib161, mk161, Tryz.f161, Tryz.f161]
      repeat' (with_reducible first | intro _ | refine And.intro ?_ ?_)
      all_goals first | exact (idxOf_some hlt hp hpk).symm | rfl | (rw [idxOf_some hlt hp hpk])
    | false =>
      simp -dsimp -implicitDefEqProofs only [go_sem, ↓reduceIte, keep161, ib161, mk161, Tryz.f161, Tryz.f161]
      refine ⟨k + 1, ?_⟩
      repeat' (with_reducible refine And.intro ?_ ?_)
      all_goals try (rw [IntWalk.i64_in _ (by omega)]; first | rfl | omega)
      all_goals try omega
      exact all_step (P := fun x => p x = false) hlt hp hpk
  · have hk' : k = a.length := by omega
    subst hk'
    rw [List.take_length] at hp
    simp -dsimp -implicitDefEqProofs only [go_sem, ↓reduceIte, keep161, ib161, mk161, Tryz.f161, Tryz.f161, Nat.lt_irrefl]
    all_goals first | exact (idxOf_none hp).symm | rw [idxOf_none hp]
def keep150 : List Nat := [0, 1, 4]
def ib150 : List Nat := []
def mk150 : Marks := fun _ => ([], .nil, [])
set_option maxRecDepth 100000 in
theorem hasF_FuncS (a : List DFunc) (p : DFunc → Bool) (g : FuncId) (cap : List HVal) {h0 : Heap} (hc : ∀ x ∈ a, FnAt Tryz.prog g ([(.agg (DFunc.c x))] ++ cap) (.bool (p x)) h0) : FnAt Tryz.prog 150 [(sls 3 DFunc.c a), .fn (.func g) [] cap] (.bool (a.any p)) h0 := by
  refine fnAtF 9 keep150 ib150 mk150 mix Tryz.func150 rfl (by kernel_rfl) (by simp) fun h hle => ?_
  simp -dsimp -implicitDefEqProofs only [go_sem, ↓reduceIte, keep150, ib150, mk150, Tryz.f150, Tryz.f150]
  refine HFnF.mkAt ((idxF_FuncS a p g cap hc).mono hle) ?_
  simp -dsimp -implicitDefEqProofs only [go_sem, ↓reduceIte, keep150, ib150, mk150, Tryz.f150, Tryz.f150]
  all_goals first | done | exact idxOf_nonneg | rw [idxOf_nonneg]

def keep151 : List Nat := [0, 1, 2, 3]
def ib151 : List Nat := [2]
def mk151 : Marks := fun _ => ([], .nil, [])
set_option maxRecDepth 100000 in
theorem ValidProgram1 (g f : DFunc) (n : Nat) {h0 : Heap} (hn : h0 n = some (.row 3 [f.c.map .v])) : FnAt Tryz.prog 151 [.agg g.c, .op n 3 0 0] (.bool (decide (g.fName = f.fName))) h0 := by
  simp only [DFunc.c_eq]
  have hg (h : Heap) (hle : h0.le h) := Heap.le_get hle hn
  refine fnAtF 9 keep151 ib151 mk151 mix Tryz.func151 rfl (by kernel_rfl) (by simp) fun h hle => ?_
  simp (maxSteps := 1000000) -dsimp -implicitDefEqProofs only [go_sem, ↓reduceIte, keep151, ib151, mk151, Tryz.f151]
  have hn' := hg h hle
  simp only [DFunc.c_eq] at hn'
  simp (maxSteps := 1000000) -dsimp -implicitDefEqProofs only [go_sem, ↓reduceIte, keep151, ib151, mk151, Tryz.f151, hn']
def keep135 : List Nat := [0, 1, 2, 3, 4, 5, 7, 11, 13, 14, 15, 16, 31, 42, 44, 45, 46, 47, 56, 63]
def ib135 : List Nat := [1]
def mk135 : Marks := fun _ => ([], .nil, [])
set_option maxRecDepth 100000 in
theorem ValidProgram (p : DProgram) (hps : p.s ≤ 4194304) : Fn0 Tryz.prog 135 [.agg p.c] (.bool (decide p.ok)) := by
  simp only [DProgram.c_eq]
  refine fn0F 65 keep135 ib135 mk135 mix Tryz.func135 rfl (by kernel_rfl) (by simp) fun h => ?_
  simp (maxSteps := 1000000) -dsimp -implicitDefEqProofs only [go_sem, ↓reduceIte, keep135, ib135, mk135, Tryz.f135]
  repeat' (with_reducible first | intro _ | refine And.intro ?_ ?_)
  · exact (decide_eq_false fun z => by have := z.1; omega).symm
  refine loopF (keep := keep135) (ib := ib135) (mk := mk135) mix (by kernel_rfl) (fun k : Nat => [(1, .ip 1 [p.c] 0 0), (13, sls 3 DFunc.c p.fFuncs), (14, I p.fFuncs.length), (15, I k)]) (fun _ => h) (fun k => k ≤ p.fFuncs.length ∧ ∀ (j : Nat) (f : DFunc), j < k → p.fFuncs[j]? = some f → funcOK p j f) (fun k => p.fFuncs.length - k) 0 (by refine ⟨by simp [SatL, tget, DProgram.c_eq], by repeat' (with_reducible first | exact Heap.le_refl _ | refine (le_upd (by first | assumption | exact And.right (by assumption) | exact upd_none.2 (by assumption))).2 ?_), by simp⟩) ?_
  intro k ⟨hk, hp⟩
  simp only [DProgram.c_eq]
  rcases Nat.lt_or_ge k p.fFuncs.length with hlt | hge
  · obtain ⟨f, eg⟩ : ∃ f, p.fFuncs[k]? = some f := ⟨_, List.getElem?_eq_getElem hlt⟩
    have hfs := DProgram.func_s (List.mem_of_getElem? eg)
    have hos := f.outs_s
    have no (q : ¬ funcOK p k f) : false = decide p.ok := (decide_eq_false fun z => q (z.2 k f eg)).symm
    simp (maxSteps := 1000000) -dsimp -implicitDefEqProofs only [go_sem, ↓reduceIte, keep135, ib135, mk135, Tryz.f135, eg, DFunc.c_eq, upd_upd]
    repeat' (with_reducible first | intro _ | refine And.intro ?_ ?_)
    all_goals try omega
    rename_i n hn
    first | refine HFnF.mk (IsName f.fName) ?_ | refine CallSF.mk (IsName f.fName) ?_ | refine HFnF.mkAt (IsName f.fName) ?_ | refine CallSF.mk (FnAt.fn0 (IsName f.fName)) ?_
    simp (maxSteps := 1000000) -dsimp -implicitDefEqProofs only [go_sem, ↓reduceIte, keep135, ib135, mk135, Tryz.f135, upd_get, upd_upd]
    repeat' (with_reducible first | intro _ | refine And.intro ?_ ?_)
    all_goals try (repeat' (with_reducible first | exact Heap.le_refl _ | refine (le_upd (by first | assumption | exact And.right (by assumption) | exact upd_none.2 (by assumption))).2 ?_))
    all_goals try omega
    all_goals try (rename_i hnm; exact no fun z => hnm z.1)
    rename_i hnm
    rw [← List.map_take]
    refine HFnF.mkAt (hasF_FuncS (p.fFuncs.take k) (fun g => decide (g.fName = f.fName)) 151 [.op n 3 0 0] fun g _ => ValidProgram1 g f n (by simp [upd_get, DFunc.c_eq])) ?_
    simp (maxSteps := 1000000) -dsimp -implicitDefEqProofs only [go_sem, ↓reduceIte, keep135, ib135, mk135, Tryz.f135, upd_get, upd_upd]
    repeat' (with_reducible first | intro _ | refine And.intro ?_ ?_)
    all_goals try (repeat' (with_reducible first | exact Heap.le_refl _ | refine (le_upd (by first | assumption | exact And.right (by assumption) | exact upd_none.2 (by assumption))).2 ?_))
    · rename_i q
      refine no fun z => ?_
      obtain ⟨g, hg1, hg2⟩ := List.any_eq_true.1 q
      exact z.2.2.2.1 g hg1 (by simpa using hg2)
    rename_i hnd
    have hnd' : ∀ g ∈ p.fFuncs.take k, g.fName ≠ f.fName := fun g hg => by
      have := List.any_eq_false.1 hnd g hg
      simpa using this
    first | refine HFnF.mk (within f.fParams 0 12) ?_ | refine CallSF.mk (within f.fParams 0 12) ?_ | refine HFnF.mkAt (within f.fParams 0 12) ?_ | refine CallSF.mk (FnAt.fn0 (within f.fParams 0 12)) ?_
    simp (maxSteps := 1000000) -dsimp -implicitDefEqProofs only [go_sem, ↓reduceIte, keep135, ib135, mk135, Tryz.f135, upd_get, upd_upd]
    repeat' (with_reducible first | intro _ | refine And.intro ?_ ?_)
    all_goals try (repeat' (with_reducible first | exact Heap.le_refl _ | refine (le_upd (by first | assumption | exact And.right (by assumption) | exact upd_none.2 (by assumption))).2 ?_))
    · first | refine HFnF.mk (within f.fOuts.length 1 12) ?_ | refine CallSF.mk (within f.fOuts.length 1 12) ?_ | refine HFnF.mkAt (within f.fOuts.length 1 12) ?_ | refine CallSF.mk (FnAt.fn0 (within f.fOuts.length 1 12)) ?_
      simp (maxSteps := 1000000) -dsimp -implicitDefEqProofs only [go_sem, ↓reduceIte, keep135, ib135, mk135, Tryz.f135, upd_get, upd_upd]
      repeat' (with_reducible first | intro _ | refine And.intro ?_ ?_)
      all_goals try (repeat' (with_reducible first | exact Heap.le_refl _ | refine (le_upd (by first | assumption | exact And.right (by assumption) | exact upd_none.2 (by assumption))).2 ?_))
      · rename_i q
        exact no fun z => q z.2.2.1
      · rename_i q1 q2 q3 q4
        have part (i : Nat) (hi : i < f.fOuts.length) : i + ((f.fOuts.take i).map DExpr.s).sum + f.fOuts[i].s + 1 ≤ szs DExpr.s f.fOuts := by
          have h1 := sum_take_succ DExpr.s f.fOuts i hi
          have h2 := sum_take_le DExpr.s f.fOuts (i + 1)
          rw [szs_eq]; omega
        have hszs : szs DExpr.s f.fOuts ≤ f.s := by rw [f.s_eq]; omega
        refine loopF (keep := keep135) (ib := ib135) (mk := mk135) mix (by kernel_rfl) (fun i : Nat => [(1, .ip 1 [p.c] 0 0), (3, I k), (4, .op n 3 0 0), (5, I ((i + ((f.fOuts.take i).map DExpr.s).sum : Nat) : Int)), (13, sls 3 DFunc.c p.fFuncs), (14, I p.fFuncs.length), (15, I k), (44, sls 5 DExpr.c f.fOuts), (45, I f.fOuts.length), (46, I i)]) (fun _ => upd h n (.row 3 [f.c.map .v])) (fun i => i ≤ f.fOuts.length ∧ ∀ e ∈ f.fOuts.take i, exprOK p e f.fParams k) (fun i => f.fOuts.length - i) 0 (by refine ⟨by simp [SatL, tget, DProgram.c_eq], by simp [DFunc.c_eq, Heap.le_refl], by simp⟩) ?_
        intro i ⟨hi, hall⟩
        simp only [DProgram.c_eq, DFunc.c_eq, List.map_cons, List.map_nil]
        rcases Nat.lt_or_ge i f.fOuts.length with hlt2 | hge2
        · have h1 := sum_take_succ DExpr.s f.fOuts i hlt2
          have hpt := part i hlt2
          have hout := DFunc.out_s (List.getElem_mem hlt2)
          have ee : f.fOuts[i]? = some f.fOuts[i] := List.getElem?_eq_getElem hlt2
          have hv := ValidExpr p f.fOuts[i] f.fParams k (by omega) (by omega)
          have hz := ExprSize f.fOuts[i] (by omega)
          simp only [DExpr.c_eq, DProgram.c_eq] at hv hz
          simp (maxSteps := 1000000) -dsimp -implicitDefEqProofs only [go_sem, ↓reduceIte, keep135, ib135, mk135, Tryz.f135, ee, DExpr.c_eq, upd_upd]
          repeat' (with_reducible first | intro _ | refine And.intro ?_ ?_)
          all_goals try omega
          rename_i m hm
          have hmn : (n = m) = False := eq_false fun e => hm.1 e.symm
          have hnm2 : (m = n) = False := eq_false hm.1
          simp (maxSteps := 1000000) -dsimp -implicitDefEqProofs only [go_sem, ↓reduceIte, keep135, ib135, mk135, Tryz.f135, upd_get, hmn, hnm2]
          first | refine HFnF.mk (hv) ?_ | refine CallSF.mk (hv) ?_ | refine HFnF.mkAt (hv) ?_ | refine CallSF.mk (FnAt.fn0 (hv)) ?_
          simp (maxSteps := 1000000) -dsimp -implicitDefEqProofs only [go_sem, ↓reduceIte, keep135, ib135, mk135, Tryz.f135, upd_get, hmn, hnm2]
          repeat' (with_reducible first | intro _ | refine And.intro ?_ ?_)
          · rename_i hne
            exact no fun z => hne (z.2.2.2.2.2 _ (List.getElem_mem hlt2))
          · all_goals try (repeat' (with_reducible first | exact Heap.le_refl _ | refine (le_upd (by first | assumption | exact And.right (by assumption) | exact upd_none.2 (by assumption))).2 ?_))
          · rename_i hne
            first | refine HFnF.mk (hz) ?_ | refine CallSF.mk (hz) ?_ | refine HFnF.mkAt (hz) ?_ | refine CallSF.mk (FnAt.fn0 (hz)) ?_
            simp (maxSteps := 1000000) -dsimp -implicitDefEqProofs only [go_sem, ↓reduceIte, keep135, ib135, mk135, Tryz.f135, upd_get, hmn, hnm2]
            refine ⟨i + 1, ?_⟩
            repeat' (with_reducible refine And.intro ?_ ?_)
            all_goals try (rw [IntWalk.i64_in _ (by omega)]; first | rfl | omega)
            all_goals try omega
            all_goals try (repeat' (with_reducible first | exact Heap.le_refl _ | refine (le_upd (by first | assumption | exact And.right (by assumption) | exact upd_none.2 (by assumption))).2 ?_))
            all_goals try (simp only [DProgram.c_eq]; done)
            exact all_step (P := fun e => exprOK p e f.fParams k) hlt2 hall hne
        · have hi' : i = f.fOuts.length := by omega
          subst hi'
          rw [List.take_length] at hall ⊢
          simp (maxSteps := 1000000) -dsimp -implicitDefEqProofs only [go_sem, ↓reduceIte, keep135, ib135, mk135, Tryz.f135, Nat.lt_irrefl]
          have hss : szs DExpr.s f.fOuts = f.fOuts.length + (f.fOuts.map DExpr.s).sum := szs_eq _ _
          repeat' (with_reducible first | intro _ | refine And.intro ?_ ?_)
          all_goals try (repeat' (with_reducible first | exact Heap.le_refl _ | refine (le_upd (by first | assumption | exact And.right (by assumption) | exact upd_none.2 (by assumption))).2 ?_))
          · rename_i q
            exact no fun z => by have := z.2.2.2.2.1; omega
          · rename_i q
            have hfk : funcOK p k f := ⟨hnm, q1, q3, hnd', by omega, hall⟩
            refine ⟨k + 1, ?_⟩
            repeat' (with_reducible refine And.intro ?_ ?_)
            all_goals try (rw [IntWalk.i64_in _ (by omega)]; first | rfl | omega)
            all_goals try omega
            all_goals try (repeat' (with_reducible first | exact Heap.le_refl _ | refine (le_upd (by first | assumption | exact And.right (by assumption) | exact upd_none.2 (by assumption))).2 ?_))
            intro j f' hj ej
            rcases Nat.lt_succ_iff_lt_or_eq.1 hj with h1 | rfl
            · exact hp j f' h1 ej
            · rw [eg] at ej; obtain rfl := Option.some.inj ej; exact hfk
    · rename_i q
      exact no fun z => q z.2.1
  · have hk' : k = p.fFuncs.length := by omega
    subst hk'
    simp (maxSteps := 1000000) -dsimp -implicitDefEqProofs only [go_sem, ↓reduceIte, keep135, ib135, mk135, Tryz.f135, Nat.lt_irrefl]
    exact (decide_eq_true ⟨by omega, fun j f ej => hp j f (List.getElem?_eq_some_iff.1 ej).1 ej⟩).symm
open Go.Proofs
set_option linter.unusedVariables false
set_option linter.unusedSimpArgs false
def keep111 : List Nat := [0, 1, 2, 4, 5, 9]
def ib111 : List Nat := [2]
def mk111 : Marks := fun _ => ([], .nil, [])
set_option maxRecDepth 100000 in
theorem isFunc (p : DProgram) (f : Int) (hps : p.s ≤ 4194304) : Fn0 Tryz.prog 111 [.agg p.c, I f] (I (if p.ok then if 0 ≤ f ∧ f ≤ (p.fFuncs.length : Int) - 1 then 0 else 2 else 1)) := by
  have hv := ValidProgram p hps
  simp only [DProgram.c_eq] at hv ⊢
  refine fn0F 17 keep111 ib111 mk111 mix Tryz.func111 rfl (by kernel_rfl) (by simp) fun h => ?_
  simp (maxSteps := 1000000) -dsimp -implicitDefEqProofs only [go_sem, ↓reduceIte, keep111, ib111, mk111, Tryz.f111]
  first | refine HFnF.mk (hv) ?_ | refine CallSF.mk (hv) ?_ | refine HFnF.mkAt (hv) ?_ | refine CallSF.mk (FnAt.fn0 (hv)) ?_
  simp (maxSteps := 1000000) -dsimp -implicitDefEqProofs only [go_sem, ↓reduceIte, keep111, ib111, mk111, Tryz.f111]
  repeat' (with_reducible first | intro _ | refine And.intro ?_ ?_)
  · rename_i hn
    rw [if_neg hn]
  · rename_i hn _
    rw [if_pos hn]
    all_goals try simp (disch := omega) only [IntWalk.i64_in]
    first | refine HFnF.mk (within f 0 (p.fFuncs.length - 1)) ?_ | refine CallSF.mk (within f 0 (p.fFuncs.length - 1)) ?_ | refine HFnF.mkAt (within f 0 (p.fFuncs.length - 1)) ?_ | refine CallSF.mk (FnAt.fn0 (within f 0 (p.fFuncs.length - 1))) ?_
    simp (maxSteps := 1000000) -dsimp -implicitDefEqProofs only [go_sem, ↓reduceIte, keep111, ib111, mk111, Tryz.f111]
    repeat' (with_reducible first | intro _ | refine And.intro ?_ ?_)
    · rename_i q
      rw [if_neg q]
    · rename_i q
      rw [if_pos q]
def DJob.okF (j : DJob) (f : DFunc) : Prop := (0 ≤ j.fShared ∧ j.fShared ≤ f.fParams) ∧ ((j.fPoint.length : Int) = j.fShared ∧ Nums j.fPoint) ∧ (j.fTerms.length : Int) ≤ 10 ∧ ∀ t ∈ j.fTerms, (t.length : Int) = f.fParams - j.fShared ∧ Nums t
def DJob.ok (j : DJob) : Prop := j.fProgram.ok ∧ (0 ≤ j.fFunc ∧ j.fFunc ≤ (j.fProgram.fFuncs.length : Int) - 1) ∧ ∀ f, j.fProgram.fFuncs[j.fFunc.toNat]? = some f → j.okF f
noncomputable instance (j : DJob) : Decidable j.ok := Classical.propDecidable _
def keep57 : List Nat := [0, 2, 3, 4, 24, 71, 78, 106]
def ib57 : List Nat := []
def mk57 : Marks := fun id => match id with | 1 => ([], (.op 0 (.op 1 (.op 2 (.op 3 (.op 4 (.op 5 (.op 6 (.op 7 (.op 8 (.op 9 (.op 10 (.op 11 (.op 12 (.op 13 (.op 14 (.op 15 (.op 16 (.op 17 (.op 18 (.op 19 .nil)))))))))))))))))))), []) | 3 => ([], (.op 0 (.op 1 (.op 2 (.op 3 (.op 4 (.op 5 (.op 6 (.op 7 (.op 8 (.op 9 (.op 10 (.op 11 (.op 12 .nil))))))))))))), []) | 4 => ([], (.op 0 (.op 1 (.op 2 (.op 3 (.op 4 (.op 5 (.op 6 (.op 7 (.op 8 (.op 9 (.op 10 (.op 11 (.op 12 (.op 13 (.op 14 (.op 15 (.op 16 (.op 17 (.op 18 (.op 19 (.op 20 (.op 21 (.op 22 (.op 23 (.op 24 (.op 25 (.op 26 (.op 27 (.op 28 (.op 29 (.op 30 (.op 31 (.op 32 (.op 33 (.op 34 .nil))))))))))))))))))))))))))))))))))), []) | 9 => ([], (.op 0 (.op 1 (.op 2 (.op 3 (.op 4 (.op 5 (.op 6 (.op 7 (.op 8 (.op 9 (.op 10 (.op 11 (.op 12 (.op 13 (.op 14 (.op 15 (.op 16 (.op 17 (.op 18 (.op 19 (.op 20 (.op 21 (.op 22 (.op 23 (.op 24 (.op 25 .nil)))))))))))))))))))))))))), []) | _ => ([], .nil, [])
set_option maxRecDepth 100000 in
theorem l08Job (j : DJob) (hps : j.fProgram.s ≤ 4194304) : Fn0 Tryz.prog 57 [.ip 5 [j.c] 0 0] (.bool (decide j.ok)) := by
  have hl := j.fProgram.len_s
  have e1 : IntKind.i64.wrap ((j.fProgram.fFuncs.length : Int) - 1) = j.fProgram.fFuncs.length - 1 := IntWalk.i64_in _ (by omega)
  simp only [DJob.c_eq]
  refine fn0F 107 keep57 ib57 mk57 mix Tryz.func57 rfl (by kernel_rfl) (by simp) fun h => ?_
  simp (maxSteps := 1000000) -dsimp -implicitDefEqProofs only [go_sem, ↓reduceIte, keep57, ib57, mk57, Tryz.f57, e1]
  first | refine CallSF.mk ((l02Ok j.fProgram hps).sub (by repeat' (first | exact SubL.nil | refine SubL.cons ?_ ?_ | exact Sub.refl _ | (rw [DExpr.c_eq]; exact Sub.refl _) | exact Sub.ipAt rfl rfl rfl | exact Sub.ip (map_get (by omega)) (by simp) | exact Sub.ipAt (map_get (by omega)) rfl rfl | exact Sub.ip (by simp [*]) (by simp) | exact Sub.ipAt (by simp [*]) (by rfl) (by rfl)))) ?_ | refine HFnF.mk ((l02Ok j.fProgram hps).sub (by repeat' (first | exact SubL.nil | refine SubL.cons ?_ ?_ | exact Sub.refl _ | (rw [DExpr.c_eq]; exact Sub.refl _) | exact Sub.ipAt rfl rfl rfl | exact Sub.ip (map_get (by omega)) (by simp) | exact Sub.ipAt (map_get (by omega)) rfl rfl | exact Sub.ip (by simp [*]) (by simp) | exact Sub.ipAt (by simp [*]) (by rfl) (by rfl)))) ?_
  simp (maxSteps := 1000000) -dsimp -implicitDefEqProofs only [go_sem, ↓reduceIte, keep57, ib57, mk57, Tryz.f57, e1]
  repeat' (with_reducible first | intro _ | refine And.intro ?_ ?_)
  · rename_i hp
    first | refine HFnF.mk (l00In j.fFunc 0 (j.fProgram.fFuncs.length - 1)) ?_ | refine CallSF.mk (l00In j.fFunc 0 (j.fProgram.fFuncs.length - 1)) ?_ | refine HFnF.mkAt (l00In j.fFunc 0 (j.fProgram.fFuncs.length - 1)) ?_ | refine CallSF.mk (FnAt.fn0 (l00In j.fFunc 0 (j.fProgram.fFuncs.length - 1))) ?_
    simp (maxSteps := 1000000) -dsimp -implicitDefEqProofs only [go_sem, ↓reduceIte, keep57, ib57, mk57, Tryz.f57, e1]
    repeat' (with_reducible first | intro _ | refine And.intro ?_ ?_)
    · rename_i hr
      exact (decide_eq_false fun z => hr z.2.1).symm
    all_goals try omega
    rename_i hr
    obtain ⟨f, ef⟩ : ∃ f, j.fProgram.fFuncs[j.fFunc.toNat]? = some f := ⟨_, List.getElem?_eq_getElem (by omega)⟩
    have hfo := hp.2 _ f ef
    have hj : j.ok ↔ j.okF f := ⟨fun z => z.2.2 f ef, fun z => ⟨hp, hr, fun g eg => by rw [ef] at eg; obtain rfl := Option.some.inj eg; exact z⟩⟩
    have hp1 := hfo.2.1
    simp (maxSteps := 1000000) -dsimp -implicitDefEqProofs only [go_sem, ↓reduceIte, keep57, ib57, mk57, Tryz.f57, ef, DFunc.c_eq]
    first | refine HFnF.mk (l00In j.fShared 0 f.fParams) ?_ | refine CallSF.mk (l00In j.fShared 0 f.fParams) ?_ | refine HFnF.mkAt (l00In j.fShared 0 f.fParams) ?_ | refine CallSF.mk (FnAt.fn0 (l00In j.fShared 0 f.fParams)) ?_
    simp (maxSteps := 1000000) -dsimp -implicitDefEqProofs only [go_sem, ↓reduceIte, keep57, ib57, mk57, Tryz.f57]
    repeat' (with_reducible first | intro _ | refine And.intro ?_ ?_)
    · rename_i hsh hlen
      first | refine HFnF.mk (l01Numbers j.fPoint) ?_ | refine CallSF.mk (l01Numbers j.fPoint) ?_ | refine HFnF.mkAt (l01Numbers j.fPoint) ?_ | refine CallSF.mk (FnAt.fn0 (l01Numbers j.fPoint)) ?_
      simp (maxSteps := 1000000) -dsimp -implicitDefEqProofs only [go_sem, ↓reduceIte, keep57, ib57, mk57, Tryz.f57]
      repeat' (with_reducible first | intro _ | refine And.intro ?_ ?_)
      · exact (decide_eq_false fun z => by have := (hj.1 z).2.2.1; omega).symm
      · have e4 : IntKind.i64.wrap (f.fParams - j.fShared) = f.fParams - j.fShared := IntWalk.i64_in _ (by omega)
        refine loopF (keep := keep57) (ib := ib57) (mk := mk57) mix (by kernel_rfl) (fun k : Nat => [(0, .ip 5 [j.c] 0 0), (3, I f.fParams), (4, I k)]) (fun _ => h) (fun k => k ≤ j.fTerms.length ∧ ∀ t ∈ j.fTerms.take k, (t.length : Int) = f.fParams - j.fShared ∧ Nums t) (fun k => j.fTerms.length - k) 0 (by refine ⟨by simp [SatL, tget, DJob.c_eq], by repeat' (with_reducible first | exact Heap.le_refl _ | refine (le_upd (by first | assumption | exact And.right (by assumption) | exact upd_none.2 (by assumption))).2 ?_), by simp⟩) ?_
        intro k ⟨hk, hall⟩
        simp only [DJob.c_eq]
        rcases Nat.lt_or_ge k j.fTerms.length with hlt | hge
        · have ea : j.fTerms[k]? = some j.fTerms[k] := List.getElem?_eq_getElem hlt
          have no (q : ¬ ((j.fTerms[k].length : Int) = f.fParams - j.fShared ∧ Nums j.fTerms[k])) : false = decide j.ok := (decide_eq_false fun z => q ((hj.1 z).2.2.2 _ (List.getElem_mem hlt))).symm
          simp (maxSteps := 1000000) -dsimp -implicitDefEqProofs only [go_sem, ↓reduceIte, keep57, ib57, mk57, Tryz.f57, ea, e4]
          repeat' (with_reducible first | intro _ | refine And.intro ?_ ?_)
          all_goals try omega
          · first | refine HFnF.mk (l01Numbers j.fTerms[k]) ?_ | refine CallSF.mk (l01Numbers j.fTerms[k]) ?_ | refine HFnF.mkAt (l01Numbers j.fTerms[k]) ?_ | refine CallSF.mk (FnAt.fn0 (l01Numbers j.fTerms[k])) ?_
            simp (maxSteps := 1000000) -dsimp -implicitDefEqProofs only [go_sem, ↓reduceIte, keep57, ib57, mk57, Tryz.f57]
            repeat' (with_reducible first | intro _ | refine And.intro ?_ ?_)
            · rename_i q4 q5
              exact no fun z => q5 z.2
            · rename_i q4 q5
              refine ⟨k + 1, ?_⟩
              repeat' (with_reducible refine And.intro ?_ ?_)
              all_goals try (rw [IntWalk.i64_in _ (by omega)]; first | rfl | omega)
              all_goals try omega
              all_goals try (repeat' (with_reducible first | exact Heap.le_refl _ | refine (le_upd (by first | assumption | exact And.right (by assumption) | exact upd_none.2 (by assumption))).2 ?_))
              all_goals try (simp only [DJob.c_eq]; done)
              exact all_step (P := fun t : List Int => (t.length : Int) = f.fParams - j.fShared ∧ Nums t) hlt hall ⟨q4, q5⟩
          · rename_i q4
            exact no fun z => q4 z.1
        · have hk' : k = j.fTerms.length := by omega
          subst hk'
          rw [List.take_length] at hall
          simp (maxSteps := 1000000) -dsimp -implicitDefEqProofs only [go_sem, ↓reduceIte, keep57, ib57, mk57, Tryz.f57, Nat.lt_irrefl]
          exact fun _ => (decide_eq_true (hj.2 ⟨hsh, ⟨by assumption, by assumption⟩, by omega, hall⟩)).symm
      · rename_i q2
        exact (decide_eq_false fun z => q2 (hj.1 z).2.1.2).symm
    · rename_i q
      exact (decide_eq_false fun z => q (hj.1 z).2.1.1).symm
    · rename_i q
      exact (decide_eq_false fun z => q (hj.1 z).1).symm
  · rename_i hp
    exact (decide_eq_false fun z => hp z.1).symm
def keep113 : List Nat := [0, 1, 3]
def ib113 : List Nat := []
def mk113 : Marks := fun _ => ([], .nil, [])
set_option maxRecDepth 100000 in
theorem ValidJob1 (l : List Int) (c : Int) (n : Nat) {h0 : Heap} (hn : h0 n = some (.row 1 [[.v (I c)]])) : FnAt Tryz.prog 113 [sls 1 (fun n => [I n]) l, .op n 1 0 0] (.bool (!decide ((l.length : Int) = c ∧ Nums l))) h0 := by
  have hg (h : Heap) (hle : h0.le h) := Heap.le_get hle hn
  refine fnAtF 8 keep113 ib113 mk113 mix Tryz.func113 rfl (by kernel_rfl) (by simp) fun h hle => ?_
  simp (maxSteps := 1000000) -dsimp -implicitDefEqProofs only [go_sem, ↓reduceIte, keep113, ib113, mk113, Tryz.f113]
  have hn' := hg h hle
  simp (maxSteps := 1000000) -dsimp -implicitDefEqProofs only [go_sem, ↓reduceIte, keep113, ib113, mk113, Tryz.f113, hn']
  first | refine HFnF.mk (areNumbers l c) ?_ | refine CallSF.mk (areNumbers l c) ?_ | refine HFnF.mkAt (areNumbers l c) ?_ | refine CallSF.mk (FnAt.fn0 (areNumbers l c)) ?_
  simp (maxSteps := 1000000) -dsimp -implicitDefEqProofs only [go_sem, ↓reduceIte, keep113, ib113, mk113, Tryz.f113]
def keep136 : List Nat := [0, 1, 4, 5, 7, 8, 9, 16]
def ib136 : List Nat := []
def mk136 : Marks := fun _ => ([], .nil, [])
set_option maxRecDepth 100000 in
theorem idxF_Int64SS (a : List (List Int)) (p : (List Int) → Bool) (g : FuncId) (cap : List HVal) {h0 : Heap} (hc : ∀ x ∈ a, FnAt Tryz.prog g ([(sls 1 (fun n => [I n]) x)] ++ cap) (.bool (p x)) h0) : FnAt Tryz.prog 136 [(sls 1 (fun x => [sls 1 (fun n => [I n]) x]) a), .fn (.func g) [] cap] (I (idxOf p a)) h0 := by
  refine fnAtF 19 keep136 ib136 mk136 mix Tryz.func136 rfl (by kernel_rfl) (by simp) fun h hle => ?_
  simp -dsimp -implicitDefEqProofs only [go_sem, ↓reduceIte, keep136, ib136, mk136, Tryz.f136, Tryz.f136]
  intro _
  refine loopF (keep := keep136) (ib := ib136) (mk := mk136) mix (by kernel_rfl) (fun k : Nat => [(0, (sls 1 (fun x => [sls 1 (fun n => [I n]) x]) a)), (1, .fn (.func g) [] cap), (7, I a.length), (8, I k)]) (fun _ => h) (fun k => k ≤ a.length ∧ ∀ x ∈ a.take k, p x = false) (fun k => a.length - k) 0 (by simp [SatL, tget, Heap.le_refl]) ?_
  intro k ⟨hk, hp⟩
  rcases Nat.lt_or_ge k a.length with hlt | hge
  · have ea : a[k]? = some a[k] := List.getElem?_eq_getElem hlt
    simp -dsimp -implicitDefEqProofs only [go_sem, ↓reduceIte, keep136, ib136, mk136, Tryz.f136, Tryz.f136, ea]
    repeat' (with_reducible first | intro _ | refine And.intro ?_ ?_)
    all_goals try omega
    have hx := hc a[k] (List.getElem_mem hlt)
    refine HFnF.mkAt (hx.mono hle) ?_
    cases hpk : p a[k] with
    | true =>
      simp -dsimp -implicitDefEqProofs only [go_sem, ↓reduceIte, keep136, ib136, mk136, Tryz.f136, Tryz.f136]
      repeat' (with_reducible first | intro _ | refine And.intro ?_ ?_)
      all_goals first | exact (idxOf_some hlt hp hpk).symm | rfl | (rw [idxOf_some hlt hp hpk])
    | false =>
      simp -dsimp -implicitDefEqProofs only [go_sem, ↓reduceIte, keep136, ib136, mk136, Tryz.f136, Tryz.f136]
      refine ⟨k + 1, ?_⟩
      repeat' (with_reducible refine And.intro ?_ ?_)
      all_goals try (rw [IntWalk.i64_in _ (by omega)]; first | rfl | omega)
      all_goals try omega
      exact all_step (P := fun x => p x = false) hlt hp hpk
  · have hk' : k = a.length := by omega
    subst hk'
    rw [List.take_length] at hp
    simp -dsimp -implicitDefEqProofs only [go_sem, ↓reduceIte, keep136, ib136, mk136, Tryz.f136, Tryz.f136, Nat.lt_irrefl]
    all_goals first | exact (idxOf_none hp).symm | rw [idxOf_none hp]
def keep112 : List Nat := [0, 1, 4]
def ib112 : List Nat := []
def mk112 : Marks := fun _ => ([], .nil, [])
set_option maxRecDepth 100000 in
theorem hasF_Int64SS (a : List (List Int)) (p : (List Int) → Bool) (g : FuncId) (cap : List HVal) {h0 : Heap} (hc : ∀ x ∈ a, FnAt Tryz.prog g ([(sls 1 (fun n => [I n]) x)] ++ cap) (.bool (p x)) h0) : FnAt Tryz.prog 112 [(sls 1 (fun x => [sls 1 (fun n => [I n]) x]) a), .fn (.func g) [] cap] (.bool (a.any p)) h0 := by
  refine fnAtF 9 keep112 ib112 mk112 mix Tryz.func112 rfl (by kernel_rfl) (by simp) fun h hle => ?_
  simp -dsimp -implicitDefEqProofs only [go_sem, ↓reduceIte, keep112, ib112, mk112, Tryz.f112, Tryz.f112]
  refine HFnF.mkAt ((idxF_Int64SS a p g cap hc).mono hle) ?_
  simp -dsimp -implicitDefEqProofs only [go_sem, ↓reduceIte, keep112, ib112, mk112, Tryz.f112, Tryz.f112]
  all_goals first | done | exact idxOf_nonneg | rw [idxOf_nonneg]

def keep63 : List Nat := [0, 1, 2, 3, 31]
def ib63 : List Nat := [1]
def mk63 : Marks := fun id => match id with | 1 => ([], (.op 0 (.op 1 (.op 2 (.op 3 (.op 4 (.op 5 (.op 6 (.op 7 (.op 8 (.op 9 (.op 10 (.op 11 (.op 12 (.op 13 (.op 14 (.op 15 (.op 16 (.op 17 (.op 18 (.op 19 (.op 20 (.op 21 (.op 22 (.op 23 (.op 24 (.op 25 (.op 26 (.op 27 .nil)))))))))))))))))))))))))))), []) | 3 => ([11, 12], (.op 0 (.op 1 (.op 2 (.op 3 (.op 4 (.op 5 (.op 6 (.op 7 (.op 8 (.op 9 (.op 10 (.op 11 (.op 12 .nil))))))))))))), []) | _ => ([], .nil, [])
set_option maxRecDepth 100000 in
theorem ValidJob (j : DJob) (hps : j.fProgram.s ≤ 4194304) : Fn0 Tryz.prog 63 [.agg j.c] (.bool (decide j.ok)) := by
  have hif := isFunc j.fProgram j.fFunc hps
  have hl := j.fProgram.len_s
  simp only [DJob.c_eq, DProgram.c_eq] at hif ⊢
  by_cases hp : j.fProgram.ok ∧ (0 ≤ j.fFunc ∧ j.fFunc ≤ (j.fProgram.fFuncs.length : Int) - 1)
  · obtain ⟨hp, hr⟩ := hp
    rw [if_pos hp, if_pos hr] at hif
    obtain ⟨f, ef⟩ : ∃ f, j.fProgram.fFuncs[j.fFunc.toNat]? = some f := ⟨_, List.getElem?_eq_getElem (by omega)⟩
    have hfo := hp.2 _ f ef
    have hj : j.ok ↔ j.okF f := ⟨fun z => z.2.2 f ef, fun z => ⟨hp, hr, fun g eg => by rw [ef] at eg; obtain rfl := Option.some.inj eg; exact z⟩⟩
    have hp1 := hfo.2.1
    refine fn0F 54 keep63 ib63 mk63 mix Tryz.func63 rfl (by kernel_rfl) (by simp) fun h => ?_
    simp (maxSteps := 1000000) -dsimp -implicitDefEqProofs only [go_sem, ↓reduceIte, keep63, ib63, mk63, Tryz.f63]
    first | refine HFnF.mk (hif) ?_ | refine CallSF.mk (hif) ?_ | refine HFnF.mkAt (hif) ?_ | refine CallSF.mk (FnAt.fn0 (hif)) ?_
    simp (maxSteps := 1000000) -dsimp -implicitDefEqProofs only [go_sem, ↓reduceIte, keep63, ib63, mk63, Tryz.f63, ef, DFunc.c_eq]
    repeat' (with_reducible first | intro _ | refine And.intro ?_ ?_)
    all_goals try omega
    first | refine HFnF.mk (within j.fShared 0 f.fParams) ?_ | refine CallSF.mk (within j.fShared 0 f.fParams) ?_ | refine HFnF.mkAt (within j.fShared 0 f.fParams) ?_ | refine CallSF.mk (FnAt.fn0 (within j.fShared 0 f.fParams)) ?_
    simp (maxSteps := 1000000) -dsimp -implicitDefEqProofs only [go_sem, ↓reduceIte, keep63, ib63, mk63, Tryz.f63, ef, DFunc.c_eq]
    repeat' (with_reducible first | intro _ | refine And.intro ?_ ?_)
    · first | refine HFnF.mk (areNumbers j.fPoint j.fShared) ?_ | refine CallSF.mk (areNumbers j.fPoint j.fShared) ?_ | refine HFnF.mkAt (areNumbers j.fPoint j.fShared) ?_ | refine CallSF.mk (FnAt.fn0 (areNumbers j.fPoint j.fShared)) ?_
      simp (maxSteps := 1000000) -dsimp -implicitDefEqProofs only [go_sem, ↓reduceIte, keep63, ib63, mk63, Tryz.f63, ef, DFunc.c_eq]
      repeat' (with_reducible first | intro _ | refine And.intro ?_ ?_)
      all_goals try omega
      · rename_i q
        exact (decide_eq_false fun z => q (hj.1 z).2.1).symm
      · rename_i n hn q1 q2
        rw [IntWalk.i64_in _ (by omega)]
        refine HFnF.mkAt (hasF_Int64SS j.fTerms (fun t => !decide ((t.length : Int) = f.fParams - j.fShared ∧ Nums t)) 113 [.op n 1 0 0] fun t _ => ValidJob1 t (f.fParams - j.fShared) n (by simp [upd_get])) ?_
        simp (maxSteps := 1000000) -dsimp -implicitDefEqProofs only [go_sem, ↓reduceIte, keep63, ib63, mk63, Tryz.f63]
        repeat' (with_reducible first | intro _ | refine And.intro ?_ ?_)
        all_goals try (repeat' (with_reducible first | exact Heap.le_refl _ | refine (le_upd (by first | assumption | exact And.right (by assumption) | exact upd_none.2 (by assumption))).2 ?_))
        rw [any_not, decide_eq_decide, hj]
        exact ⟨fun q => ⟨by assumption, by assumption, by omega, q⟩, fun q => q.2.2.2⟩
      · rename_i q
        exact (decide_eq_false fun z => q (by have := (hj.1 z).2.2.1; omega)).symm
      · all_goals try (repeat' (with_reducible first | exact Heap.le_refl _ | refine (le_upd (by first | assumption | exact And.right (by assumption) | exact upd_none.2 (by assumption))).2 ?_))
    · rename_i q
      exact (decide_eq_false fun z => q (hj.1 z).1).symm
  · have hne : ¬ (if j.fProgram.ok then if 0 ≤ j.fFunc ∧ j.fFunc ≤ (j.fProgram.fFuncs.length : Int) - 1 then 0 else 2 else 1 : Int) = 0 := by
      intro q
      split at q
      · split at q
        · rename_i a b
          exact hp ⟨a, b⟩
        · cases q
      · cases q
    refine fn0F 54 keep63 ib63 mk63 mix Tryz.func63 rfl (by kernel_rfl) (by simp) fun h => ?_
    simp (maxSteps := 1000000) -dsimp -implicitDefEqProofs only [go_sem, ↓reduceIte, keep63, ib63, mk63, Tryz.f63]
    first | refine HFnF.mk (hif) ?_ | refine CallSF.mk (hif) ?_ | refine HFnF.mkAt (hif) ?_ | refine CallSF.mk (FnAt.fn0 (hif)) ?_
    simp (maxSteps := 1000000) -dsimp -implicitDefEqProofs only [go_sem, ↓reduceIte, keep63, ib63, mk63, Tryz.f63]
    repeat' (with_reducible first | intro _ | refine And.intro ?_ ?_)
    all_goals try (exact absurd (by assumption) hne)
    exact (decide_eq_false fun z => hp ⟨z.1, z.2.1⟩).symm
open Go.Proofs
set_option linter.unusedVariables false
set_option linter.unusedSimpArgs false
def pointOK (j : DJob) (l : List Int) : Prop := (l.length : Int) = j.fShared ∧ Nums l
def partOK (j : DJob) (p : DPart) : Prop := if p.fCode = 0 then Num p.fValue ∧ pointOK j p.fGrad else (p.fCode = 6 ∨ p.fCode = 7) ∧ p.fValue = 0 ∧ p.fGrad = []
noncomputable instance (j : DJob) (p : DPart) : Decidable (partOK j p) := Classical.propDecidable _
def svcAt (j : DJob) (st ow : Int) (kn : Bool) (p : DPart) : Prop := (0 ≤ st ∧ st ≤ 50) ∧ (-1 ≤ ow ∧ ow ≤ 3) ∧ (kn = true → ow = -1 ∧ partOK j p) ∧ (kn = false → p.fCode = 0 ∧ p.fValue = 0 ∧ p.fGrad = [])
def DService.ok (s : DService) : Prop := s.fJob.ok ∧ (s.fStamps.length = s.fJob.fTerms.length ∧ s.fKnown.length = s.fJob.fTerms.length ∧ s.fParts.length = s.fJob.fTerms.length ∧ s.fOwners.length = s.fJob.fTerms.length) ∧
  ∀ (k : Nat) (st ow : Int) (kn : Bool) (p : DPart), s.fStamps[k]? = some st → s.fOwners[k]? = some ow → s.fKnown[k]? = some kn → s.fParts[k]? = some p → svcAt s.fJob st ow kn p
noncomputable instance (s : DService) : Decidable s.ok := Classical.propDecidable _
open Go.Proofs
set_option linter.unusedVariables false
set_option linter.unusedSimpArgs false
open Go.Proofs
set_option linter.unusedVariables false
set_option linter.unusedSimpArgs false
def keep88 : List Nat := [0, 2, 4]
def ib88 : List Nat := [5]
def mk88 : Marks := fun _ => ([], .nil, [])
set_option maxRecDepth 100000 in
theorem cloneI (l : List Int) (hl : l.length ≤ 1048576) : FnN Tryz.prog 88 [sls 1 (fun n => [I n]) l] (QS (OS (oP I) 1 l)) := by
  refine fnNF 8 keep88 ib88 mk88 mix Tryz.func88 rfl (by kernel_rfl) (by simp) fun h => ?_
  simp (maxSteps := 1000000) -dsimp -implicitDefEqProofs only [go_sem, ↓reduceIte, keep88, ib88, mk88, Tryz.f88]
  repeat' (with_reducible first | intro _ | refine And.intro ?_ ?_)
  all_goals try (first | exact own_nil (by assumption) | exact own_emp (by assumption) | exact own_row (by assumption) | omega)
def keep109 : List Nat := [0, 2]
def ib109 : List Nat := [3]
def mk109 : Marks := fun _ => ([], .nil, [])
set_option maxRecDepth 100000 in
theorem l00Own (l : List Int) (hl : l.length ≤ 1048576) : FnN Tryz.prog 109 [sls 1 (fun n => [I n]) l] (QS (OS (oP I) 1 l)) := by
  refine fnNF 6 keep109 ib109 mk109 mix Tryz.func109 rfl (by kernel_rfl) (by simp) fun h => ?_
  simp (maxSteps := 1000000) -dsimp -implicitDefEqProofs only [go_sem, ↓reduceIte, keep109, ib109, mk109, Tryz.f109]
  repeat' (with_reducible first | intro _ | refine And.intro ?_ ?_)
  all_goals try (first | exact own_nil (by assumption) | exact own_emp (by assumption) | exact own_row (by assumption) | omega)
def keep137 : List Nat := [0, 1, 2, 3, 5, 9, 10, 11, 12]
def ib137 : List Nat := [19]
def mk137 : Marks := fun id => match id with | 6 => ([1, 2, 3, 5, 7], (.op 0 (.op 1 (.op 2 (.op 3 (.op 4 (.op 5 (.op 6 (.op 7 .nil)))))))), [(1, 3)]) | _ => ([], .nil, [])
set_option maxRecDepth 100000 in
theorem cloneExpr_step (x : DExpr) (hs : x.s ≤ 1048576) (hk : ∀ y ∈ x.fKids, FnN Tryz.prog 137 [.agg y.c] (QA y.o)) : FnN Tryz.prog 137 [.agg x.c] (QA x.o) := by
  have hs' := x.s_eq
  rw [szs_eq] at hs'
  simp only [DExpr.c_eq]
  refine fnNF 24 keep137 ib137 mk137 mix Tryz.func137 rfl (by kernel_rfl) (by simp) fun h => ?_
  try simp (maxSteps := 1000000) -dsimp -implicitDefEqProofs only [go_sem, ↓reduceIte, keep137, ib137, mk137, Tryz.f137, upd_upd, upd_ne]
  intro n1 qn1
  have z_n1 := qn1
  intro n2 qn2
  have dn2_n1 : ¬ n2 = n1 := qn2.1
  have en2_n1 : (n2 = n1) = False := eq_false dn2_n1
  have fn2_n1 : (n1 = n2) = False := eq_false (fun e => dn2_n1 e.symm)
  have dn1_n2 : ¬ n1 = n2 := fun e => dn2_n1 e.symm
  have z_n2 := qn2.2
  try simp (maxSteps := 1000000) -dsimp -implicitDefEqProofs only [go_sem, ↓reduceIte, keep137, ib137, mk137, Tryz.f137, upd_upd, upd_ne, en2_n1, fn2_n1]
  try (with_reducible intro _)
  refine loopF (keep := keep137) (ib := ib137) (mk := mk137) mix (by kernel_rfl) (fun s : Nat × List (List OV) × Heap × Option Nat => [(1, .op n1 5 0 0), (2, .op n2 5 0 0), (9, sls 5 DExpr.c x.fKids), (10, I x.fKids.length), (11, (I s.1))]) (fun s => (upd (upd (oheap s.2.2.1 (.row 5 (OV.cells s.2.1)) s.2.2.2) n1 (.row 5 [[.v (I x.fKind), .v (I x.fNum), .v (I x.fPick), .v (I x.fCount), .v (onil 5 s.2.1.length s.2.2.2)]])) n2 (.row 5 [[.v (.int .i64 0), .v (.int .i64 0), .v (.int .i64 0), .v (.int .i64 0), .v (.nilsl)]]))) (fun s => s.1 ≤ x.fKids.length ∧ OR DExpr.o (x.fKids.take s.1) s.2.1 ∧ New h (OV.rowsRows s.2.1) s.2.2.1 ∧ s.2.2.1 n1 = none ∧ s.2.2.1 n2 = none ∧ gside s.2.2.1 s.2.1 s.2.2.2 ∧ ∀ n : Nat, s.2.2.2 = some n → n ≠ n1 ∧ n ≠ n2) (fun s => x.fKids.length - s.1) (0, [], h, none) ?_ ?_
  · exact ⟨by simp [SatL, tget], (by intro q_; simp only [upd_get, oheap_none, oheap_some, onil_none, onil_some, take_cells, cells_snoc, cells_one, cells_nil, cellv_cons, cellv_nil, OV.val_v, List.nil_append, List.length_append, List.length_cons, List.length_nil, Nat.zero_add]; grind), Nat.zero_le _, trivial, New.nil _, z_n1, z_n2, rfl, by simp⟩
  rintro ⟨k, es, g_, o_⟩ ⟨hkk, hor, hnew, z_n1, z_n2, hos, hon⟩
  simp only at hkk hor hnew z_n1 z_n2 hos hon ⊢
  have hlen : es.length = k := by have := hor.length; simp at this; omega
  rcases Nat.lt_or_ge k x.fKids.length with hlt | hge
  · have ea : x.fKids[k]? = some x.fKids[k] := List.getElem?_eq_getElem hlt
    have hx := hk x.fKids[k] (List.getElem_mem hlt)
    simp only [DExpr.c_eq] at hx
    cases o_ with
    | none =>
      rw [gside_none] at hos
      subst hos
      try simp (maxSteps := 1000000) -dsimp -implicitDefEqProofs only [go_sem, ↓reduceIte, keep137, ib137, mk137, Tryz.f137, upd_upd, upd_ne, en2_n1, fn2_n1, ea, hlt, oheap_none, onil_none, DExpr.c_eq]
      intro n5 qn5
      have dn5_n2 : ¬ n5 = n2 := qn5.1
      have en5_n2 : (n5 = n2) = False := eq_false dn5_n2
      have fn5_n2 : (n2 = n5) = False := eq_false (fun e => dn5_n2 e.symm)
      have dn2_n5 : ¬ n2 = n5 := fun e => dn5_n2 e.symm
      have dn5_n1 : ¬ n5 = n1 := qn5.2.1
      have en5_n1 : (n5 = n1) = False := eq_false dn5_n1
      have fn5_n1 : (n1 = n5) = False := eq_false (fun e => dn5_n1 e.symm)
      have dn1_n5 : ¬ n1 = n5 := fun e => dn5_n1 e.symm
      have z_n5 := qn5.2.2
      try simp (maxSteps := 1000000) -dsimp -implicitDefEqProofs only [go_sem, ↓reduceIte, keep137, ib137, mk137, Tryz.f137, upd_upd, upd_ne, en2_n1, fn2_n1, en5_n2, fn5_n2, en5_n1, fn5_n1, ea, hlt, oheap_none, onil_none, DExpr.c_eq]
      refine HFnF.wn3 (hx) z_n1 ⟨dn2_n1, z_n2⟩ ⟨dn5_n2, dn5_n1, z_n5⟩ ?_
      rintro r l_ gb ⟨e_b, oeb, rfl, rfl⟩ wb z_n1 z_n2 z_n5
      have oob := oeb
      rw [DExpr.o_iff] at oob
      obtain ⟨yb_4, rfl, ob_4⟩ := oob
      try simp (maxSteps := 1000000) -dsimp -implicitDefEqProofs only [go_sem, ↓reduceIte, keep137, ib137, mk137, Tryz.f137, upd_upd, upd_ne, en2_n1, fn2_n1, en5_n2, fn5_n2, en5_n1, fn5_n1, ea, hlt, oheap_none, onil_none, ob_4.flat, ob_4.one, OV.map_val, OV.map_val_nil, OV.val_v]
      repeat' (with_reducible first | refine And.intro (by first | omega | decide | rfl | trivial | exact Nat.le_of_eq (reps_len _ _).symm | exact Nat.le_of_eq (cells_len _).symm) ?_)
      intro m qm
      have dm_n5 : ¬ m = n5 := qm.1
      have em_n5 : (m = n5) = False := eq_false dm_n5
      have fm_n5 : (n5 = m) = False := eq_false (fun e => dm_n5 e.symm)
      have dn5_m : ¬ n5 = m := fun e => dm_n5 e.symm
      have dm_n2 : ¬ m = n2 := qm.2.1
      have em_n2 : (m = n2) = False := eq_false dm_n2
      have fm_n2 : (n2 = m) = False := eq_false (fun e => dm_n2 e.symm)
      have dn2_m : ¬ n2 = m := fun e => dm_n2 e.symm
      have dm_n1 : ¬ m = n1 := qm.2.2.1
      have em_n1 : (m = n1) = False := eq_false dm_n1
      have fm_n1 : (n1 = m) = False := eq_false (fun e => dm_n1 e.symm)
      have dn1_m : ¬ n1 = m := fun e => dm_n1 e.symm
      have z_m := qm.2.2.2
      try simp (maxSteps := 1000000) -dsimp -implicitDefEqProofs only [go_sem, ↓reduceIte, keep137, ib137, mk137, Tryz.f137, upd_upd, upd_ne, en2_n1, fn2_n1, en5_n2, fn5_n2, en5_n1, fn5_n1, em_n5, fm_n5, em_n2, fm_n2, em_n1, fm_n1, ea, hlt, oheap_none, onil_none, ob_4.flat, ob_4.one, OV.map_val, OV.map_val_nil, OV.val_v]
      refine ⟨(k + 1, ([] : List (List OV)) ++ [[.v (.int .i64 x.fKids[k].fKind), .v (.int .i64 x.fKids[k].fNum), .v (.int .i64 x.fKids[k].fPick), .v (.int .i64 x.fKids[k].fCount), yb_4]], gb, some m), ?_⟩
      simp only
      refine ⟨?_, (by intro q_; simp only [upd_get, oheap_none, oheap_some, onil_none, onil_some, take_cells, cells_snoc, cells_one, cells_nil, cellv_cons, cellv_nil, OV.val_v, List.nil_append, List.length_append, List.length_cons, List.length_nil, Nat.zero_add]; grind), ⟨by omega, OR.snoc hor hlt oeb, hnew.snoc wb, z_n1, z_n2, z_m, (fun n_ e_ => by obtain rfl := Option.some.inj e_; exact ⟨dm_n1, dm_n2⟩)⟩, by omega⟩
      all_goals (repeat' (with_reducible refine And.intro ?_ ?_))
      all_goals first | rfl | trivial | (rw [IntWalk.i64_in _ (by omega)]; omega)
    | some n =>
      rw [gside_some] at hos
      have z_n := hos
      have hn := hon n rfl
      have dn_n1 : ¬ n = n1 := hn.1
      have en_n1 : (n = n1) = False := eq_false dn_n1
      have fn_n1 : (n1 = n) = False := eq_false (fun e => dn_n1 e.symm)
      have dn1_n : ¬ n1 = n := fun e => dn_n1 e.symm
      have dn_n2 : ¬ n = n2 := hn.2
      have en_n2 : (n = n2) = False := eq_false dn_n2
      have fn_n2 : (n2 = n) = False := eq_false (fun e => dn_n2 e.symm)
      have dn2_n : ¬ n2 = n := fun e => dn_n2 e.symm
      try simp (maxSteps := 1000000) -dsimp -implicitDefEqProofs only [go_sem, ↓reduceIte, keep137, ib137, mk137, Tryz.f137, upd_upd, upd_ne, en2_n1, fn2_n1, en_n1, fn_n1, en_n2, fn_n2, ea, hlt, oheap_some, onil_some, DExpr.c_eq]
      intro n5 qn5
      have dn5_n2 : ¬ n5 = n2 := qn5.1
      have en5_n2 : (n5 = n2) = False := eq_false dn5_n2
      have fn5_n2 : (n2 = n5) = False := eq_false (fun e => dn5_n2 e.symm)
      have dn2_n5 : ¬ n2 = n5 := fun e => dn5_n2 e.symm
      have dn5_n1 : ¬ n5 = n1 := qn5.2.1
      have en5_n1 : (n5 = n1) = False := eq_false dn5_n1
      have fn5_n1 : (n1 = n5) = False := eq_false (fun e => dn5_n1 e.symm)
      have dn1_n5 : ¬ n1 = n5 := fun e => dn5_n1 e.symm
      have dn5_n : ¬ n5 = n := qn5.2.2.1
      have en5_n : (n5 = n) = False := eq_false dn5_n
      have fn5_n : (n = n5) = False := eq_false (fun e => dn5_n e.symm)
      have dn_n5 : ¬ n = n5 := fun e => dn5_n e.symm
      have z_n5 := qn5.2.2.2
      try simp (maxSteps := 1000000) -dsimp -implicitDefEqProofs only [go_sem, ↓reduceIte, keep137, ib137, mk137, Tryz.f137, upd_upd, upd_ne, en2_n1, fn2_n1, en_n1, fn_n1, en_n2, fn_n2, en5_n2, fn5_n2, en5_n1, fn5_n1, en5_n, fn5_n, ea, hlt, oheap_some, onil_some, DExpr.c_eq]
      refine HFnF.wn4 (hx) z_n ⟨dn1_n, z_n1⟩ ⟨dn2_n1, dn2_n, z_n2⟩ ⟨dn5_n2, dn5_n1, dn5_n, z_n5⟩ ?_
      rintro r l_ gb ⟨e_b, oeb, rfl, rfl⟩ wb z_n z_n1 z_n2 z_n5
      have oob := oeb
      rw [DExpr.o_iff] at oob
      obtain ⟨yb_4, rfl, ob_4⟩ := oob
      try simp (maxSteps := 1000000) -dsimp -implicitDefEqProofs only [go_sem, ↓reduceIte, keep137, ib137, mk137, Tryz.f137, upd_upd, upd_ne, en2_n1, fn2_n1, en_n1, fn_n1, en_n2, fn_n2, en5_n2, fn5_n2, en5_n1, fn5_n1, en5_n, fn5_n, ea, hlt, oheap_some, onil_some, ob_4.flat, ob_4.one, OV.map_val, OV.map_val_nil, OV.val_v]
      repeat' (with_reducible first | refine And.intro (by first | omega | decide | rfl | trivial | exact Nat.le_of_eq (reps_len _ _).symm | exact Nat.le_of_eq (cells_len _).symm) ?_)
      intro m qm
      have dm_n5 : ¬ m = n5 := qm.1
      have em_n5 : (m = n5) = False := eq_false dm_n5
      have fm_n5 : (n5 = m) = False := eq_false (fun e => dm_n5 e.symm)
      have dn5_m : ¬ n5 = m := fun e => dm_n5 e.symm
      have dm_n2 : ¬ m = n2 := qm.2.1
      have em_n2 : (m = n2) = False := eq_false dm_n2
      have fm_n2 : (n2 = m) = False := eq_false (fun e => dm_n2 e.symm)
      have dn2_m : ¬ n2 = m := fun e => dm_n2 e.symm
      have dm_n1 : ¬ m = n1 := qm.2.2.1
      have em_n1 : (m = n1) = False := eq_false dm_n1
      have fm_n1 : (n1 = m) = False := eq_false (fun e => dm_n1 e.symm)
      have dn1_m : ¬ n1 = m := fun e => dm_n1 e.symm
      have dm_n : ¬ m = n := qm.2.2.2.1
      have em_n : (m = n) = False := eq_false dm_n
      have fm_n : (n = m) = False := eq_false (fun e => dm_n e.symm)
      have dn_m : ¬ n = m := fun e => dm_n e.symm
      have z_m := qm.2.2.2.2
      try simp (maxSteps := 1000000) -dsimp -implicitDefEqProofs only [go_sem, ↓reduceIte, keep137, ib137, mk137, Tryz.f137, upd_upd, upd_ne, en2_n1, fn2_n1, en_n1, fn_n1, en_n2, fn_n2, en5_n2, fn5_n2, en5_n1, fn5_n1, en5_n, fn5_n, em_n5, fm_n5, em_n2, fm_n2, em_n1, fm_n1, em_n, fm_n, ea, hlt, oheap_some, onil_some, ob_4.flat, ob_4.one, OV.map_val, OV.map_val_nil, OV.val_v]
      refine ⟨(k + 1, es ++ [[.v (.int .i64 x.fKids[k].fKind), .v (.int .i64 x.fKids[k].fNum), .v (.int .i64 x.fKids[k].fPick), .v (.int .i64 x.fKids[k].fCount), yb_4]], gb, some m), ?_⟩
      simp only
      refine ⟨?_, (by intro q_; simp only [upd_get, oheap_none, oheap_some, onil_none, onil_some, take_cells, cells_snoc, cells_one, cells_nil, cellv_cons, cellv_nil, OV.val_v, List.nil_append, List.length_append, List.length_cons, List.length_nil, Nat.zero_add]; grind), ⟨by omega, OR.snoc hor hlt oeb, hnew.snoc wb, z_n1, z_n2, z_m, (fun n_ e_ => by obtain rfl := Option.some.inj e_; exact ⟨dm_n1, dm_n2⟩)⟩, by omega⟩
      all_goals (repeat' (with_reducible refine And.intro ?_ ?_))
      all_goals first | rfl | trivial | (rw [IntWalk.i64_in _ (by omega)]; omega)
  · have hk2 : k = x.fKids.length := by omega
    subst hk2
    rw [List.take_length] at hor
    have zz_n1 : oheap g_ (.row 5 (OV.cells es)) o_ n1 = none := oheap_at z_n1 fun n_ e_ => (hon n_ e_).1
    have zz_n2 : oheap g_ (.row 5 (OV.cells es)) o_ n2 = none := oheap_at z_n2 fun n_ e_ => (hon n_ e_).2
    try simp (maxSteps := 1000000) -dsimp -implicitDefEqProofs only [go_sem, ↓reduceIte, keep137, ib137, mk137, Tryz.f137, upd_upd, upd_ne, en2_n1, fn2_n1, onil_flat, onil_cells, Nat.lt_irrefl]
    try (with_reducible intro _)
    refine ⟨_, (oheap g_ (.row 5 (OV.cells es)) o_), _, Shift.of (Sub.agg (SubL.cons (Sub.refl _) (SubL.cons (Sub.refl _) (SubL.cons (Sub.refl _) (SubL.cons (Sub.refl _) (SubL.cons gov_sub SubL.nil)))))) (by intro q_; simp only [upd_get, oheap_none, oheap_some, onil_none, onil_some, take_cells, cells_snoc, cells_one, cells_nil, cellv_cons, cellv_nil, OV.val_v, List.nil_append, List.length_append, List.length_cons, List.length_nil, Nat.zero_add]; grind), ⟨[.v (I x.fKind), .v (I x.fNum), .v (I x.fPick), .v (I x.fCount), (gov 5 es o_)], ?_, rfl, rfl⟩, ?_⟩
    · rw [DExpr.o_iff]; exact ⟨(gov 5 es o_), rfl, gov_os hor hos⟩
    · have hq := (gov_new (sz := 5) hnew hos)
      simpa only [OV.row_cons, OV.row_nil, OV.v_rows, List.nil_append, List.append_nil, List.append_assoc] using hq
theorem cloneExpr (x : DExpr) (hs : x.s ≤ 1048576) : FnN Tryz.prog 137 [.agg x.c] (QA x.o) :=
  cloneExpr_step x hs fun y hy => cloneExpr y (by have := sum_mem DExpr.s hy; rw [x.s_eq, szs_eq] at hs; omega)
termination_by SizeOf.sizeOf x
decreasing_by exact DExpr.kid_lt hy

def keep133 : List Nat := [0, 2, 3, 4, 28]
def ib133 : List Nat := [40]
def mk133 : Marks := fun id => match id with | 1 => ([17, 18], (.op 0 (.op 1 (.op 2 (.op 3 (.op 4 (.op 5 (.op 6 (.op 7 (.op 8 (.op 9 (.op 10 (.op 11 (.op 12 (.op 13 (.op 14 (.op 15 (.op 16 (.op 17 (.op 18 .nil))))))))))))))))))), []) | 5 => ([1, 8, 10, 12], (.op 0 (.op 2 (.op 3 (.op 4 (.op 5 (.op 6 (.op 7 (.op 1 (.op 8 (.op 9 (.op 10 (.op 11 (.op 12 .nil))))))))))))), [(1, 8)]) | _ => ([], .nil, [])
set_option maxRecDepth 100000 in
theorem l02Own_step (x : DExpr) (hs : x.s ≤ 1048576) (hk : ∀ y ∈ x.fKids, FnN Tryz.prog 133 [.ip 5 [y.c] 0 0] (QA y.o)) : FnN Tryz.prog 133 [.ip 5 [x.c] 0 0] (QA x.o) := by
  have hs' := x.s_eq
  rw [szs_eq] at hs'
  simp only [DExpr.c_eq]
  refine fnNF 44 keep133 ib133 mk133 mix Tryz.func133 rfl (by kernel_rfl) (by simp) fun h => ?_
  try simp (maxSteps := 1000000) -dsimp -implicitDefEqProofs only [go_sem, ↓reduceIte, keep133, ib133, mk133, Tryz.f133, upd_upd, upd_ne]
  intro n1 qn1
  have z_n1 := qn1
  intro n2 qn2
  have dn2_n1 : ¬ n2 = n1 := qn2.1
  have en2_n1 : (n2 = n1) = False := eq_false dn2_n1
  have fn2_n1 : (n1 = n2) = False := eq_false (fun e => dn2_n1 e.symm)
  have dn1_n2 : ¬ n1 = n2 := fun e => dn2_n1 e.symm
  have z_n2 := qn2.2
  try simp (maxSteps := 1000000) -dsimp -implicitDefEqProofs only [go_sem, ↓reduceIte, keep133, ib133, mk133, Tryz.f133, upd_upd, upd_ne, en2_n1, fn2_n1]
  try (with_reducible intro _)
  refine loopF (keep := keep133) (ib := ib133) (mk := mk133) mix (by kernel_rfl) (fun s : Nat × List (List OV) × Heap × Option Nat => [(0, .ip 5 [[I x.fKind, I x.fNum, I x.fPick, I x.fCount, sls 5 DExpr.c x.fKids]] 0 0), (2, .op n1 5 0 0), (3, .op n2 5 0 0), (4, (I s.1))]) (fun s => (upd (upd (oheap s.2.2.1 (.row 5 (OV.cells s.2.1)) s.2.2.2) n1 (.row 5 [[.v (.int .i64 0), .v (.int .i64 0), .v (.int .i64 0), .v (.int .i64 0), .v (.nilsl)]])) n2 (.row 5 [[.v (I x.fKind), .v (I x.fNum), .v (I x.fPick), .v (I x.fCount), .v (onil 5 s.2.1.length s.2.2.2)]]))) (fun s => s.1 ≤ x.fKids.length ∧ OR DExpr.o (x.fKids.take s.1) s.2.1 ∧ New h (OV.rowsRows s.2.1) s.2.2.1 ∧ s.2.2.1 n1 = none ∧ s.2.2.1 n2 = none ∧ gside s.2.2.1 s.2.1 s.2.2.2 ∧ ∀ n : Nat, s.2.2.2 = some n → n ≠ n1 ∧ n ≠ n2) (fun s => x.fKids.length - s.1) (0, [], h, none) ?_ ?_
  · exact ⟨by simp [SatL, tget], (by intro q_; simp only [upd_get, oheap_none, oheap_some, onil_none, onil_some, take_cells, cells_snoc, cells_one, cells_nil, cellv_cons, cellv_nil, OV.val_v, List.nil_append, List.length_append, List.length_cons, List.length_nil, Nat.zero_add]; grind), Nat.zero_le _, trivial, New.nil _, z_n1, z_n2, rfl, by simp⟩
  rintro ⟨k, es, g_, o_⟩ ⟨hkk, hor, hnew, z_n1, z_n2, hos, hon⟩
  simp only at hkk hor hnew z_n1 z_n2 hos hon ⊢
  have hlen : es.length = k := by have := hor.length; simp at this; omega
  rcases Nat.lt_or_ge k x.fKids.length with hlt | hge
  · have ea : x.fKids[k]? = some x.fKids[k] := List.getElem?_eq_getElem hlt
    have hx := hk x.fKids[k] (List.getElem_mem hlt)
    cases o_ with
    | none =>
      rw [gside_none] at hos
      subst hos
      try simp (maxSteps := 1000000) -dsimp -implicitDefEqProofs only [go_sem, ↓reduceIte, keep133, ib133, mk133, Tryz.f133, upd_upd, upd_ne, en2_n1, fn2_n1, ea, hlt, oheap_none, onil_none, DExpr.c_eq]
      try (with_reducible intro _)
      refine HFnF.wn2 (FnN.sub (by repeat' (first | exact SubL.nil | refine SubL.cons ?_ ?_ | exact Sub.refl _ | (rw [DExpr.c_eq]; exact Sub.refl _) | exact Sub.ipAt rfl rfl rfl | exact Sub.ip (map_get (by omega)) (by simp) | exact Sub.ipAt (map_get (by omega)) rfl rfl | exact Sub.ip (by simp [*]) (by simp) | exact Sub.ipAt (by simp [*]) (by rfl) (by rfl))) hx) z_n1 ⟨dn2_n1, z_n2⟩ ?_
      rintro r l_ gb ⟨e_b, oeb, rfl, rfl⟩ wb z_n1 z_n2
      have oob := oeb
      rw [DExpr.o_iff] at oob
      obtain ⟨yb_4, rfl, ob_4⟩ := oob
      try simp (maxSteps := 1000000) -dsimp -implicitDefEqProofs only [go_sem, ↓reduceIte, keep133, ib133, mk133, Tryz.f133, upd_upd, upd_ne, en2_n1, fn2_n1, ea, hlt, oheap_none, onil_none, ob_4.flat, ob_4.one, OV.map_val, OV.map_val_nil, OV.val_v]
      repeat' (with_reducible first | refine And.intro (by first | omega | decide | rfl | trivial | exact Nat.le_of_eq (reps_len _ _).symm | exact Nat.le_of_eq (cells_len _).symm) ?_)
      intro m qm
      have dm_n2 : ¬ m = n2 := qm.1
      have em_n2 : (m = n2) = False := eq_false dm_n2
      have fm_n2 : (n2 = m) = False := eq_false (fun e => dm_n2 e.symm)
      have dn2_m : ¬ n2 = m := fun e => dm_n2 e.symm
      have dm_n1 : ¬ m = n1 := qm.2.1
      have em_n1 : (m = n1) = False := eq_false dm_n1
      have fm_n1 : (n1 = m) = False := eq_false (fun e => dm_n1 e.symm)
      have dn1_m : ¬ n1 = m := fun e => dm_n1 e.symm
      have z_m := qm.2.2
      try simp (maxSteps := 1000000) -dsimp -implicitDefEqProofs only [go_sem, ↓reduceIte, keep133, ib133, mk133, Tryz.f133, upd_upd, upd_ne, en2_n1, fn2_n1, em_n2, fm_n2, em_n1, fm_n1, ea, hlt, oheap_none, onil_none, ob_4.flat, ob_4.one, OV.map_val, OV.map_val_nil, OV.val_v]
      refine ⟨(k + 1, ([] : List (List OV)) ++ [[.v (.int .i64 x.fKids[k].fKind), .v (.int .i64 x.fKids[k].fNum), .v (.int .i64 x.fKids[k].fPick), .v (.int .i64 x.fKids[k].fCount), yb_4]], gb, some m), ?_⟩
      simp only
      refine ⟨?_, (by intro q_; simp only [upd_get, oheap_none, oheap_some, onil_none, onil_some, take_cells, cells_snoc, cells_one, cells_nil, cellv_cons, cellv_nil, OV.val_v, List.nil_append, List.length_append, List.length_cons, List.length_nil, Nat.zero_add]; grind), ⟨by omega, OR.snoc hor hlt oeb, hnew.snoc wb, z_n1, z_n2, z_m, (fun n_ e_ => by obtain rfl := Option.some.inj e_; exact ⟨dm_n1, dm_n2⟩)⟩, by omega⟩
      all_goals (repeat' (with_reducible refine And.intro ?_ ?_))
      all_goals first | rfl | trivial | (rw [IntWalk.i64_in _ (by omega)]; omega)
    | some n =>
      rw [gside_some] at hos
      have z_n := hos
      have hn := hon n rfl
      have dn_n1 : ¬ n = n1 := hn.1
      have en_n1 : (n = n1) = False := eq_false dn_n1
      have fn_n1 : (n1 = n) = False := eq_false (fun e => dn_n1 e.symm)
      have dn1_n : ¬ n1 = n := fun e => dn_n1 e.symm
      have dn_n2 : ¬ n = n2 := hn.2
      have en_n2 : (n = n2) = False := eq_false dn_n2
      have fn_n2 : (n2 = n) = False := eq_false (fun e => dn_n2 e.symm)
      have dn2_n : ¬ n2 = n := fun e => dn_n2 e.symm
      try simp (maxSteps := 1000000) -dsimp -implicitDefEqProofs only [go_sem, ↓reduceIte, keep133, ib133, mk133, Tryz.f133, upd_upd, upd_ne, en2_n1, fn2_n1, en_n1, fn_n1, en_n2, fn_n2, ea, hlt, oheap_some, onil_some, DExpr.c_eq]
      try (with_reducible intro _)
      refine HFnF.wn3 (FnN.sub (by repeat' (first | exact SubL.nil | refine SubL.cons ?_ ?_ | exact Sub.refl _ | (rw [DExpr.c_eq]; exact Sub.refl _) | exact Sub.ipAt rfl rfl rfl | exact Sub.ip (map_get (by omega)) (by simp) | exact Sub.ipAt (map_get (by omega)) rfl rfl | exact Sub.ip (by simp [*]) (by simp) | exact Sub.ipAt (by simp [*]) (by rfl) (by rfl))) hx) z_n ⟨dn1_n, z_n1⟩ ⟨dn2_n1, dn2_n, z_n2⟩ ?_
      rintro r l_ gb ⟨e_b, oeb, rfl, rfl⟩ wb z_n z_n1 z_n2
      have oob := oeb
      rw [DExpr.o_iff] at oob
      obtain ⟨yb_4, rfl, ob_4⟩ := oob
      try simp (maxSteps := 1000000) -dsimp -implicitDefEqProofs only [go_sem, ↓reduceIte, keep133, ib133, mk133, Tryz.f133, upd_upd, upd_ne, en2_n1, fn2_n1, en_n1, fn_n1, en_n2, fn_n2, ea, hlt, oheap_some, onil_some, ob_4.flat, ob_4.one, OV.map_val, OV.map_val_nil, OV.val_v]
      repeat' (with_reducible first | refine And.intro (by first | omega | decide | rfl | trivial | exact Nat.le_of_eq (reps_len _ _).symm | exact Nat.le_of_eq (cells_len _).symm) ?_)
      intro m qm
      have dm_n2 : ¬ m = n2 := qm.1
      have em_n2 : (m = n2) = False := eq_false dm_n2
      have fm_n2 : (n2 = m) = False := eq_false (fun e => dm_n2 e.symm)
      have dn2_m : ¬ n2 = m := fun e => dm_n2 e.symm
      have dm_n1 : ¬ m = n1 := qm.2.1
      have em_n1 : (m = n1) = False := eq_false dm_n1
      have fm_n1 : (n1 = m) = False := eq_false (fun e => dm_n1 e.symm)
      have dn1_m : ¬ n1 = m := fun e => dm_n1 e.symm
      have dm_n : ¬ m = n := qm.2.2.1
      have em_n : (m = n) = False := eq_false dm_n
      have fm_n : (n = m) = False := eq_false (fun e => dm_n e.symm)
      have dn_m : ¬ n = m := fun e => dm_n e.symm
      have z_m := qm.2.2.2
      try simp (maxSteps := 1000000) -dsimp -implicitDefEqProofs only [go_sem, ↓reduceIte, keep133, ib133, mk133, Tryz.f133, upd_upd, upd_ne, en2_n1, fn2_n1, en_n1, fn_n1, en_n2, fn_n2, em_n2, fm_n2, em_n1, fm_n1, em_n, fm_n, ea, hlt, oheap_some, onil_some, ob_4.flat, ob_4.one, OV.map_val, OV.map_val_nil, OV.val_v]
      refine ⟨(k + 1, es ++ [[.v (.int .i64 x.fKids[k].fKind), .v (.int .i64 x.fKids[k].fNum), .v (.int .i64 x.fKids[k].fPick), .v (.int .i64 x.fKids[k].fCount), yb_4]], gb, some m), ?_⟩
      simp only
      refine ⟨?_, (by intro q_; simp only [upd_get, oheap_none, oheap_some, onil_none, onil_some, take_cells, cells_snoc, cells_one, cells_nil, cellv_cons, cellv_nil, OV.val_v, List.nil_append, List.length_append, List.length_cons, List.length_nil, Nat.zero_add]; grind), ⟨by omega, OR.snoc hor hlt oeb, hnew.snoc wb, z_n1, z_n2, z_m, (fun n_ e_ => by obtain rfl := Option.some.inj e_; exact ⟨dm_n1, dm_n2⟩)⟩, by omega⟩
      all_goals (repeat' (with_reducible refine And.intro ?_ ?_))
      all_goals first | rfl | trivial | (rw [IntWalk.i64_in _ (by omega)]; omega)
  · have hk2 : k = x.fKids.length := by omega
    subst hk2
    rw [List.take_length] at hor
    have zz_n1 : oheap g_ (.row 5 (OV.cells es)) o_ n1 = none := oheap_at z_n1 fun n_ e_ => (hon n_ e_).1
    have zz_n2 : oheap g_ (.row 5 (OV.cells es)) o_ n2 = none := oheap_at z_n2 fun n_ e_ => (hon n_ e_).2
    try simp (maxSteps := 1000000) -dsimp -implicitDefEqProofs only [go_sem, ↓reduceIte, keep133, ib133, mk133, Tryz.f133, upd_upd, upd_ne, en2_n1, fn2_n1, onil_flat, onil_cells, Nat.lt_irrefl]
    try (with_reducible intro _)
    refine ⟨_, (oheap g_ (.row 5 (OV.cells es)) o_), _, Shift.of (Sub.agg (SubL.cons (Sub.refl _) (SubL.cons (Sub.refl _) (SubL.cons (Sub.refl _) (SubL.cons (Sub.refl _) (SubL.cons gov_sub SubL.nil)))))) (by intro q_; simp only [upd_get, oheap_none, oheap_some, onil_none, onil_some, take_cells, cells_snoc, cells_one, cells_nil, cellv_cons, cellv_nil, OV.val_v, List.nil_append, List.length_append, List.length_cons, List.length_nil, Nat.zero_add]; grind), ⟨[.v (I x.fKind), .v (I x.fNum), .v (I x.fPick), .v (I x.fCount), (gov 5 es o_)], ?_, rfl, rfl⟩, ?_⟩
    · rw [DExpr.o_iff]; exact ⟨(gov 5 es o_), rfl, gov_os hor hos⟩
    · have hq := (gov_new (sz := 5) hnew hos)
      simpa only [OV.row_cons, OV.row_nil, OV.v_rows, List.nil_append, List.append_nil, List.append_assoc] using hq
theorem l02Own (x : DExpr) (hs : x.s ≤ 1048576) : FnN Tryz.prog 133 [.ip 5 [x.c] 0 0] (QA x.o) :=
  l02Own_step x hs fun y hy => l02Own y (by have := sum_mem DExpr.s hy; rw [x.s_eq, szs_eq] at hs; omega)
termination_by SizeOf.sizeOf x
decreasing_by exact DExpr.kid_lt hy

end Go.Hl

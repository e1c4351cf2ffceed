/-
  Contracts of functions and laws of the layer over the walk.
-/
import Derived.Test.YtenkidkcfjbcgaaDoorVvA
import Derived.Test.YtenkidkcfjbcgaaDoorProg
import Derived.Shelf.Strconv.Itoa4
import Derived.Shelf.Strings.OnBuilder
import Derived.Shelf.LaysM
import Derived.KernelRfl
import Derived.Lib.Split
import Derived.Lib.ParseIntB
import Derived.Lib.ItoaNum
import Derived.Lib.ItoaMem
import Derived.Lib.Join
import Derived.Test.YtenkidkcfjbcgaaDoorHlD
import Derived.Test.YtenkidkcfjbcgaaDoorGb
namespace Go.Hl
open Go.Proofs
set_option linter.unusedVariables false
set_option linter.unusedSimpArgs false
theorem no_call {p : DProgram} {e : DExpr} {vars funcs : Int} {f : DFunc} (hk : e.fKind = 10 ∨ e.fKind = 11) (ef : p.fFuncs[e.fNum.toNat]? = some f)
    (q : ¬ (0 ≤ e.fPick ∧ e.fPick ≤ (f.fOuts.length : Int) - 1 ∧ (e.fKids.length : Int) = f.fParams ∧ (e.fKind = 10 → e.fCount = 0) ∧ (e.fKind = 11 → 0 ≤ e.fCount ∧ e.fCount ≤ 8 ∧ (f.fOuts.length : Int) = f.fParams))) : false = decide (e.ok p funcs vars) :=
  (decide_eq_false fun z => q ((nodeOK_call hk ef).1 ((DExpr.ok_iff _ _ _ _).1 z).1).2.2).symm
theorem no_range {p : DProgram} {e : DExpr} {vars funcs : Int} (hk : e.fKind = 10 ∨ e.fKind = 11) (q : ¬ (0 ≤ e.fNum ∧ e.fNum ≤ funcs - 1)) : false = decide (e.ok p funcs vars) :=
  (decide_eq_false fun z => nodeOK_range hk q ((DExpr.ok_iff _ _ _ _).1 z).1).symm
set_option maxHeartbeats 8000000 in
set_option maxRecDepth 100000 in
theorem isFormed_10 (p : DProgram) (e : DExpr) (vars funcs : Int) (hv : 0 ≤ vars) (hv2 : vars + e.s ≤ 4294967296) (hf0 : 0 ≤ funcs) (hf : funcs ≤ p.fFuncs.length) (hps : p.s ≤ 4294967296)
    (hc : ∀ y ∈ e.fKids, ∀ vars : Int, 0 ≤ vars → vars + y.s ≤ 4294967296 → Fn0 Tryd.prog 71 [.agg [sls 3 DFunc.c p.fFuncs, I funcs], .agg y.c, I vars] (.bool (decide (y.ok p funcs vars)))) (hk : e.fKind = 10) :
    Fn0 Tryd.prog 71 [.agg [sls 3 DFunc.c p.fFuncs, I funcs], .agg e.c, I vars] (.bool (decide (e.ok p funcs vars))) := by
  have hl := p.len_s
  have e1 : IntKind.i64.wrap (funcs - 1) = funcs - 1 := IntWalk.i64_in _ (by omega)
  simp only [DExpr.c_eq]
  by_cases hr : 0 ≤ e.fNum ∧ e.fNum ≤ funcs - 1
  · obtain ⟨f, ef⟩ : ∃ f, p.fFuncs[e.fNum.toNat]? = some f := ⟨_, List.getElem?_eq_getElem (by omega)⟩
    have hfs := DProgram.func_s (List.mem_of_getElem? ef)
    have hos := f.outs_s
    have e3 : IntKind.i64.wrap ((f.fOuts.length : Int) - 1) = f.fOuts.length - 1 := IntWalk.i64_in _ (by omega)
    refine fn0F 177 keep71 ib71 mk71 mix Tryd.func71 rfl (by kernel_rfl) (by simp) fun h => ?_
    simp (maxSteps := 1000000) -dsimp -implicitDefEqProofs only [go_sem, ↓reduceIte, keep71, ib71, mk71, Tryd.f71, e1, e3, hk]
    repeat' (with_reducible first | intro _ | refine And.intro ?_ ?_)
    all_goals try omega
    all_goals (first | refine HFnF.mk (within e.fNum 0 (funcs - 1)) ?_ | refine CallSF.mk (within e.fNum 0 (funcs - 1)) ?_)
    all_goals simp (maxSteps := 1000000) -dsimp -implicitDefEqProofs only [go_sem, ↓reduceIte, keep71, ib71, mk71, Tryd.f71, ef, DFunc.c_eq, upd_upd, hk, e3]
    all_goals repeat' (with_reducible first | intro _ | refine And.intro ?_ ?_)
    all_goals try omega
    all_goals try (refine no_call (by omega) ef ?_; omega)
    all_goals try (repeat' (with_reducible first | exact Heap.le_refl _ | refine (le_upd (by first | assumption | exact And.right (by assumption) | exact upd_none.2 (by assumption))).2 ?_))
    all_goals (first | refine HFnF.mk (within e.fPick 0 (f.fOuts.length - 1)) ?_ | refine CallSF.mk (within e.fPick 0 (f.fOuts.length - 1)) ?_)
    all_goals simp (maxSteps := 1000000) -dsimp -implicitDefEqProofs only [go_sem, ↓reduceIte, keep71, ib71, mk71, Tryd.f71, ef, DFunc.c_eq, upd_upd, hk]
    all_goals repeat' (with_reducible first | intro _ | refine And.intro ?_ ?_)
    all_goals try omega
    all_goals try (refine no_call (by omega) ef ?_; omega)
    all_goals try (repeat' (with_reducible first | exact Heap.le_refl _ | refine (le_upd (by first | assumption | exact And.right (by assumption) | exact upd_none.2 (by assumption))).2 ?_))
    all_goals
      have hn : nodeOK p e vars funcs := (nodeOK_call (by omega) ef).2 (by omega)
      have hok := DExpr.ok_iff p funcs e vars
      clear hr hfs hos ef
      refine loopF (keep := keep71) (ib := ib71) (mk := mk71) mix (by kernel_rfl) (fun k : Nat => [(2, I vars), (3, .ip 2 [[sls 3 DFunc.c p.fFuncs, I funcs]] 0 0), (4, .ip 5 [e.c] 0 0), (154, sls 5 DExpr.c e.fKids), (155, I e.fKids.length), (156, I k)]) (fun _ => h) (fun k => k ≤ e.fKids.length ∧ ∀ (j : Nat) (hj : j < e.fKids.length), j < k → e.fKids[j].ok p funcs vars) (fun k => e.fKids.length - k) 0 (by refine ⟨by simp [SatL, tget, DExpr.c_eq, hk], by repeat' (with_reducible first | exact Heap.le_refl _ | refine (le_upd (by first | assumption | exact And.right (by assumption) | exact upd_none.2 (by assumption))).2 ?_), by simp⟩) ?_
      intro k ⟨hk', hp⟩
      simp only [DExpr.c_eq]
      rcases Nat.lt_or_ge k e.fKids.length with hlt | hge
      · have hs1 := DExpr.kid_s (List.getElem_mem hlt)
        have nx (q : e.fKids[k].ok p funcs vars) : ∀ (j : Nat) (hj : j < e.fKids.length), j < k + 1 → e.fKids[j].ok p funcs vars := by
          intro j hj hjk
          rcases Nat.lt_succ_iff_lt_or_eq.1 hjk with h1 | rfl
          · exact hp j hj h1
          · exact q
        have no (q : ¬ e.fKids[k].ok p funcs vars) : false = decide (e.ok p funcs vars) := (decide_eq_false fun z => q (by have := (hok.1 z).2 k hlt; rwa [show moreV e.fKind k vars = vars from if_neg (by omega)] at this)).symm
        have ea : e.fKids[k]? = some e.fKids[k] := List.getElem?_eq_getElem hlt
        have hcy := hc e.fKids[k] (List.getElem_mem hlt) vars (by omega) (by omega)
        simp only [DExpr.c_eq] at hcy
        simp (maxSteps := 1000000) -dsimp -implicitDefEqProofs only [go_sem, ↓reduceIte, keep71, ib71, mk71, Tryd.f71, ea, DExpr.c_eq, upd_upd, hk]
        repeat' (with_reducible first | intro _ | refine And.intro ?_ ?_)
        all_goals try omega
        first | refine HFnF.mk (hcy) ?_ | refine CallSF.mk (hcy) ?_ | refine HFnF.mkAt (hcy) ?_ | refine CallSF.mk (FnAt.fn0 (hcy)) ?_
        simp (maxSteps := 1000000) -dsimp -implicitDefEqProofs only [go_sem, ↓reduceIte, keep71, ib71, mk71, Tryd.f71]
        repeat' (with_reducible first | intro _ | refine And.intro ?_ ?_)
        all_goals first | exact no (by assumption) | skip
        all_goals try (repeat' (with_reducible first | exact Heap.le_refl _ | refine (le_upd (by first | assumption | exact And.right (by assumption) | exact upd_none.2 (by assumption))).2 ?_))
        refine ⟨k + 1, ?_⟩
        repeat' (with_reducible refine And.intro ?_ ?_)
        all_goals try (rw [IntWalk.i64_in _ (by omega)]; first | rfl | omega)
        all_goals try omega
        all_goals try (repeat' (with_reducible first | exact Heap.le_refl _ | refine (le_upd (by first | assumption | exact And.right (by assumption) | exact upd_none.2 (by assumption))).2 ?_))
        all_goals try (simp only [DExpr.c_eq, hk]; done)
        exact nx (by assumption)
      · have hk'' : k = e.fKids.length := by omega
        subst hk''
        simp (maxSteps := 1000000) -dsimp -implicitDefEqProofs only [go_sem, ↓reduceIte, keep71, ib71, mk71, Tryd.f71, Nat.lt_irrefl]
        exact (decide_eq_true (hok.2 ⟨hn, fun j hj => by rw [show moreV e.fKind j vars = vars from if_neg (by omega)]; exact hp j hj hj⟩)).symm
  · refine fn0F 177 keep71 ib71 mk71 mix Tryd.func71 rfl (by kernel_rfl) (by simp) fun h => ?_
    simp (maxSteps := 1000000) -dsimp -implicitDefEqProofs only [go_sem, ↓reduceIte, keep71, ib71, mk71, Tryd.f71, e1, hk]
    repeat' (with_reducible first | intro _ | refine And.intro ?_ ?_)
    all_goals try omega
    all_goals (first | refine HFnF.mk (within e.fNum 0 (funcs - 1)) ?_ | refine CallSF.mk (within e.fNum 0 (funcs - 1)) ?_)
    all_goals simp (maxSteps := 1000000) -dsimp -implicitDefEqProofs only [go_sem, ↓reduceIte, keep71, ib71, mk71, Tryd.f71]
    all_goals repeat' (with_reducible first | intro _ | refine And.intro ?_ ?_)
    all_goals try omega
    all_goals exact no_range (by omega) hr
set_option maxHeartbeats 8000000 in
set_option maxRecDepth 100000 in
theorem isFormed_11 (p : DProgram) (e : DExpr) (vars funcs : Int) (hv : 0 ≤ vars) (hv2 : vars + e.s ≤ 4294967296) (hf0 : 0 ≤ funcs) (hf : funcs ≤ p.fFuncs.length) (hps : p.s ≤ 4294967296)
    (hc : ∀ y ∈ e.fKids, ∀ vars : Int, 0 ≤ vars → vars + y.s ≤ 4294967296 → Fn0 Tryd.prog 71 [.agg [sls 3 DFunc.c p.fFuncs, I funcs], .agg y.c, I vars] (.bool (decide (y.ok p funcs vars)))) (hk : e.fKind = 11) :
    Fn0 Tryd.prog 71 [.agg [sls 3 DFunc.c p.fFuncs, I funcs], .agg e.c, I vars] (.bool (decide (e.ok p funcs vars))) := by
  have hl := p.len_s
  have e1 : IntKind.i64.wrap (funcs - 1) = funcs - 1 := IntWalk.i64_in _ (by omega)
  simp only [DExpr.c_eq]
  by_cases hr : 0 ≤ e.fNum ∧ e.fNum ≤ funcs - 1
  · obtain ⟨f, ef⟩ : ∃ f, p.fFuncs[e.fNum.toNat]? = some f := ⟨_, List.getElem?_eq_getElem (by omega)⟩
    have hfs := DProgram.func_s (List.mem_of_getElem? ef)
    have hos := f.outs_s
    have e3 : IntKind.i64.wrap ((f.fOuts.length : Int) - 1) = f.fOuts.length - 1 := IntWalk.i64_in _ (by omega)
    refine fn0F 177 keep71 ib71 mk71 mix Tryd.func71 rfl (by kernel_rfl) (by simp) fun h => ?_
    simp (maxSteps := 1000000) -dsimp -implicitDefEqProofs only [go_sem, ↓reduceIte, keep71, ib71, mk71, Tryd.f71, e1, e3, hk]
    repeat' (with_reducible first | intro _ | refine And.intro ?_ ?_)
    all_goals try omega
    all_goals (first | refine HFnF.mk (within e.fNum 0 (funcs - 1)) ?_ | refine CallSF.mk (within e.fNum 0 (funcs - 1)) ?_)
    all_goals simp (maxSteps := 1000000) -dsimp -implicitDefEqProofs only [go_sem, ↓reduceIte, keep71, ib71, mk71, Tryd.f71, ef, DFunc.c_eq, upd_upd, hk, e3]
    all_goals repeat' (with_reducible first | intro _ | refine And.intro ?_ ?_)
    all_goals try omega
    all_goals try (refine no_call (by omega) ef ?_; omega)
    all_goals try (repeat' (with_reducible first | exact Heap.le_refl _ | refine (le_upd (by first | assumption | exact And.right (by assumption) | exact upd_none.2 (by assumption))).2 ?_))
    all_goals (first | refine HFnF.mk (within e.fPick 0 (f.fOuts.length - 1)) ?_ | refine CallSF.mk (within e.fPick 0 (f.fOuts.length - 1)) ?_)
    all_goals simp (maxSteps := 1000000) -dsimp -implicitDefEqProofs only [go_sem, ↓reduceIte, keep71, ib71, mk71, Tryd.f71, ef, DFunc.c_eq, upd_upd, hk]
    all_goals repeat' (with_reducible first | intro _ | refine And.intro ?_ ?_)
    all_goals try omega
    all_goals try (refine no_call (by omega) ef ?_; omega)
    all_goals try (repeat' (with_reducible first | exact Heap.le_refl _ | refine (le_upd (by first | assumption | exact And.right (by assumption) | exact upd_none.2 (by assumption))).2 ?_))
    all_goals (first | refine HFnF.mk (within e.fCount 0 8) ?_ | refine CallSF.mk (within e.fCount 0 8) ?_)
    all_goals simp (maxSteps := 1000000) -dsimp -implicitDefEqProofs only [go_sem, ↓reduceIte, keep71, ib71, mk71, Tryd.f71, upd_upd, hk]
    all_goals repeat' (with_reducible first | intro _ | refine And.intro ?_ ?_)
    all_goals try (refine no_call (by omega) ef ?_; omega)
    all_goals try (repeat' (with_reducible first | exact Heap.le_refl _ | refine (le_upd (by first | assumption | exact And.right (by assumption) | exact upd_none.2 (by assumption))).2 ?_))
    all_goals
      have hn : nodeOK p e vars funcs := (nodeOK_call (by omega) ef).2 (by omega)
      have hok := DExpr.ok_iff p funcs e vars
      clear hr hfs hos ef
      refine loopF (keep := keep71) (ib := ib71) (mk := mk71) mix (by kernel_rfl) (fun k : Nat => [(2, I vars), (3, .ip 2 [[sls 3 DFunc.c p.fFuncs, I funcs]] 0 0), (4, .ip 5 [e.c] 0 0), (154, sls 5 DExpr.c e.fKids), (155, I e.fKids.length), (156, I k)]) (fun _ => h) (fun k => k ≤ e.fKids.length ∧ ∀ (j : Nat) (hj : j < e.fKids.length), j < k → e.fKids[j].ok p funcs vars) (fun k => e.fKids.length - k) 0 (by refine ⟨by simp [SatL, tget, DExpr.c_eq, hk], by repeat' (with_reducible first | exact Heap.le_refl _ | refine (le_upd (by first | assumption | exact And.right (by assumption) | exact upd_none.2 (by assumption))).2 ?_), by simp⟩) ?_
      intro k ⟨hk', hp⟩
      simp only [DExpr.c_eq]
      rcases Nat.lt_or_ge k e.fKids.length with hlt | hge
      · have hs1 := DExpr.kid_s (List.getElem_mem hlt)
        have nx (q : e.fKids[k].ok p funcs vars) : ∀ (j : Nat) (hj : j < e.fKids.length), j < k + 1 → e.fKids[j].ok p funcs vars := by
          intro j hj hjk
          rcases Nat.lt_succ_iff_lt_or_eq.1 hjk with h1 | rfl
          · exact hp j hj h1
          · exact q
        have no (q : ¬ e.fKids[k].ok p funcs vars) : false = decide (e.ok p funcs vars) := (decide_eq_false fun z => q (by have := (hok.1 z).2 k hlt; rwa [show moreV e.fKind k vars = vars from if_neg (by omega)] at this)).symm
        have ea : e.fKids[k]? = some e.fKids[k] := List.getElem?_eq_getElem hlt
        have hcy := hc e.fKids[k] (List.getElem_mem hlt) vars (by omega) (by omega)
        simp only [DExpr.c_eq] at hcy
        simp (maxSteps := 1000000) -dsimp -implicitDefEqProofs only [go_sem, ↓reduceIte, keep71, ib71, mk71, Tryd.f71, ea, DExpr.c_eq, upd_upd, hk]
        repeat' (with_reducible first | intro _ | refine And.intro ?_ ?_)
        all_goals try omega
        first | refine HFnF.mk (hcy) ?_ | refine CallSF.mk (hcy) ?_ | refine HFnF.mkAt (hcy) ?_ | refine CallSF.mk (FnAt.fn0 (hcy)) ?_
        simp (maxSteps := 1000000) -dsimp -implicitDefEqProofs only [go_sem, ↓reduceIte, keep71, ib71, mk71, Tryd.f71]
        repeat' (with_reducible first | intro _ | refine And.intro ?_ ?_)
        all_goals first | exact no (by assumption) | skip
        all_goals try (repeat' (with_reducible first | exact Heap.le_refl _ | refine (le_upd (by first | assumption | exact And.right (by assumption) | exact upd_none.2 (by assumption))).2 ?_))
        refine ⟨k + 1, ?_⟩
        repeat' (with_reducible refine And.intro ?_ ?_)
        all_goals try (rw [IntWalk.i64_in _ (by omega)]; first | rfl | omega)
        all_goals try omega
        all_goals try (repeat' (with_reducible first | exact Heap.le_refl _ | refine (le_upd (by first | assumption | exact And.right (by assumption) | exact upd_none.2 (by assumption))).2 ?_))
        all_goals try (simp only [DExpr.c_eq, hk]; done)
        exact nx (by assumption)
      · have hk'' : k = e.fKids.length := by omega
        subst hk''
        simp (maxSteps := 1000000) -dsimp -implicitDefEqProofs only [go_sem, ↓reduceIte, keep71, ib71, mk71, Tryd.f71, Nat.lt_irrefl]
        exact (decide_eq_true (hok.2 ⟨hn, fun j hj => by rw [show moreV e.fKind j vars = vars from if_neg (by omega)]; exact hp j hj hj⟩)).symm
  · refine fn0F 177 keep71 ib71 mk71 mix Tryd.func71 rfl (by kernel_rfl) (by simp) fun h => ?_
    simp (maxSteps := 1000000) -dsimp -implicitDefEqProofs only [go_sem, ↓reduceIte, keep71, ib71, mk71, Tryd.f71, e1, hk]
    repeat' (with_reducible first | intro _ | refine And.intro ?_ ?_)
    all_goals try omega
    all_goals (first | refine HFnF.mk (within e.fNum 0 (funcs - 1)) ?_ | refine CallSF.mk (within e.fNum 0 (funcs - 1)) ?_)
    all_goals simp (maxSteps := 1000000) -dsimp -implicitDefEqProofs only [go_sem, ↓reduceIte, keep71, ib71, mk71, Tryd.f71]
    all_goals repeat' (with_reducible first | intro _ | refine And.intro ?_ ?_)
    all_goals try omega
    all_goals exact no_range (by omega) hr
open Go.Proofs
set_option linter.unusedVariables false
set_option linter.unusedSimpArgs false
theorem isFormed (p : DProgram) (e : DExpr) (vars funcs : Int) (hv : 0 ≤ vars) (hv2 : vars + e.s ≤ 4294967296) (hf0 : 0 ≤ funcs) (hf : funcs ≤ p.fFuncs.length) (hps : p.s ≤ 4294967296) :
    Fn0 Tryd.prog 71 [.agg [sls 3 DFunc.c p.fFuncs, I funcs], .agg e.c, I vars] (.bool (decide (e.ok p funcs vars))) := by
  by_cases h1 : e.fKind = 10
  · exact isFormed_10 p e vars funcs hv hv2 hf0 hf hps (fun y hy vars hv hv2 => isFormed p y vars funcs hv hv2 hf0 hf hps) h1
  · by_cases h2 : e.fKind = 11
    · exact isFormed_11 p e vars funcs hv hv2 hf0 hf hps (fun y hy vars hv hv2 => isFormed p y vars funcs hv hv2 hf0 hf hps) h2
    · exact isFormed_plain p e vars funcs hv hv2 hf0 hf hps (fun y hy vars hv hv2 => isFormed p y vars funcs hv hv2 hf0 hf hps) (fun q => q.elim h1 h2)
termination_by SizeOf.sizeOf e
decreasing_by all_goals exact DExpr.kid_lt hy

open Go.Proofs
set_option linter.unusedVariables false
set_option linter.unusedSimpArgs false
def exprOK (p : DProgram) (e : DExpr) (vars funcs : Int) : Prop := (0 ≤ vars ∧ vars ≤ 412) ∧ (0 ≤ funcs ∧ funcs ≤ p.fFuncs.length) ∧ (e.s : Int) + 1 ≤ 400 ∧ (e.d : Int) ≤ 60 ∧ e.ok p funcs vars
noncomputable instance (p : DProgram) (e : DExpr) (vars funcs : Int) : Decidable (exprOK p e vars funcs) := Classical.propDecidable _
def funcOK (p : DProgram) (k : Nat) (f : DFunc) : Prop := IsNm f.fName ∧ (0 ≤ f.fParams ∧ f.fParams ≤ 12) ∧ (1 ≤ (f.fOuts.length : Int) ∧ (f.fOuts.length : Int) ≤ 12) ∧ (∀ g ∈ p.fFuncs.take k, g.fName ≠ f.fName) ∧ (szs DExpr.s f.fOuts : Int) ≤ 400 ∧ ∀ e ∈ f.fOuts, exprOK p e f.fParams k
noncomputable instance (p : DProgram) (k : Nat) (f : DFunc) : Decidable (funcOK p k f) := Classical.propDecidable _
def DProgram.ok (p : DProgram) : Prop := (p.fFuncs.length : Int) ≤ 16 ∧ ∀ (k : Nat) (f : DFunc), p.fFuncs[k]? = some f → funcOK p k f
noncomputable instance (p : DProgram) : Decidable p.ok := Classical.propDecidable _
def keep56 : List Nat := [0, 2]
def ib56 : List Nat := []
def mk56 : Marks := fun _ => ([], .nil, [])
theorem l02Vars (n : Int) : Fn0 Tryd.prog 56 [I n] (.bool (decide (0 ≤ n ∧ n ≤ 412))) := by
  refine fn0F 5 keep56 ib56 mk56 mix Tryd.func56 rfl (by kernel_rfl) (by simp) fun h => ?_
  simp (maxSteps := 1000000) -dsimp -implicitDefEqProofs only [go_sem, ↓reduceIte, keep56, ib56, mk56, Tryd.f56]
  first | refine HFnF.mk (l00In n 0 412) ?_ | refine CallSF.mk (l00In n 0 412) ?_ | refine HFnF.mkAt (l00In n 0 412) ?_ | refine CallSF.mk (FnAt.fn0 (l00In n 0 412)) ?_
  simp (maxSteps := 1000000) -dsimp -implicitDefEqProofs only [go_sem, ↓reduceIte, keep56, ib56, mk56, Tryd.f56]
def keep69 : List Nat := [0, 2]
def ib69 : List Nat := []
def mk69 : Marks := fun _ => ([], .nil, [])
theorem areVars (n : Int) : Fn0 Tryd.prog 69 [I n] (.bool (decide (0 ≤ n ∧ n ≤ 412))) := by
  refine fn0F 5 keep69 ib69 mk69 mix Tryd.func69 rfl (by kernel_rfl) (by simp) fun h => ?_
  simp (maxSteps := 1000000) -dsimp -implicitDefEqProofs only [go_sem, ↓reduceIte, keep69, ib69, mk69, Tryd.f69]
  first | refine HFnF.mk (within n 0 412) ?_ | refine CallSF.mk (within n 0 412) ?_ | refine HFnF.mkAt (within n 0 412) ?_ | refine CallSF.mk (FnAt.fn0 (within n 0 412)) ?_
  simp (maxSteps := 1000000) -dsimp -implicitDefEqProofs only [go_sem, ↓reduceIte, keep69, ib69, mk69, Tryd.f69]
theorem lft_nonneg {left : Int} {n : Nat} : 0 ≤ lft left n ↔ (n : Int) ≤ left := by
  unfold lft; split <;> omega
def keep24 : List Nat := [0, 1, 2, 3, 8]
def ib24 : List Nat := []
def mk24 : Marks := fun _ => ([], .nil, [])
set_option maxRecDepth 100000 in
theorem l02Expr (p : DProgram) (e : DExpr) (vars funcs : Int) (hs : e.s ≤ 4294966296) (hps : p.s ≤ 4294967296) : Fn0 Tryd.prog 24 [.ip 1 [p.c] 0 0, .ip 5 [e.c] 0 0, I vars, I funcs] (.bool (decide (exprOK p e vars funcs))) := by
  simp only [DProgram.c_eq]
  refine fn0F 37 keep24 ib24 mk24 mix Tryd.func24 rfl (by kernel_rfl) (by simp) fun h => ?_
  simp (maxSteps := 1000000) -dsimp -implicitDefEqProofs only [go_sem, ↓reduceIte, keep24, ib24, mk24, Tryd.f24]
  first | refine HFnF.mk (l02Vars vars) ?_ | refine CallSF.mk (l02Vars vars) ?_ | refine HFnF.mkAt (l02Vars vars) ?_ | refine CallSF.mk (FnAt.fn0 (l02Vars vars)) ?_
  simp (maxSteps := 1000000) -dsimp -implicitDefEqProofs only [go_sem, ↓reduceIte, keep24, ib24, mk24, Tryd.f24]
  repeat' (with_reducible first | intro _ | refine And.intro ?_ ?_)
  all_goals try (first | (simp [exprOK, *]; done) | omega | (grind [exprOK]) | (simp [exprOK]; omega))
  first | refine HFnF.mk (l00In funcs 0 p.fFuncs.length) ?_ | refine CallSF.mk (l00In funcs 0 p.fFuncs.length) ?_ | refine HFnF.mkAt (l00In funcs 0 p.fFuncs.length) ?_ | refine CallSF.mk (FnAt.fn0 (l00In funcs 0 p.fFuncs.length)) ?_
  simp (maxSteps := 1000000) -dsimp -implicitDefEqProofs only [go_sem, ↓reduceIte, keep24, ib24, mk24, Tryd.f24]
  repeat' (with_reducible first | intro _ | refine And.intro ?_ ?_)
  all_goals try (first | (simp [exprOK, *]; done) | omega | (grind [exprOK]) | (simp [exprOK]; omega))
  first | refine CallSF.mk ((l02Left e 400 (by omega) (by omega) (by omega)).sub (by repeat' (first | exact SubL.nil | refine SubL.cons ?_ ?_ | exact Sub.refl _ | (rw [DExpr.c_eq]; exact Sub.refl _) | exact Sub.ipAt rfl rfl rfl | exact Sub.ip (map_get (by omega)) (by simp) | exact Sub.ipAt (map_get (by omega)) rfl rfl | exact Sub.ip (by simp [*]) (by simp) | exact Sub.ipAt (by simp [*]) (by rfl) (by rfl)))) ?_ | refine HFnF.mk ((l02Left e 400 (by omega) (by omega) (by omega)).sub (by repeat' (first | exact SubL.nil | refine SubL.cons ?_ ?_ | exact Sub.refl _ | (rw [DExpr.c_eq]; exact Sub.refl _) | exact Sub.ipAt rfl rfl rfl | exact Sub.ip (map_get (by omega)) (by simp) | exact Sub.ipAt (map_get (by omega)) rfl rfl | exact Sub.ip (by simp [*]) (by simp) | exact Sub.ipAt (by simp [*]) (by rfl) (by rfl)))) ?_
  simp (maxSteps := 1000000) -dsimp -implicitDefEqProofs only [go_sem, ↓reduceIte, keep24, ib24, mk24, Tryd.f24]
  repeat' (with_reducible first | intro _ | refine And.intro ?_ ?_)
  · have hle : ((e.s + 1 : Nat) : Int) ≤ 400 := lft_nonneg.1 (by assumption)
    first | refine CallSF.mk ((l02Depth e (by omega)).sub (by repeat' (first | exact SubL.nil | refine SubL.cons ?_ ?_ | exact Sub.refl _ | (rw [DExpr.c_eq]; exact Sub.refl _) | exact Sub.ipAt rfl rfl rfl | exact Sub.ip (map_get (by omega)) (by simp) | exact Sub.ipAt (map_get (by omega)) rfl rfl | exact Sub.ip (by simp [*]) (by simp) | exact Sub.ipAt (by simp [*]) (by rfl) (by rfl)))) ?_ | refine HFnF.mk ((l02Depth e (by omega)).sub (by repeat' (first | exact SubL.nil | refine SubL.cons ?_ ?_ | exact Sub.refl _ | (rw [DExpr.c_eq]; exact Sub.refl _) | exact Sub.ipAt rfl rfl rfl | exact Sub.ip (map_get (by omega)) (by simp) | exact Sub.ipAt (map_get (by omega)) rfl rfl | exact Sub.ip (by simp [*]) (by simp) | exact Sub.ipAt (by simp [*]) (by rfl) (by rfl)))) ?_
    simp (maxSteps := 1000000) -dsimp -implicitDefEqProofs only [go_sem, ↓reduceIte, keep24, ib24, mk24, Tryd.f24]
    repeat' (with_reducible first | intro _ | refine And.intro ?_ ?_)
    · first | refine CallSF.mk ((l02Tree p e vars funcs (by omega) (by omega) (by omega) (by omega) hps).sub (by repeat' (first | exact SubL.nil | refine SubL.cons ?_ ?_ | exact Sub.refl _ | (rw [DExpr.c_eq]; exact Sub.refl _) | exact Sub.ipAt rfl rfl rfl | exact Sub.ip (map_get (by omega)) (by simp) | exact Sub.ipAt (map_get (by omega)) rfl rfl | exact Sub.ip (by simp [*]) (by simp) | exact Sub.ipAt (by simp [*]) (by rfl) (by rfl)))) ?_ | refine HFnF.mk ((l02Tree p e vars funcs (by omega) (by omega) (by omega) (by omega) hps).sub (by repeat' (first | exact SubL.nil | refine SubL.cons ?_ ?_ | exact Sub.refl _ | (rw [DExpr.c_eq]; exact Sub.refl _) | exact Sub.ipAt rfl rfl rfl | exact Sub.ip (map_get (by omega)) (by simp) | exact Sub.ipAt (map_get (by omega)) rfl rfl | exact Sub.ip (by simp [*]) (by simp) | exact Sub.ipAt (by simp [*]) (by rfl) (by rfl)))) ?_
      simp (maxSteps := 1000000) -dsimp -implicitDefEqProofs only [go_sem, ↓reduceIte, keep24, ib24, mk24, Tryd.f24]
      rw [decide_eq_decide]
      exact ⟨fun q => ⟨by omega, by omega, by omega, by omega, q⟩, fun q => q.2.2.2.2⟩
    · exact (decide_eq_false fun q => by have := q.2.2.2.1; omega).symm
  · rename_i hn
    exact (decide_eq_false fun q => hn (lft_nonneg.2 (by have := q.2.2.1; omega))).symm
def keep29 : List Nat := [0, 1, 2, 3, 4, 5, 8]
def ib29 : List Nat := [4, 5]
def mk29 : Marks := fun _ => ([], .nil, [])
set_option maxRecDepth 100000 in
theorem ValidExpr (p : DProgram) (e : DExpr) (vars funcs : Int) (hs : e.s ≤ 4294966296) (hps : p.s ≤ 4294967296) : Fn0 Tryd.prog 29 [.agg p.c, .agg e.c, I vars, I funcs] (.bool (decide (exprOK p e vars funcs))) := by
  have h1 := ExprSize e (by omega)
  have h2 := ExprDepth e (by omega)
  simp only [DExpr.c_eq] at h1 h2
  simp only [DProgram.c_eq, DExpr.c_eq]
  refine fn0F 36 keep29 ib29 mk29 mix Tryd.func29 rfl (by kernel_rfl) (by simp) fun h => ?_
  simp (maxSteps := 1000000) -dsimp -implicitDefEqProofs only [go_sem, ↓reduceIte, keep29, ib29, mk29, Tryd.f29]
  first | refine HFnF.mk (areVars vars) ?_ | refine CallSF.mk (areVars vars) ?_ | refine HFnF.mkAt (areVars vars) ?_ | refine CallSF.mk (FnAt.fn0 (areVars vars)) ?_
  simp (maxSteps := 1000000) -dsimp -implicitDefEqProofs only [go_sem, ↓reduceIte, keep29, ib29, mk29, Tryd.f29]
  repeat' (with_reducible first | intro _ | refine And.intro ?_ ?_)
  all_goals try (first | (simp [exprOK, *]; done) | omega | (grind [exprOK]) | (simp [exprOK]; omega))
  first | refine HFnF.mk (within funcs 0 p.fFuncs.length) ?_ | refine CallSF.mk (within funcs 0 p.fFuncs.length) ?_ | refine HFnF.mkAt (within funcs 0 p.fFuncs.length) ?_ | refine CallSF.mk (FnAt.fn0 (within funcs 0 p.fFuncs.length)) ?_
  simp (maxSteps := 1000000) -dsimp -implicitDefEqProofs only [go_sem, ↓reduceIte, keep29, ib29, mk29, Tryd.f29]
  repeat' (with_reducible first | intro _ | refine And.intro ?_ ?_)
  all_goals try (first | (simp [exprOK, *]; done) | omega | (grind [exprOK]) | (simp [exprOK]; omega))
  first | refine HFnF.mk (h1) ?_ | refine CallSF.mk (h1) ?_ | refine HFnF.mkAt (h1) ?_ | refine CallSF.mk (FnAt.fn0 (h1)) ?_
  simp (maxSteps := 1000000) -dsimp -implicitDefEqProofs only [go_sem, ↓reduceIte, keep29, ib29, mk29, Tryd.f29]
  repeat' (with_reducible first | intro _ | refine And.intro ?_ ?_)
  · first | refine HFnF.mk (h2) ?_ | refine CallSF.mk (h2) ?_ | refine HFnF.mkAt (h2) ?_ | refine CallSF.mk (FnAt.fn0 (h2)) ?_
    simp (maxSteps := 1000000) -dsimp -implicitDefEqProofs only [go_sem, ↓reduceIte, keep29, ib29, mk29, Tryd.f29]
    repeat' (with_reducible first | intro _ | refine And.intro ?_ ?_)
    · have h3 := isFormed p e vars funcs (by omega) (by omega) (by omega) (by omega) hps
      simp only [DExpr.c_eq] at h3
      first | refine HFnF.mk (h3) ?_ | refine CallSF.mk (h3) ?_ | refine HFnF.mkAt (h3) ?_ | refine CallSF.mk (FnAt.fn0 (h3)) ?_
      simp (maxSteps := 1000000) -dsimp -implicitDefEqProofs only [go_sem, ↓reduceIte, keep29, ib29, mk29, Tryd.f29]
      rw [decide_eq_decide]
      exact ⟨fun q => ⟨by omega, by omega, by omega, by omega, q⟩, fun q => q.2.2.2.2⟩
    · exact (decide_eq_false fun q => by have := q.2.2.2.1; omega).symm
  · exact (decide_eq_false fun q => by have := q.2.2.1; omega).symm
def keep55 : List Nat := [0, 1, 4, 5, 6, 7, 8, 37, 40, 55, 62, 90]
def ib55 : List Nat := []
def mk55 : Marks := fun id => match id with | 7 => ([], (.op 0 (.op 1 (.op 2 (.op 3 (.op 4 (.op 5 (.op 6 (.op 7 (.op 8 (.op 9 (.op 10 (.op 11 (.op 12 .nil))))))))))))), []) | 14 => ([], (.op 0 (.op 1 (.op 2 (.op 3 (.op 4 (.op 5 (.op 6 (.op 7 (.op 8 (.op 9 (.op 10 (.op 11 (.op 12 (.op 13 (.op 14 (.op 15 (.op 16 (.op 17 .nil)))))))))))))))))), []) | _ => ([], .nil, [])
set_option maxRecDepth 100000 in
theorem l02Func (p : DProgram) (k : Nat) (f : DFunc) (ef : p.fFuncs[k]? = some f) (hps : p.s ≤ 4194304) : Fn0 Tryd.prog 55 [.ip 1 [p.c] 0 0, I k] (.bool (decide (funcOK p k f))) := by
  have hk : k < p.fFuncs.length := (List.getElem?_eq_some_iff.1 ef).1
  have hfs := DProgram.func_s (List.mem_of_getElem? ef)
  have hl := p.len_s
  have hos := f.outs_s
  simp only [DProgram.c_eq]
  have no (q : ¬ (IsNm f.fName ∧ (0 ≤ f.fParams ∧ f.fParams ≤ 12) ∧ (1 ≤ (f.fOuts.length : Int) ∧ (f.fOuts.length : Int) ≤ 12))) : false = decide (funcOK p k f) := (decide_eq_false fun z => q ⟨z.1, z.2.1, z.2.2.1⟩).symm
  refine fn0F 91 keep55 ib55 mk55 mix Tryd.func55 rfl (by kernel_rfl) (by simp) fun h => ?_
  simp (maxSteps := 1000000) -dsimp -implicitDefEqProofs only [go_sem, ↓reduceIte, keep55, ib55, mk55, Tryd.f55, ef, DFunc.c_eq, Int.toNat_natCast]
  repeat' (with_reducible first | intro _ | refine And.intro ?_ ?_)
  all_goals try omega
  first | refine HFnF.mk (specIsName f.fName) ?_ | refine CallSF.mk (specIsName f.fName) ?_ | refine HFnF.mkAt (specIsName f.fName) ?_ | refine CallSF.mk (FnAt.fn0 (specIsName f.fName)) ?_
  simp (maxSteps := 1000000) -dsimp -implicitDefEqProofs only [go_sem, ↓reduceIte, keep55, ib55, mk55, Tryd.f55, ef, DFunc.c_eq]
  repeat' (with_reducible first | intro _ | refine And.intro ?_ ?_)
  · first | refine HFnF.mk (l00In f.fParams 0 12) ?_ | refine CallSF.mk (l00In f.fParams 0 12) ?_ | refine HFnF.mkAt (l00In f.fParams 0 12) ?_ | refine CallSF.mk (FnAt.fn0 (l00In f.fParams 0 12)) ?_
    simp (maxSteps := 1000000) -dsimp -implicitDefEqProofs only [go_sem, ↓reduceIte, keep55, ib55, mk55, Tryd.f55, ef, DFunc.c_eq]
    repeat' (with_reducible first | intro _ | refine And.intro ?_ ?_)
    · first | refine HFnF.mk (l00In f.fOuts.length 1 12) ?_ | refine CallSF.mk (l00In f.fOuts.length 1 12) ?_ | refine HFnF.mkAt (l00In f.fOuts.length 1 12) ?_ | refine CallSF.mk (FnAt.fn0 (l00In f.fOuts.length 1 12)) ?_
      simp (maxSteps := 1000000) -dsimp -implicitDefEqProofs only [go_sem, ↓reduceIte, keep55, ib55, mk55, Tryd.f55, ef, DFunc.c_eq]
      repeat' (with_reducible first | intro _ | refine And.intro ?_ ?_)
      · exact no fun z => by simp_all
      · rename_i q1 q2 q3
        refine loopF (keep := keep55) (ib := ib55) (mk := mk55) mix (by kernel_rfl) (fun j : Nat => [(0, .ip 1 [p.c] 0 0), (1, I k), (5, .ip 3 (p.fFuncs.map DFunc.c) k 0), (6, I j)]) (fun _ => h) (fun j => j ≤ k ∧ ∀ g ∈ p.fFuncs.take j, g.fName ≠ f.fName) (fun j => k - j) 0 (by refine ⟨by simp [SatL, tget, DProgram.c_eq], by repeat' (with_reducible first | exact Heap.le_refl _ | refine (le_upd (by first | assumption | exact And.right (by assumption) | exact upd_none.2 (by assumption))).2 ?_), by simp⟩) ?_
        intro j ⟨hj, hp⟩
        simp only [DProgram.c_eq]
        rcases Nat.lt_or_ge j k with hlt | hge
        · have eg : p.fFuncs[j]? = some p.fFuncs[j] := List.getElem?_eq_getElem (by omega)
          simp (maxSteps := 1000000) -dsimp -implicitDefEqProofs only [go_sem, ↓reduceIte, keep55, ib55, mk55, Tryd.f55, ef, eg, DFunc.c_eq, Int.toNat_natCast]
          repeat' (with_reducible first | intro _ | refine And.intro ?_ ?_)
          all_goals try omega
          · rename_i he
            refine (decide_eq_false fun z => z.2.2.2.1 p.fFuncs[j] ?_ he).symm
            exact List.mem_take_iff_getElem.2 ⟨j, by omega, rfl⟩
          · rename_i he
            refine ⟨j + 1, ?_⟩
            repeat' (with_reducible refine And.intro ?_ ?_)
            all_goals try (rw [IntWalk.i64_in _ (by omega)]; first | rfl | omega)
            all_goals try omega
            all_goals try (repeat' (with_reducible first | exact Heap.le_refl _ | refine (le_upd (by first | assumption | exact And.right (by assumption) | exact upd_none.2 (by assumption))).2 ?_))
            all_goals try (simp only [DProgram.c_eq]; done)
            exact all_step (P := fun g : DFunc => g.fName ≠ f.fName) (by omega) hp he
        · have hj' : j = k := by omega
          rw [hj'] at hp
          simp (maxSteps := 1000000) -dsimp -implicitDefEqProofs only [go_sem, ↓reduceIte, keep55, ib55, mk55, Tryd.f55, hj', Int.lt_irrefl]
          have part (i : Nat) (hi : i < f.fOuts.length) : i + ((f.fOuts.take i).map DExpr.s).sum + f.fOuts[i].s + 1 ≤ szs DExpr.s f.fOuts := by
            have h1 := sum_take_succ DExpr.s f.fOuts i hi
            have h2 := sum_take_le DExpr.s f.fOuts (i + 1)
            rw [szs_eq]; omega
          have hszs : szs DExpr.s f.fOuts ≤ f.s := by rw [f.s_eq]; omega
          refine loopF (keep := keep55) (ib := ib55) (mk := mk55) mix (by kernel_rfl) (fun i : Nat => [(0, .ip 1 [p.c] 0 0), (1, I k), (5, .ip 3 (p.fFuncs.map DFunc.c) k 0), (7, I (400 - (i + ((f.fOuts.take i).map DExpr.s).sum : Nat))), (8, I i)]) (fun _ => h) (fun i => i ≤ f.fOuts.length ∧ i + ((f.fOuts.take i).map DExpr.s).sum ≤ 400 ∧ ∀ e ∈ f.fOuts.take i, exprOK p e f.fParams k) (fun i => f.fOuts.length - i) 0 (by refine ⟨by simp [SatL, tget, DProgram.c_eq], by repeat' (with_reducible first | exact Heap.le_refl _ | refine (le_upd (by first | assumption | exact And.right (by assumption) | exact upd_none.2 (by assumption))).2 ?_), by simp⟩) ?_
          intro i ⟨hi, hsum, hall⟩
          simp only [DProgram.c_eq]
          rcases Nat.lt_or_ge i f.fOuts.length with hlt | hge
          · have h1 := sum_take_succ DExpr.s f.fOuts i hlt
            have hpt := part i hlt
            have hout := DFunc.out_s (List.getElem_mem hlt)
            simp (maxSteps := 1000000) -dsimp -implicitDefEqProofs only [go_sem, ↓reduceIte, keep55, ib55, mk55, Tryd.f55, ef, DFunc.c_eq, Int.toNat_natCast]
            repeat' (with_reducible first | intro _ | refine And.intro ?_ ?_)
            all_goals try omega
            first | refine CallSF.mk ((l02Left f.fOuts[i] (400 - (i + ((f.fOuts.take i).map DExpr.s).sum : Nat)) (by omega) (by omega) (by omega)).sub (by repeat' (first | exact SubL.nil | refine SubL.cons ?_ ?_ | exact Sub.refl _ | (rw [DExpr.c_eq]; exact Sub.refl _) | exact Sub.ipAt rfl rfl rfl | exact Sub.ip (map_get (by omega)) (by simp) | exact Sub.ipAt (map_get (by omega)) rfl rfl | exact Sub.ip (by simp [*]) (by simp) | exact Sub.ipAt (by simp [*]) (by rfl) (by rfl)))) ?_ | refine HFnF.mk ((l02Left f.fOuts[i] (400 - (i + ((f.fOuts.take i).map DExpr.s).sum : Nat)) (by omega) (by omega) (by omega)).sub (by repeat' (first | exact SubL.nil | refine SubL.cons ?_ ?_ | exact Sub.refl _ | (rw [DExpr.c_eq]; exact Sub.refl _) | exact Sub.ipAt rfl rfl rfl | exact Sub.ip (map_get (by omega)) (by simp) | exact Sub.ipAt (map_get (by omega)) rfl rfl | exact Sub.ip (by simp [*]) (by simp) | exact Sub.ipAt (by simp [*]) (by rfl) (by rfl)))) ?_
            simp (maxSteps := 1000000) -dsimp -implicitDefEqProofs only [go_sem, ↓reduceIte, keep55, ib55, mk55, Tryd.f55, ef, DFunc.c_eq]
            rcases lft_cases (400 - (i + ((f.fOuts.take i).map DExpr.s).sum : Nat)) (f.fOuts[i].s + 1) with ⟨e, hl1⟩ | ⟨e, hl1⟩
            · simp (maxSteps := 1000000) -dsimp -implicitDefEqProofs only [go_sem, ↓reduceIte, keep55, ib55, mk55, Tryd.f55, e]
              repeat' (with_reducible first | intro _ | refine And.intro ?_ ?_)
              all_goals try omega
              all_goals exact (decide_eq_false fun z => by have := z.2.2.2.2.1; omega).symm
            · simp (maxSteps := 1000000) -dsimp -implicitDefEqProofs only [go_sem, ↓reduceIte, keep55, ib55, mk55, Tryd.f55, e]
              repeat' (with_reducible first | intro _ | refine And.intro ?_ ?_)
              all_goals try omega
              first | refine CallSF.mk ((l02Expr p f.fOuts[i] f.fParams k (by omega) (by omega)).sub (by repeat' (first | exact SubL.nil | refine SubL.cons ?_ ?_ | exact Sub.refl _ | (rw [DExpr.c_eq]; exact Sub.refl _) | exact Sub.ipAt rfl rfl rfl | exact Sub.ip (map_get (by omega)) (by simp) | exact Sub.ipAt (map_get (by omega)) rfl rfl | exact Sub.ip (by simp [*]) (by simp) | exact Sub.ipAt (by simp [*]) (by rfl) (by rfl)))) ?_ | refine HFnF.mk ((l02Expr p f.fOuts[i] f.fParams k (by omega) (by omega)).sub (by repeat' (first | exact SubL.nil | refine SubL.cons ?_ ?_ | exact Sub.refl _ | (rw [DExpr.c_eq]; exact Sub.refl _) | exact Sub.ipAt rfl rfl rfl | exact Sub.ip (map_get (by omega)) (by simp) | exact Sub.ipAt (map_get (by omega)) rfl rfl | exact Sub.ip (by simp [*]) (by simp) | exact Sub.ipAt (by simp [*]) (by rfl) (by rfl)))) ?_
              simp (maxSteps := 1000000) -dsimp -implicitDefEqProofs only [go_sem, ↓reduceIte, keep55, ib55, mk55, Tryd.f55, ef, DFunc.c_eq]
              repeat' (with_reducible first | intro _ | refine And.intro ?_ ?_)
              · rename_i hn
                exact (decide_eq_false fun z => hn (z.2.2.2.2.2 _ (List.getElem_mem hlt))).symm
              · rename_i hn
                refine ⟨i + 1, ?_⟩
                repeat' (with_reducible refine And.intro ?_ ?_)
                all_goals try (rw [IntWalk.i64_in _ (by omega)]; first | rfl | omega)
                all_goals try omega
                all_goals try (repeat' (with_reducible first | exact Heap.le_refl _ | refine (le_upd (by first | assumption | exact And.right (by assumption) | exact upd_none.2 (by assumption))).2 ?_))
                all_goals try (simp only [DProgram.c_eq]; done)
                exact all_step (P := fun e => exprOK p e f.fParams k) hlt hall hn
          · have hi' : i = f.fOuts.length := by omega
            subst hi'
            rw [List.take_length] at hsum hall
            simp (maxSteps := 1000000) -dsimp -implicitDefEqProofs only [go_sem, ↓reduceIte, keep55, ib55, mk55, Tryd.f55, ef, DFunc.c_eq, Nat.lt_irrefl]
            exact fun _ => (decide_eq_true ⟨by assumption, q1, q3, hp, by rw [szs_eq]; omega, hall⟩).symm
    · exact no fun z => by simp_all
  · exact no fun z => by simp_all
def keep23 : List Nat := [0, 2, 3, 9, 16, 22]
def ib23 : List Nat := []
def mk23 : Marks := fun _ => ([], .nil, [])
set_option maxRecDepth 100000 in
theorem l02Ok (p : DProgram) (hps : p.s ≤ 4194304) : Fn0 Tryd.prog 23 [.ip 1 [p.c] 0 0] (.bool (decide p.ok)) := by
  simp only [DProgram.c_eq]
  refine fn0F 23 keep23 ib23 mk23 mix Tryd.func23 rfl (by kernel_rfl) (by simp) fun h => ?_
  simp (maxSteps := 1000000) -dsimp -implicitDefEqProofs only [go_sem, ↓reduceIte, keep23, ib23, mk23, Tryd.f23]
  repeat' (with_reducible first | intro _ | refine And.intro ?_ ?_)
  · exact (decide_eq_false fun z => by have := z.1; omega).symm
  refine loopF (keep := keep23) (ib := ib23) (mk := mk23) mix (by kernel_rfl) (fun k : Nat => [(0, .ip 1 [p.c] 0 0), (3, I k)]) (fun _ => h) (fun k => k ≤ p.fFuncs.length ∧ ∀ (j : Nat) (f : DFunc), j < k → p.fFuncs[j]? = some f → funcOK p j f) (fun k => p.fFuncs.length - k) 0 (by refine ⟨by simp [SatL, tget, DProgram.c_eq], by repeat' (with_reducible first | exact Heap.le_refl _ | refine (le_upd (by first | assumption | exact And.right (by assumption) | exact upd_none.2 (by assumption))).2 ?_), by simp⟩) ?_
  intro k ⟨hk, hp⟩
  simp only [DProgram.c_eq]
  rcases Nat.lt_or_ge k p.fFuncs.length with hlt | hge
  · have eg : p.fFuncs[k]? = some p.fFuncs[k] := List.getElem?_eq_getElem (by omega)
    simp (maxSteps := 1000000) -dsimp -implicitDefEqProofs only [go_sem, ↓reduceIte, keep23, ib23, mk23, Tryd.f23]
    repeat' (with_reducible first | intro _ | refine And.intro ?_ ?_)
    all_goals try omega
    first | refine CallSF.mk ((l02Func p k p.fFuncs[k] eg hps).sub (by repeat' (first | exact SubL.nil | refine SubL.cons ?_ ?_ | exact Sub.refl _ | (rw [DExpr.c_eq]; exact Sub.refl _) | exact Sub.ipAt rfl rfl rfl | exact Sub.ip (map_get (by omega)) (by simp) | exact Sub.ipAt (map_get (by omega)) rfl rfl | exact Sub.ip (by simp [*]) (by simp) | exact Sub.ipAt (by simp [*]) (by rfl) (by rfl)))) ?_ | refine HFnF.mk ((l02Func p k p.fFuncs[k] eg hps).sub (by repeat' (first | exact SubL.nil | refine SubL.cons ?_ ?_ | exact Sub.refl _ | (rw [DExpr.c_eq]; exact Sub.refl _) | exact Sub.ipAt rfl rfl rfl | exact Sub.ip (map_get (by omega)) (by simp) | exact Sub.ipAt (map_get (by omega)) rfl rfl | exact Sub.ip (by simp [*]) (by simp) | exact Sub.ipAt (by simp [*]) (by rfl) (by rfl)))) ?_
    simp (maxSteps := 1000000) -dsimp -implicitDefEqProofs only [go_sem, ↓reduceIte, keep23, ib23, mk23, Tryd.f23]
    repeat' (with_reducible first | intro _ | refine And.intro ?_ ?_)
    · rename_i hn
      exact (decide_eq_false fun z => hn (z.2 k _ eg)).symm
    · rename_i hn
      refine ⟨k + 1, ?_⟩
      repeat' (with_reducible refine And.intro ?_ ?_)
      all_goals try (rw [IntWalk.i64_in _ (by omega)]; first | rfl | omega)
      all_goals try omega
      all_goals try (repeat' (with_reducible first | exact Heap.le_refl _ | refine (le_upd (by first | assumption | exact And.right (by assumption) | exact upd_none.2 (by assumption))).2 ?_))
      all_goals try (simp only [DProgram.c_eq]; done)
      intro j f hj ej
      rcases Nat.lt_succ_iff_lt_or_eq.1 hj with h1 | rfl
      · exact hp j f h1 ej
      · rw [eg] at ej; obtain rfl := Option.some.inj ej; exact hn
  · have hk' : k = p.fFuncs.length := by omega
    subst hk'
    simp (maxSteps := 1000000) -dsimp -implicitDefEqProofs only [go_sem, ↓reduceIte, keep23, ib23, mk23, Tryd.f23, Nat.lt_irrefl]
    exact fun _ => (decide_eq_true ⟨by omega, fun j f ej => hp j f (List.getElem?_eq_some_iff.1 ej).1 ej⟩).symm
open Go.Proofs
set_option linter.unusedVariables false
set_option linter.unusedSimpArgs false
def keep93 : List Nat := [0, 1, 4, 5, 7, 8, 9, 16]
def ib93 : List Nat := []
def mk93 : Marks := fun _ => ([], .nil, [])
set_option maxRecDepth 100000 in
theorem idxF_FuncS (a : List DFunc) (p : DFunc → Bool) (g : FuncId) (cap : List HVal) {h0 : Heap} (hc : ∀ x ∈ a, FnAt Tryd.prog g ([(.agg (DFunc.c x))] ++ cap) (.bool (p x)) h0) : FnAt Tryd.prog 93 [(sls 3 DFunc.c a), .fn (.func g) [] cap] (I (idxOf p a)) h0 := by
  refine fnAtF 19 keep93 ib93 mk93 mix Tryd.func93 rfl (by kernel_rfl) (by simp) fun h hle => ?_
  simp -dsimp -implicitDefEqProofs only [go_sem, ↓reduceIte, keep93, ib93, mk93, Tryd.f93, Tryd.f93]
  intro _
  refine loopF (keep := keep93) (ib := ib93) (mk := mk93) mix (by kernel_rfl) (fun k : Nat => [(0, (sls 3 DFunc.c a)), (1, .fn (.func g) [] cap), (7, I a.length), (8, I k)]) (fun _ => h) (fun k => k ≤ a.length ∧ ∀ x ∈ a.take k, p x = false) (fun k => a.length - k) 0 (by simp [SatL, tget, Heap.le_refl]) ?_
  intro k ⟨hk, hp⟩
  rcases Nat.lt_or_ge k a.length with hlt | hge
  · have ea : a[k]? = some a[k] := List.getElem?_eq_getElem hlt
    simp -dsimp -implicitDefEqProofs only [go_sem, ↓reduceIte, keep93, ib93, mk93, Tryd.f93, Tryd.f93, ea, DFunc.c_eq]
    repeat' (with_reducible first | intro _ | refine And.intro ?_ ?_)
    all_goals try omega
    have hx := hc a[k] (List.getElem_mem hlt)
    simp only [DFunc.c_eq] at hx
    refine HFnF.mkAt (hx.mono hle) ?_
    cases hpk : p a[k] with
    | true =>
      simp -dsimp -implicitDefEqProofs only [go_sem, ↓reduceIte, keep93, ib93, mk93, Tryd.f93, Tryd.f93]
      repeat' (with_reducible first | intro _ | refine And.intro ?_ ?_)
      all_goals first | exact (idxOf_some hlt hp hpk).symm | rfl | (rw [idxOf_some hlt hp hpk])
    | false =>
      simp -dsimp -implicitDefEqProofs only [go_sem, ↓reduceIte, keep93, ib93, mk93, Tryd.f93, Tryd.f93]
      refine ⟨k + 1, ?_⟩
      repeat' (with_reducible refine And.intro ?_ ?_)
      all_goals try (rw [IntWalk.i64_in _ (by omega)]; first | rfl | omega)
      all_goals try omega
      exact all_step (P := fun x => p x = false) hlt hp hpk
  · have hk' : k = a.length := by omega
    subst hk'
    rw [List.take_length] at hp
    simp -dsimp -implicitDefEqProofs only [go_sem, ↓reduceIte, keep93, ib93, mk93, Tryd.f93, Tryd.f93, Nat.lt_irrefl]
    all_goals first | exact (idxOf_none hp).symm | rw [idxOf_none hp]
def keep65 : List Nat := [0, 1, 4]
def ib65 : List Nat := []
def mk65 : Marks := fun _ => ([], .nil, [])
set_option maxRecDepth 100000 in
theorem hasF_FuncS (a : List DFunc) (p : DFunc → Bool) (g : FuncId) (cap : List HVal) {h0 : Heap} (hc : ∀ x ∈ a, FnAt Tryd.prog g ([(.agg (DFunc.c x))] ++ cap) (.bool (p x)) h0) : FnAt Tryd.prog 65 [(sls 3 DFunc.c a), .fn (.func g) [] cap] (.bool (a.any p)) h0 := by
  refine fnAtF 9 keep65 ib65 mk65 mix Tryd.func65 rfl (by kernel_rfl) (by simp) fun h hle => ?_
  simp -dsimp -implicitDefEqProofs only [go_sem, ↓reduceIte, keep65, ib65, mk65, Tryd.f65, Tryd.f65]
  refine HFnF.mkAt ((idxF_FuncS a p g cap hc).mono hle) ?_
  simp -dsimp -implicitDefEqProofs only [go_sem, ↓reduceIte, keep65, ib65, mk65, Tryd.f65, Tryd.f65]
  all_goals first | done | exact idxOf_nonneg | rw [idxOf_nonneg]

def keep66 : List Nat := [0, 1, 2, 3]
def ib66 : List Nat := [2]
def mk66 : Marks := fun _ => ([], .nil, [])
set_option maxRecDepth 100000 in
theorem ValidProgram1 (g f : DFunc) (n : Nat) {h0 : Heap} (hn : h0 n = some (.row 3 [f.c.map .v])) : FnAt Tryd.prog 66 [.agg g.c, .op n 3 0 0] (.bool (decide (g.fName = f.fName))) h0 := by
  simp only [DFunc.c_eq]
  have hg (h : Heap) (hle : h0.le h) := Heap.le_get hle hn
  refine fnAtF 9 keep66 ib66 mk66 mix Tryd.func66 rfl (by kernel_rfl) (by simp) fun h hle => ?_
  simp (maxSteps := 1000000) -dsimp -implicitDefEqProofs only [go_sem, ↓reduceIte, keep66, ib66, mk66, Tryd.f66]
  have hn' := hg h hle
  simp only [DFunc.c_eq] at hn'
  simp (maxSteps := 1000000) -dsimp -implicitDefEqProofs only [go_sem, ↓reduceIte, keep66, ib66, mk66, Tryd.f66, hn']
def keep28 : List Nat := [0, 1, 2, 3, 4, 5, 7, 11, 13, 14, 15, 16, 31, 42, 44, 45, 46, 47, 56, 63]
def ib28 : List Nat := [1]
def mk28 : Marks := fun _ => ([], .nil, [])
set_option maxRecDepth 100000 in
theorem ValidProgram (p : DProgram) (hps : p.s ≤ 4194304) : Fn0 Tryd.prog 28 [.agg p.c] (.bool (decide p.ok)) := by
  simp only [DProgram.c_eq]
  refine fn0F 65 keep28 ib28 mk28 mix Tryd.func28 rfl (by kernel_rfl) (by simp) fun h => ?_
  simp (maxSteps := 1000000) -dsimp -implicitDefEqProofs only [go_sem, ↓reduceIte, keep28, ib28, mk28, Tryd.f28]
  repeat' (with_reducible first | intro _ | refine And.intro ?_ ?_)
  · exact (decide_eq_false fun z => by have := z.1; omega).symm
  refine loopF (keep := keep28) (ib := ib28) (mk := mk28) mix (by kernel_rfl) (fun k : Nat => [(1, .ip 1 [p.c] 0 0), (13, sls 3 DFunc.c p.fFuncs), (14, I p.fFuncs.length), (15, I k)]) (fun _ => h) (fun k => k ≤ p.fFuncs.length ∧ ∀ (j : Nat) (f : DFunc), j < k → p.fFuncs[j]? = some f → funcOK p j f) (fun k => p.fFuncs.length - k) 0 (by refine ⟨by simp [SatL, tget, DProgram.c_eq], by repeat' (with_reducible first | exact Heap.le_refl _ | refine (le_upd (by first | assumption | exact And.right (by assumption) | exact upd_none.2 (by assumption))).2 ?_), by simp⟩) ?_
  intro k ⟨hk, hp⟩
  simp only [DProgram.c_eq]
  rcases Nat.lt_or_ge k p.fFuncs.length with hlt | hge
  · obtain ⟨f, eg⟩ : ∃ f, p.fFuncs[k]? = some f := ⟨_, List.getElem?_eq_getElem hlt⟩
    have hfs := DProgram.func_s (List.mem_of_getElem? eg)
    have hos := f.outs_s
    have no (q : ¬ funcOK p k f) : false = decide p.ok := (decide_eq_false fun z => q (z.2 k f eg)).symm
    simp (maxSteps := 1000000) -dsimp -implicitDefEqProofs only [go_sem, ↓reduceIte, keep28, ib28, mk28, Tryd.f28, eg, DFunc.c_eq, upd_upd]
    repeat' (with_reducible first | intro _ | refine And.intro ?_ ?_)
    all_goals try omega
    rename_i n hn
    first | refine HFnF.mk (IsName f.fName) ?_ | refine CallSF.mk (IsName f.fName) ?_ | refine HFnF.mkAt (IsName f.fName) ?_ | refine CallSF.mk (FnAt.fn0 (IsName f.fName)) ?_
    simp (maxSteps := 1000000) -dsimp -implicitDefEqProofs only [go_sem, ↓reduceIte, keep28, ib28, mk28, Tryd.f28, upd_get, upd_upd]
    repeat' (with_reducible first | intro _ | refine And.intro ?_ ?_)
    all_goals try (repeat' (with_reducible first | exact Heap.le_refl _ | refine (le_upd (by first | assumption | exact And.right (by assumption) | exact upd_none.2 (by assumption))).2 ?_))
    all_goals try omega
    all_goals try (rename_i hnm; exact no fun z => hnm z.1)
    rename_i hnm
    rw [← List.map_take]
    refine HFnF.mkAt (hasF_FuncS (p.fFuncs.take k) (fun g => decide (g.fName = f.fName)) 66 [.op n 3 0 0] fun g _ => ValidProgram1 g f n (by simp [upd_get, DFunc.c_eq])) ?_
    simp (maxSteps := 1000000) -dsimp -implicitDefEqProofs only [go_sem, ↓reduceIte, keep28, ib28, mk28, Tryd.f28, upd_get, upd_upd]
    repeat' (with_reducible first | intro _ | refine And.intro ?_ ?_)
    all_goals try (repeat' (with_reducible first | exact Heap.le_refl _ | refine (le_upd (by first | assumption | exact And.right (by assumption) | exact upd_none.2 (by assumption))).2 ?_))
    · rename_i q
      refine no fun z => ?_
      obtain ⟨g, hg1, hg2⟩ := List.any_eq_true.1 q
      exact z.2.2.2.1 g hg1 (by simpa using hg2)
    rename_i hnd
    have hnd' : ∀ g ∈ p.fFuncs.take k, g.fName ≠ f.fName := fun g hg => by
      have := List.any_eq_false.1 hnd g hg
      simpa using this
    first | refine HFnF.mk (within f.fParams 0 12) ?_ | refine CallSF.mk (within f.fParams 0 12) ?_ | refine HFnF.mkAt (within f.fParams 0 12) ?_ | refine CallSF.mk (FnAt.fn0 (within f.fParams 0 12)) ?_
    simp (maxSteps := 1000000) -dsimp -implicitDefEqProofs only [go_sem, ↓reduceIte, keep28, ib28, mk28, Tryd.f28, upd_get, upd_upd]
    repeat' (with_reducible first | intro _ | refine And.intro ?_ ?_)
    all_goals try (repeat' (with_reducible first | exact Heap.le_refl _ | refine (le_upd (by first | assumption | exact And.right (by assumption) | exact upd_none.2 (by assumption))).2 ?_))
    · first | refine HFnF.mk (within f.fOuts.length 1 12) ?_ | refine CallSF.mk (within f.fOuts.length 1 12) ?_ | refine HFnF.mkAt (within f.fOuts.length 1 12) ?_ | refine CallSF.mk (FnAt.fn0 (within f.fOuts.length 1 12)) ?_
      simp (maxSteps := 1000000) -dsimp -implicitDefEqProofs only [go_sem, ↓reduceIte, keep28, ib28, mk28, Tryd.f28, upd_get, upd_upd]
      repeat' (with_reducible first | intro _ | refine And.intro ?_ ?_)
      all_goals try (repeat' (with_reducible first | exact Heap.le_refl _ | refine (le_upd (by first | assumption | exact And.right (by assumption) | exact upd_none.2 (by assumption))).2 ?_))
      · rename_i q
        exact no fun z => q z.2.2.1
      · rename_i q1 q2 q3 q4
        have part (i : Nat) (hi : i < f.fOuts.length) : i + ((f.fOuts.take i).map DExpr.s).sum + f.fOuts[i].s + 1 ≤ szs DExpr.s f.fOuts := by
          have h1 := sum_take_succ DExpr.s f.fOuts i hi
          have h2 := sum_take_le DExpr.s f.fOuts (i + 1)
          rw [szs_eq]; omega
        have hszs : szs DExpr.s f.fOuts ≤ f.s := by rw [f.s_eq]; omega
        refine loopF (keep := keep28) (ib := ib28) (mk := mk28) mix (by kernel_rfl) (fun i : Nat => [(1, .ip 1 [p.c] 0 0), (3, I k), (4, .op n 3 0 0), (5, I ((i + ((f.fOuts.take i).map DExpr.s).sum : Nat) : Int)), (13, sls 3 DFunc.c p.fFuncs), (14, I p.fFuncs.length), (15, I k), (44, sls 5 DExpr.c f.fOuts), (45, I f.fOuts.length), (46, I i)]) (fun _ => upd h n (.row 3 [f.c.map .v])) (fun i => i ≤ f.fOuts.length ∧ ∀ e ∈ f.fOuts.take i, exprOK p e f.fParams k) (fun i => f.fOuts.length - i) 0 (by refine ⟨by simp [SatL, tget, DProgram.c_eq], by simp [DFunc.c_eq, Heap.le_refl], by simp⟩) ?_
        intro i ⟨hi, hall⟩
        simp only [DProgram.c_eq, DFunc.c_eq, List.map_cons, List.map_nil]
        rcases Nat.lt_or_ge i f.fOuts.length with hlt2 | hge2
        · have h1 := sum_take_succ DExpr.s f.fOuts i hlt2
          have hpt := part i hlt2
          have hout := DFunc.out_s (List.getElem_mem hlt2)
          have ee : f.fOuts[i]? = some f.fOuts[i] := List.getElem?_eq_getElem hlt2
          have hv := ValidExpr p f.fOuts[i] f.fParams k (by omega) (by omega)
          have hz := ExprSize f.fOuts[i] (by omega)
          simp only [DExpr.c_eq, DProgram.c_eq] at hv hz
          simp (maxSteps := 1000000) -dsimp -implicitDefEqProofs only [go_sem, ↓reduceIte, keep28, ib28, mk28, Tryd.f28, ee, DExpr.c_eq, upd_upd]
          repeat' (with_reducible first | intro _ | refine And.intro ?_ ?_)
          all_goals try omega
          rename_i m hm
          have hmn : (n = m) = False := eq_false fun e => hm.1 e.symm
          have hnm2 : (m = n) = False := eq_false hm.1
          simp (maxSteps := 1000000) -dsimp -implicitDefEqProofs only [go_sem, ↓reduceIte, keep28, ib28, mk28, Tryd.f28, upd_get, hmn, hnm2]
          first | refine HFnF.mk (hv) ?_ | refine CallSF.mk (hv) ?_ | refine HFnF.mkAt (hv) ?_ | refine CallSF.mk (FnAt.fn0 (hv)) ?_
          simp (maxSteps := 1000000) -dsimp -implicitDefEqProofs only [go_sem, ↓reduceIte, keep28, ib28, mk28, Tryd.f28, upd_get, hmn, hnm2]
          repeat' (with_reducible first | intro _ | refine And.intro ?_ ?_)
          · rename_i hne
            exact no fun z => hne (z.2.2.2.2.2 _ (List.getElem_mem hlt2))
          · all_goals try (repeat' (with_reducible first | exact Heap.le_refl _ | refine (le_upd (by first | assumption | exact And.right (by assumption) | exact upd_none.2 (by assumption))).2 ?_))
          · rename_i hne
            first | refine HFnF.mk (hz) ?_ | refine CallSF.mk (hz) ?_ | refine HFnF.mkAt (hz) ?_ | refine CallSF.mk (FnAt.fn0 (hz)) ?_
            simp (maxSteps := 1000000) -dsimp -implicitDefEqProofs only [go_sem, ↓reduceIte, keep28, ib28, mk28, Tryd.f28, upd_get, hmn, hnm2]
            refine ⟨i + 1, ?_⟩
            repeat' (with_reducible refine And.intro ?_ ?_)
            all_goals try (rw [IntWalk.i64_in _ (by omega)]; first | rfl | omega)
            all_goals try omega
            all_goals try (repeat' (with_reducible first | exact Heap.le_refl _ | refine (le_upd (by first | assumption | exact And.right (by assumption) | exact upd_none.2 (by assumption))).2 ?_))
            all_goals try (simp only [DProgram.c_eq]; done)
            exact all_step (P := fun e => exprOK p e f.fParams k) hlt2 hall hne
        · have hi' : i = f.fOuts.length := by omega
          subst hi'
          rw [List.take_length] at hall ⊢
          simp (maxSteps := 1000000) -dsimp -implicitDefEqProofs only [go_sem, ↓reduceIte, keep28, ib28, mk28, Tryd.f28, Nat.lt_irrefl]
          have hss : szs DExpr.s f.fOuts = f.fOuts.length + (f.fOuts.map DExpr.s).sum := szs_eq _ _
          repeat' (with_reducible first | intro _ | refine And.intro ?_ ?_)
          all_goals try (repeat' (with_reducible first | exact Heap.le_refl _ | refine (le_upd (by first | assumption | exact And.right (by assumption) | exact upd_none.2 (by assumption))).2 ?_))
          · rename_i q
            exact no fun z => by have := z.2.2.2.2.1; omega
          · rename_i q
            have hfk : funcOK p k f := ⟨hnm, q1, q3, hnd', by omega, hall⟩
            refine ⟨k + 1, ?_⟩
            repeat' (with_reducible refine And.intro ?_ ?_)
            all_goals try (rw [IntWalk.i64_in _ (by omega)]; first | rfl | omega)
            all_goals try omega
            all_goals try (repeat' (with_reducible first | exact Heap.le_refl _ | refine (le_upd (by first | assumption | exact And.right (by assumption) | exact upd_none.2 (by assumption))).2 ?_))
            intro j f' hj ej
            rcases Nat.lt_succ_iff_lt_or_eq.1 hj with h1 | rfl
            · exact hp j f' h1 ej
            · rw [eg] at ej; obtain rfl := Option.some.inj ej; exact hfk
    · rename_i q
      exact no fun z => q z.2.1
  · have hk' : k = p.fFuncs.length := by omega
    subst hk'
    simp (maxSteps := 1000000) -dsimp -implicitDefEqProofs only [go_sem, ↓reduceIte, keep28, ib28, mk28, Tryd.f28, Nat.lt_irrefl]
    exact (decide_eq_true ⟨by omega, fun j f ej => hp j f (List.getElem?_eq_some_iff.1 ej).1 ej⟩).symm
open Go.Proofs
set_option linter.unusedVariables false
set_option linter.unusedSimpArgs false
end Go.Hl
namespace Go.Proofs
open Go.Shelf
def Tryd.laysM173_ren : Go.Shelf.Ren := ⟨fun | 173 => 74 | 246 => 96 | 283 => 107 | 284 => 108 | 285 => 109 | 286 => 110 | 129 => 117 | 317 => 116 | 318 => 118 | 319 => 119 | 320 => 120 | 337 => 128 | 338 => 129 | n => n, fun | 2 => 2 | 3 => 3 | 9 => 9 | 4 => 4 | 171 => 151 | 0 => 0 | 53 => 152 | 37 => 70 | 5 => 5 | 173 => 155 | 212 => 165 | 51 => 166 | 20 => 20 | 213 => 167 | 46 => 169 | 232 => 185 | 233 => 186 | n => n, fun | 17 => 0 | 18 => 4 | 19 => 5 | n => n⟩
theorem Tryd.laysM173 : Go.Proofs.LaysM.n173 Tryd.prog Tryd.laysM173_ren := {
  mixed := by kernel_rfl
  f129 := Tryd.func117.trans (congrArg some (by kernel_rfl))
  f173 := Tryd.func74.trans (congrArg some (by kernel_rfl))
  f246 := Tryd.func96.trans (congrArg some (by kernel_rfl))
  f283 := Tryd.func107.trans (congrArg some (by kernel_rfl))
  f284 := Tryd.func108.trans (congrArg some (by kernel_rfl))
  f285 := Tryd.func109.trans (congrArg some (by kernel_rfl))
  f286 := Tryd.func110.trans (congrArg some (by kernel_rfl))
  f317 := Tryd.func116.trans (congrArg some (by kernel_rfl))
  f318 := Tryd.func118.trans (congrArg some (by kernel_rfl))
  f319 := Tryd.func119.trans (congrArg some (by kernel_rfl))
  f320 := Tryd.func120.trans (congrArg some (by kernel_rfl))
  f337 := Tryd.func128.trans (congrArg some (by kernel_rfl))
  f338 := Tryd.func129.trans (congrArg some (by kernel_rfl))
  t0 := Tryd.underlying0
  a0 := Tryd.isAgg0
  z0 := Tryd.sizeOf0
  v0 := Tryd.zeroValue0
  t2 := Tryd.underlying2
  a2 := Tryd.isAgg2
  z2 := Tryd.sizeOf2
  v2 := Tryd.zeroValue2
  t3 := Tryd.underlying3
  a3 := Tryd.isAgg3
  z3 := Tryd.sizeOf3
  v3 := Tryd.zeroValue3
  t4 := Tryd.underlying4
  a4 := Tryd.isAgg4
  z4 := Tryd.sizeOf4
  v4 := Tryd.zeroValue4
  t5 := Tryd.underlying5
  a5 := Tryd.isAgg5
  z5 := Tryd.sizeOf5
  v5 := Tryd.zeroValue5
  t9 := Tryd.underlying9
  a9 := Tryd.isAgg9
  z9 := Tryd.sizeOf9
  v9 := Tryd.zeroValue9
  t20 := Tryd.underlying20
  a20 := Tryd.isAgg20
  z20 := Tryd.sizeOf20
  v20 := Tryd.zeroValue20
  t37 := Tryd.underlying70
  a37 := Tryd.isAgg70
  z37 := Tryd.sizeOf70
  v37 := Tryd.zeroValue70
  t46 := Tryd.underlying169
  a46 := Tryd.isAgg169
  z46 := Tryd.sizeOf169
  v46 := Tryd.zeroValue169
  t51 := Tryd.underlying166
  a51 := Tryd.isAgg166
  z51 := Tryd.sizeOf166
  v51 := Tryd.zeroValue166
  t53 := Tryd.underlying152
  a53 := Tryd.isAgg152
  z53 := Tryd.sizeOf152
  v53 := Tryd.zeroValue152
  t171 := Tryd.underlying151
  a171 := Tryd.isAgg151
  z171 := Tryd.sizeOf151
  v171 := Tryd.zeroValue151
  t173 := Tryd.underlying155
  a173 := Tryd.isAgg155
  z173 := Tryd.sizeOf155
  v173 := Tryd.zeroValue155
  t212 := Tryd.underlying165
  a212 := Tryd.isAgg165
  z212 := Tryd.sizeOf165
  v212 := Tryd.zeroValue165
  t213 := Tryd.underlying167
  a213 := Tryd.isAgg167
  z213 := Tryd.sizeOf167
  t232 := Tryd.underlying185
  a232 := Tryd.isAgg185
  z232 := Tryd.sizeOf185
  v232 := Tryd.zeroValue185
  t233 := Tryd.underlying186
  a233 := Tryd.isAgg186
  z233 := Tryd.sizeOf186
  v233 := Tryd.zeroValue186
  g17 := by kernel_rfl
  g18 := by kernel_rfl
  g19 := by kernel_rfl
  i0 := by kernel_rfl
  i2 := by kernel_rfl
  i3 := by kernel_rfl
  i4 := by kernel_rfl
  i5 := by kernel_rfl
  i9 := by kernel_rfl
  i20 := by kernel_rfl
  i37 := by kernel_rfl
  i46 := by kernel_rfl
  i51 := by kernel_rfl
  i53 := by kernel_rfl
  i171 := by kernel_rfl
  i173 := by kernel_rfl
  i212 := by kernel_rfl
  i232 := by kernel_rfl
  i233 := by kernel_rfl
  m17 := by kernel_rfl
  m18 := by kernel_rfl
  m19 := by kernel_rfl }
open Go.RowKit Go.Sort Go.Lib in
theorem Tryd.strconv_FormatInt_10 (n : Int) (h0 : -9223372036854775808 ≤ n) (h1 : n ≤ 9223372036854775807) (w : World) (htab : Lib.TabIs Tryd.prog w "internal/strconv.uint64pow10" .u64 Lib.pow10Tab) :
    Calls Tryd.prog 74 #[.int .i64 n, .int .i64 10] w fun e w' => e = .returned (.string ⟨(Lib.itoa n).toArray⟩) ∧ ∃ k os, w' = grow (w.drewN k) os := Any.strconv_FormatInt_10 Tryd.laysM173 n h0 h1 w htab
end Go.Proofs
namespace Go.Hl

open Go.Proofs
set_option linter.unusedVariables false
set_option linter.unusedSimpArgs false
/-! ### texts cut at a byte -/
/-! ### the library's functions at a byte -/
/-! ### decimal numerals -/
open Go.Proofs
set_option linter.unusedVariables false
set_option linter.unusedSimpArgs false
open Go.Proofs
set_option linter.unusedVariables false
set_option linter.unusedSimpArgs false
theorem itoa_lt {n : Int} (h0 : 0 ≤ n) (h : n < 10) : Go.Lib.itoa n = [UInt8.ofNat (48 + n).toNat] := by
  unfold Go.Lib.itoa
  rw [if_neg (by omega), Go.Lib.decDigits, dif_pos (by omega), show (48 + n).toNat = 48 + n.toNat from by omega]
theorem itoa_ge {n : Int} (h : 10 ≤ n) : Go.Lib.itoa n = Go.Lib.itoa (n / 10) ++ [UInt8.ofNat (48 + n % 10).toNat] := by
  unfold Go.Lib.itoa
  rw [if_neg (by omega), if_neg (by omega), Go.Lib.decDigits, dif_neg (by omega), show (48 + n % 10).toNat = 48 + n.toNat % 10 from by omega, show (n / 10).toNat = n.toNat / 10 from by omega]
theorem decDigits_len20 {u k : Nat} (h : u < 10 ^ k) (hk : 1 ≤ k) : (Go.Lib.decDigits u).length ≤ k := by
  induction k generalizing u with
  | zero => omega
  | succ k ih =>
    rw [Go.Lib.decDigits]
    split
    · simp
    · rename_i hu
      rcases Nat.eq_zero_or_pos k with e | e
      · subst e; simp at h; omega
      · have := ih (u := u / 10) (by rw [Nat.pow_succ] at h; omega) e
        simp; omega
theorem itoa_len64 {n : Int} (h0 : -9223372036854775808 ≤ n) (h1 : n ≤ 9223372036854775807) : (Go.Lib.itoa n).length ≤ 21 := by
  unfold Go.Lib.itoa
  split
  · have := decDigits_len20 (u := n.natAbs) (k := 20) (by omega) (by omega)
    simp; omega
  · have := decDigits_len20 (u := n.toNat) (k := 20) (by omega) (by omega)
    omega
theorem laid_tab {E : Env} {h : Heap} {w : World} (x : LaidIn E h w) : Go.Lib.TabIs Tryd.prog w "internal/strconv.uint64pow10" .u64 Go.Lib.pow10Tab :=
  let ⟨_, h1, h2⟩ := x.var (P := Tryd.prog) (name := "internal/strconv.uint64pow10") (by kernel_rfl) (List.mem_cons_self ..)
  h1.trans (congrArg some (h2.trans (by kernel_rfl)))
theorem formatInt (n : Int) (h0 : -9223372036854775808 ≤ n) (h1 : n ≤ 9223372036854775807) : Fn0 Tryd.prog 74 [I n, I 10] (.str (Go.Lib.itoa n)) :=
  fn0_grown (by kernel_rfl) fun E h w vs R rl => by
    match vs, rl with
    | [v0, v1], rl =>
      obtain ⟨r0, r1, _⟩ := rl
      rw [rep_int r0, rep_int r1]
      refine (Go.Proofs.Tryd.strconv_FormatInt_10 n h0 h1 w (laid_tab R.laid)).mono fun e w' ⟨he, hw⟩ => ⟨_, he, fun E' h' w' => .str _ ?_, hw⟩
      have := itoa_len64 h0 h1
      simp only [maxLen]
      omega
def keep35 : List Nat := [0, 2]
def ib35 : List Nat := []
def mk35 : Marks := fun _ => ([], .nil, [])
theorem decimal (n : Int) (h : Num n) : Fn0 Tryd.prog 35 [I n] (.str (Go.Lib.itoa n)) := by
  have h0 := h.1
  have h1 := h.2
  refine fn0F 5 keep35 ib35 mk35 mix Tryd.func35 rfl (by kernel_rfl) (by simp) fun h => ?_
  simp (maxSteps := 1000000) -dsimp -implicitDefEqProofs only [go_sem, ↓reduceIte, keep35, ib35, mk35, Tryd.f35]
  first | refine HFnF.mk (formatInt n (by omega) (by omega)) ?_ | refine CallSF.mk (formatInt n (by omega) (by omega)) ?_ | refine HFnF.mkAt (formatInt n (by omega) (by omega)) ?_ | refine CallSF.mk (FnAt.fn0 (formatInt n (by omega) (by omega))) ?_
  simp (maxSteps := 1000000) -dsimp -implicitDefEqProofs only [go_sem, ↓reduceIte, keep35, ib35, mk35, Tryd.f35]
def keep61 : List Nat := [0, 2, 4]
def ib61 : List Nat := [8, 17]
def mk61 : Marks := fun id => match id with | 3 => ([], (.op 0 (.op 1 (.op 2 (.op 3 (.op 4 (.op 5 (.op 6 (.op 7 (.op 8 (.op 9 (.op 10 .nil))))))))))), []) | _ => ([], .nil, [])
set_option maxRecDepth 100000 in
theorem Decimal (m : Nat) : ∀ n : Int, 0 ≤ n → n < m → n ≤ 1000002 → Fn0 Tryd.prog 61 [I n] (.str (Go.Lib.itoa n)) := by
  induction m with
  | zero => intro n a b; omega
  | succ m ih =>
  intro n h0 hm hn
  refine fn0F 20 keep61 ib61 mk61 mix Tryd.func61 rfl (by kernel_rfl) (by simp) fun h => ?_
  simp (maxSteps := 1000000) -dsimp -implicitDefEqProofs only [go_sem, ↓reduceIte, keep61, ib61, mk61, Tryd.f61]
  repeat' (with_reducible first | intro _ | refine And.intro ?_ ?_)
  all_goals try omega
  · rw [itoa_lt h0 (by assumption), IntWalk.i64_in (48 + n) (by omega), IntWalk.u8_in (48 + n) (by omega)]
  · rw [Int.tdiv_eq_ediv_of_nonneg (by omega), IntWalk.i64_in (n / 10) (by omega)]
    first | refine HFnF.mk (ih (n / 10) (by omega) (by omega) (by omega)) ?_ | refine CallSF.mk (ih (n / 10) (by omega) (by omega) (by omega)) ?_ | refine HFnF.mkAt (ih (n / 10) (by omega) (by omega) (by omega)) ?_ | refine CallSF.mk (FnAt.fn0 (ih (n / 10) (by omega) (by omega) (by omega))) ?_
    simp (maxSteps := 1000000) -dsimp -implicitDefEqProofs only [go_sem, ↓reduceIte, keep61, ib61, mk61, Tryd.f61]
    repeat' (with_reducible first | intro _ | refine And.intro ?_ ?_)
    all_goals try (first | omega | decide)
    · have := itoa_len64 (n := n / 10) (by omega) (by omega)
      omega
    · rw [itoa_ge (n := n) (by omega), Int.tmod_eq_emod_of_nonneg (by omega), IntWalk.i64_in (48 + n % 10) (by omega), IntWalk.u8_in (48 + n % 10) (by omega)]
theorem itoa_num {n : Int} (h : Num n) : (Go.Lib.itoa n).length ≤ 21 := itoa_len64 (by have := h.1; omega) (by have := h.2; omega)
open Go.Proofs
set_option linter.unusedVariables false
set_option linter.unusedSimpArgs false
/-- Texts with "; " between them. -/
def semis : List (List UInt8) → List UInt8
  | [] => []
  | [a] => a
  | a :: b :: l => a ++ 59 :: 32 :: semis (b :: l)
theorem semis_snoc (a : List UInt8) : ∀ l : List (List UInt8), ¬ l = [] → semis (l ++ [a]) = semis l ++ 59 :: 32 :: a
  | [], h => absurd rfl h
  | [b], _ => rfl
  | b :: c :: l, _ => by
    show b ++ 59 :: 32 :: semis ((c :: l) ++ [a]) = (b ++ 59 :: 32 :: semis (c :: l)) ++ 59 :: 32 :: a
    rw [semis_snoc a (c :: l) (by simp)]; simp
theorem semis_len : ∀ l : List (List UInt8), (semis l).length ≤ (l.map fun a => a.length + 2).sum
  | [] => Nat.le_refl _
  | [a] => by simp [semis]
  | a :: b :: l => by
    have := semis_len (b :: l)
    simp only [semis, List.map_cons, List.sum_cons, List.length_append, List.length_cons] at this ⊢
    omega
def signB (k : Int) : UInt8 := if k = 3 then 43 else if k = 4 then 45 else if k = 5 then 42 else 47
def nameAt (p : DProgram) (n : Int) : List UInt8 := match p.fFuncs[n.toNat]? with | some f => f.fName | none => []
/-- What stands ahead of the list of kids. -/
def headT (p : DProgram) (k n i c : Int) : List UInt8 :=
  if k = 7 then [110, 101, 103] else if k = 8 then [105, 102] else if k = 9 then [108, 101, 116] else if k = 10 then nameAt p n ++ 46 :: Go.Lib.itoa i else nameAt p n ++ 46 :: Go.Lib.itoa i ++ 94 :: Go.Lib.itoa c
mutual
def DExpr.txt (p : DProgram) : DExpr → List UInt8
  | .mk k n i c kids =>
    if k = 1 then Go.Lib.itoa n else if k = 2 then 120 :: Go.Lib.itoa n
    else if 3 ≤ k ∧ k ≤ 6 then 40 :: ((DExpr.txtL p kids).getD 0 [] ++ 32 :: signB k :: 32 :: ((DExpr.txtL p kids).getD 1 [] ++ [41]))
    else headT p k n i c ++ 40 :: (semis (DExpr.txtL p kids) ++ [41])
def DExpr.txtL (p : DProgram) : List DExpr → List (List UInt8)
  | [] => []
  | x :: l => x.txt p :: DExpr.txtL p l
end
theorem DExpr.txtL_map (p : DProgram) : ∀ l : List DExpr, DExpr.txtL p l = l.map (DExpr.txt p)
  | [] => rfl
  | x :: l => by rw [DExpr.txtL, DExpr.txtL_map p l]; rfl
theorem DExpr.txt_eq (p : DProgram) (e : DExpr) : e.txt p = if e.fKind = 1 then Go.Lib.itoa e.fNum else if e.fKind = 2 then 120 :: Go.Lib.itoa e.fNum
    else if 3 ≤ e.fKind ∧ e.fKind ≤ 6 then 40 :: ((e.fKids.map (DExpr.txt p)).getD 0 [] ++ 32 :: signB e.fKind :: 32 :: ((e.fKids.map (DExpr.txt p)).getD 1 [] ++ [41]))
    else headT p e.fKind e.fNum e.fPick e.fCount ++ 40 :: (semis (e.fKids.map (DExpr.txt p)) ++ [41]) := by
  cases e with
  | mk k n i c kids =>
    rw [DExpr.txt, DExpr.txtL_map]; rfl
/-- An expression may stand in a program. -/
structure Stands (p : DProgram) (funcs : Int) (e : DExpr) (vars : Int) : Prop where
  ok : e.ok p funcs vars
  vars : vars + e.s ≤ 1000000
  f0 : 0 ≤ funcs
  f1 : funcs ≤ p.fFuncs.length
theorem Stands.kid {p : DProgram} {funcs vars : Int} {e : DExpr} (h : Stands p funcs e vars) {k : Nat} (hk : k < e.fKids.length) : ∃ v, Stands p funcs e.fKids[k] v := by
  have h1 := ((DExpr.ok_iff _ _ _ _).1 h.ok).2 k hk
  have h2 := DExpr.kid_s (List.getElem_mem hk)
  have h3 := h.vars
  refine ⟨_, h1, ?_, h.f0, h.f1⟩
  unfold moreV; split <;> omega
theorem Stands.node {p : DProgram} {funcs vars : Int} {e : DExpr} (h : Stands p funcs e vars) : nodeOK p e vars funcs := ((DExpr.ok_iff _ _ _ _).1 h.ok).1
theorem Stands.num {p : DProgram} {funcs vars : Int} {e : DExpr} (h : Stands p funcs e vars) (hk : e.fKind = 1 ∨ e.fKind = 2) : Num e.fNum := by
  have hn := h.node
  have hv := h.vars
  unfold nodeOK at hn
  rw [if_neg (by omega)] at hn
  rcases hk with q | q
  · exact hn.2.2.2.1 q
  · have := hn.2.2.2.2.1 q
    constructor <;> omega
theorem Stands.kind {p : DProgram} {funcs vars : Int} {e : DExpr} (h : Stands p funcs e vars) : 1 ≤ e.fKind ∧ e.fKind ≤ 11 := by
  have hn := h.node
  unfold nodeOK at hn
  split at hn
  · omega
  · have h1 := hn.1
    unfold kidsN at h1
    repeat' split at h1
    all_goals omega
theorem Stands.two {p : DProgram} {funcs vars : Int} {e : DExpr} (h : Stands p funcs e vars) (hk : 3 ≤ e.fKind ∧ e.fKind ≤ 6) : e.fKids.length = 2 := by
  have hn := h.node
  unfold nodeOK at hn
  rw [if_neg (by omega)] at hn
  have h1 := hn.1
  unfold kidsN at h1
  rw [if_neg (by omega), if_pos (by omega)] at h1
  omega
theorem Stands.call {p : DProgram} (hp : p.ok) {funcs vars : Int} {e : DExpr} (h : Stands p funcs e vars) (hk : e.fKind = 10 ∨ e.fKind = 11) :
    ∃ f, p.fFuncs[e.fNum.toNat]? = some f ∧ nameAt p e.fNum = f.fName ∧ f.fName.length ≤ 12 ∧ 0 ≤ e.fNum ∧ e.fNum < p.fFuncs.length ∧ Num e.fPick ∧ Num e.fCount := by
  have hn := h.node
  have h1 := h.f1
  unfold nodeOK at hn
  rw [if_pos hk] at hn
  obtain ⟨a, b, c⟩ := hn
  have hlt : e.fNum.toNat < p.fFuncs.length := by omega
  have ef : p.fFuncs[e.fNum.toNat]? = some p.fFuncs[e.fNum.toNat] := List.getElem?_eq_getElem hlt
  have hf := hp.2 _ _ ef
  obtain ⟨c1, c2, c3, c4, c5⟩ := c _ ef
  have ho := hf.2.2.1
  refine ⟨_, ef, by unfold nameAt; rw [ef], hf.1.2.1, a, by omega, ⟨by omega, by omega⟩, ?_⟩
  rcases hk with q | q
  · rw [c4 q]; exact ⟨by omega, by omega⟩
  · have := c5 q; exact ⟨by omega, by omega⟩
theorem sum_txt {p : DProgram} : ∀ l : List DExpr, (∀ x ∈ l, (x.txt p).length + 2 ≤ 64 * (x.s + 1)) → ((l.map (DExpr.txt p)).map fun a => a.length + 2).sum ≤ 64 * szs DExpr.s l
  | [], _ => Nat.zero_le _
  | x :: l, h => by
    have h1 := sum_txt l fun y hy => h y (List.mem_cons_of_mem _ hy)
    have h2 := h x (List.mem_cons_self ..)
    simp only [szs_eq, List.map_cons, List.sum_cons, List.length_cons] at h1 ⊢
    omega
theorem headT_len {p : DProgram} (hp : p.ok) {funcs vars : Int} {e : DExpr} (h : Stands p funcs e vars) (h7 : 7 ≤ e.fKind) : (headT p e.fKind e.fNum e.fPick e.fCount).length ≤ 56 := by
  have hk := h.kind
  unfold headT
  split
  · simp
  · split
    · simp
    · split
      · simp
      · by_cases hc : e.fKind = 10 ∨ e.fKind = 11
        · obtain ⟨f, ef, en, hl, -, -, hi, hc2⟩ := h.call hp hc
          have h1 := itoa_num hi
          have h2 := itoa_num hc2
          rw [en]
          split <;> simp <;> omega
        · exfalso; omega
theorem DExpr.txt_len {p : DProgram} (hp : p.ok) {funcs : Int} (e : DExpr) (vars : Int) (h : Stands p funcs e vars) : (e.txt p).length + 2 ≤ 64 * (e.s + 1) := by
  have ih : ∀ x ∈ e.fKids, (x.txt p).length + 2 ≤ 64 * (x.s + 1) := fun x hx => by
    obtain ⟨k, hk, ek⟩ := List.mem_iff_getElem.1 hx
    obtain ⟨v, hv⟩ := h.kid hk
    have hs := DExpr.kid_s hx
    subst ek
    exact DExpr.txt_len hp e.fKids[k] v hv
  have hsum := sum_txt e.fKids ih
  rw [← e.s_eq] at hsum
  rw [DExpr.txt_eq]
  split
  · have := itoa_num (h.num (.inl (by assumption))); omega
  · split
    · have := itoa_num (h.num (.inr (by assumption))); rw [List.length_cons]; omega
    · split
      · rename_i hk
        have h2 := h.two hk
        match hkl : e.fKids, h2 with
        | [a, b], _ =>
          rw [hkl] at hsum
          simp at hsum ⊢
          omega
      · have h1 := semis_len (e.fKids.map (DExpr.txt p))
        have hk := h.kind
        have hh := headT_len hp h (by omega)
        simp only [List.length_append, List.length_cons, List.length_nil]
        omega
termination_by e.s
theorem semis_take {p : DProgram} (hp : p.ok) {funcs vars : Int} {e : DExpr} (h : Stands p funcs e vars) (k : Nat) : (semis ((e.fKids.map (DExpr.txt p)).take k)).length ≤ 64 * (e.s + 1) := by
  have h1 := semis_len ((e.fKids.map (DExpr.txt p)).take k)
  rw [← List.map_take] at h1 ⊢
  have h2 := sum_txt (p := p) (e.fKids.take k) fun x hx => by
    obtain ⟨j, hj, ek⟩ := List.mem_iff_getElem.1 (List.mem_of_mem_take hx)
    obtain ⟨v, hv⟩ := h.kid hj
    subst ek
    exact DExpr.txt_len hp _ v hv
  have h3 : szs DExpr.s (e.fKids.take k) ≤ e.s := by
    rw [e.s_eq, szs_eq, szs_eq]
    have h4 : ((e.fKids.take k).map DExpr.s).sum + ((e.fKids.drop k).map DExpr.s).sum = (e.fKids.map DExpr.s).sum := by
      rw [← List.sum_append, ← List.map_append, List.take_append_drop]
    have h5 : (e.fKids.take k).length ≤ e.fKids.length := by rw [List.length_take]; omega
    omega
  omega
theorem semis_next {p : DProgram} {l : List DExpr} {k : Nat} (hk : k < l.length) : (0 < k → semis ((l.map (DExpr.txt p)).take (k + 1)) = semis ((l.map (DExpr.txt p)).take k) ++ 59 :: 32 :: l[k].txt p) ∧ (k = 0 → semis ((l.map (DExpr.txt p)).take (k + 1)) = l[k].txt p) := by
  have h1 : (l.map (DExpr.txt p)).take (k + 1) = (l.map (DExpr.txt p)).take k ++ [l[k].txt p] := by
    rw [List.take_succ_eq_append_getElem (by simpa using hk)]; simp
  rw [h1]
  refine ⟨fun h0 => semis_snoc _ _ fun q => ?_, fun h0 => ?_⟩
  · have := congrArg List.length q
    rw [List.length_take, List.length_map, List.length_nil] at this
    omega
  · subst h0; simp [semis]
theorem semis_room {p : DProgram} (hp : p.ok) {funcs vars : Int} {e : DExpr} (h : Stands p funcs e vars) {k : Nat} (hk : k < e.fKids.length) : (semis ((e.fKids.map (DExpr.txt p)).take k)).length + 64 * (e.fKids[k].s + 1) ≤ 64 * e.s := by
  have h1 := semis_len ((e.fKids.map (DExpr.txt p)).take k)
  rw [← List.map_take] at h1 ⊢
  have h2 := sum_txt (p := p) (e.fKids.take k) fun x hx => by
    obtain ⟨j, hj, ek⟩ := List.mem_iff_getElem.1 (List.mem_of_mem_take hx)
    obtain ⟨v, hv⟩ := h.kid hj
    subst ek
    exact DExpr.txt_len hp _ v hv
  have h3 := e.part_s hk
  rw [szs_eq, List.length_take] at h2
  omega
open Go.Proofs
set_option linter.unusedVariables false
set_option linter.unusedSimpArgs false
def keep62 : List Nat := [0, 2, 3, 4, 6, 8, 10]
def ib62 : List Nat := []
def mk62 : Marks := fun _ => ([], .nil, [])
theorem l02Sign (k : Int) (hk : 3 ≤ k ∧ k ≤ 6) : Fn0 Tryd.prog 62 [I k] (.str [signB k]) := by
  rcases (by omega : k = 3 ∨ k = 4 ∨ k = 5 ∨ k = 6) with rfl | rfl | rfl | rfl
  all_goals
    refine fn0F 12 keep62 ib62 mk62 mix Tryd.func62 rfl (by kernel_rfl) (by simp) fun h => ?_
    simp (maxSteps := 1000000) -dsimp -implicitDefEqProofs only [go_sem, ↓reduceIte, keep62, ib62, mk62, Tryd.f62]
    try rfl
def keep25 : List Nat := [0, 1, 4, 5, 6, 10, 11, 18, 26, 59, 60, 62, 64, 66, 86, 121, 125]
def ib25 : List Nat := []
def mk25 : Marks := fun id => match id with | 10 => ([], (.op 0 (.op 1 (.op 2 (.op 3 (.op 4 (.op 5 (.op 6 (.op 7 (.op 8 (.op 9 (.op 10 (.op 11 (.op 12 (.op 13 (.op 14 (.op 15 (.op 16 (.op 17 (.op 18 (.op 19 (.op 20 (.op 21 (.op 22 (.op 23 (.op 24 (.op 25 .nil)))))))))))))))))))))))))), []) | 20 => ([], (.op 0 (.op 1 (.op 2 (.op 3 (.op 4 (.op 5 (.op 6 (.op 7 (.op 8 (.op 9 (.op 10 (.op 11 (.op 12 (.op 13 (.op 14 (.op 15 (.op 16 (.op 17 (.op 18 .nil))))))))))))))))))), []) | 22 => ([], (.op 0 (.op 1 (.op 2 (.op 3 (.op 4 (.op 5 (.op 6 (.op 7 (.op 8 (.op 9 (.op 10 (.op 11 (.op 12 (.op 13 (.op 14 (.op 15 (.op 16 (.op 17 (.op 18 (.op 19 (.op 20 (.op 21 (.op 22 (.op 23 (.op 24 (.op 25 .nil)))))))))))))))))))))))))), []) | _ => ([], .nil, [])
set_option maxRecDepth 100000 in
set_option maxHeartbeats 1000000 in
theorem l02Text {p : DProgram} (hp : p.ok) {funcs : Int} (e : DExpr) (vars : Int) (h : Stands p funcs e vars) (hs : e.s ≤ 1000000) : Fn0 Tryd.prog 25 [.ip 1 [p.c] 0 0, .ip 5 [e.c] 0 0] (.str (e.txt p)) := by
  have ih : ∀ (k : Nat) (hk : k < e.fKids.length), Fn0 Tryd.prog 25 [.ip 1 [p.c] 0 0, .ip 5 [e.fKids[k].c] 0 0] (.str (e.fKids[k].txt p)) := fun k hk => by
    obtain ⟨v, hv⟩ := h.kid hk
    have hks := DExpr.kid_s (List.getElem_mem hk)
    exact l02Text hp e.fKids[k] v hv (by omega)
  have hl := DExpr.txt_len hp e vars h
  have hkl : ∀ (k : Nat) (hk : k < e.fKids.length), (e.fKids[k].txt p).length ≤ 64 * (e.s + 1) := fun k hk => by
    obtain ⟨v, hv⟩ := h.kid hk
    have hks := DExpr.kid_s (List.getElem_mem hk)
    have := DExpr.txt_len hp e.fKids[k] v hv
    omega
  have hall := semis_take hp h
  have hkind := h.kind
  have htxt := DExpr.txt_eq p e
  simp only [DExpr.c_eq, DProgram.c_eq]
  by_cases k1 : e.fKind = 1
  · rw [if_pos k1] at htxt
    have hN := h.num (.inl k1)
    refine fn0F 140 keep25 ib25 mk25 mix Tryd.func25 rfl (by kernel_rfl) (by simp) fun h => ?_
    simp (maxSteps := 1000000) -dsimp -implicitDefEqProofs only [go_sem, ↓reduceIte, keep25, ib25, mk25, Tryd.f25, k1]
    first | refine HFnF.mk (Decimal (e.fNum.toNat + 1) e.fNum hN.1 (by have := hN.1; omega) (by have := hN.2; omega)) ?_ | refine CallSF.mk (Decimal (e.fNum.toNat + 1) e.fNum hN.1 (by have := hN.1; omega) (by have := hN.2; omega)) ?_ | refine HFnF.mkAt (Decimal (e.fNum.toNat + 1) e.fNum hN.1 (by have := hN.1; omega) (by have := hN.2; omega)) ?_ | refine CallSF.mk (FnAt.fn0 (Decimal (e.fNum.toNat + 1) e.fNum hN.1 (by have := hN.1; omega) (by have := hN.2; omega))) ?_
    simp (maxSteps := 1000000) -dsimp -implicitDefEqProofs only [go_sem, ↓reduceIte, keep25, ib25, mk25, Tryd.f25]
    rw [htxt]
  · by_cases k2 : e.fKind = 2
    · rw [if_neg k1, if_pos k2] at htxt
      have hN := h.num (.inr k2)
      have hi := itoa_num hN
      refine fn0F 140 keep25 ib25 mk25 mix Tryd.func25 rfl (by kernel_rfl) (by simp) fun h => ?_
      simp (maxSteps := 1000000) -dsimp -implicitDefEqProofs only [go_sem, ↓reduceIte, keep25, ib25, mk25, Tryd.f25, k2]
      first | refine HFnF.mk (Decimal (e.fNum.toNat + 1) e.fNum hN.1 (by have := hN.1; omega) (by have := hN.2; omega)) ?_ | refine CallSF.mk (Decimal (e.fNum.toNat + 1) e.fNum hN.1 (by have := hN.1; omega) (by have := hN.2; omega)) ?_ | refine HFnF.mkAt (Decimal (e.fNum.toNat + 1) e.fNum hN.1 (by have := hN.1; omega) (by have := hN.2; omega)) ?_ | refine CallSF.mk (FnAt.fn0 (Decimal (e.fNum.toNat + 1) e.fNum hN.1 (by have := hN.1; omega) (by have := hN.2; omega))) ?_
      simp (maxSteps := 1000000) -dsimp -implicitDefEqProofs only [go_sem, ↓reduceIte, keep25, ib25, mk25, Tryd.f25]
      rw [htxt]
      exact ⟨by omega, rfl⟩
    · by_cases kb : 3 ≤ e.fKind ∧ e.fKind ≤ 6
      · rw [if_neg k1, if_neg k2, if_pos kb] at htxt
        have h2 := h.two kb
        match hk : e.fKids, h2 with
        | [a, b], _ =>
          have i0 := ih 0 (by rw [hk]; simp)
          have i1 := ih 1 (by rw [hk]; simp)
          have l0 := hkl 0 (by rw [hk]; simp)
          have l1 := hkl 1 (by rw [hk]; simp)
          have g0 : e.fKids[0]'(by rw [hk]; simp) = a := by simp [hk]
          have g1 : e.fKids[1]'(by rw [hk]; simp) = b := by simp [hk]
          rw [g0] at i0 l0; rw [g1] at i1 l1
          rw [hk] at htxt
          simp only [List.map_cons, List.map_nil] at htxt
          have ht : e.txt p = 40 :: (a.txt p ++ 32 :: signB e.fKind :: 32 :: (b.txt p ++ [41])) := htxt
          have j0 : Fn0 Tryd.prog 25 [.ip 1 [[sls 3 DFunc.c p.fFuncs]] 0 0, .ip 5 [a.c, b.c] 0 0] (.str (a.txt p)) := i0.sub (.cons (.refl _) (.cons (Sub.ip rfl (by simp)) .nil))
          have j1 : Fn0 Tryd.prog 25 [.ip 1 [[sls 3 DFunc.c p.fFuncs]] 0 0, .ip 5 [a.c, b.c] 1 0] (.str (b.txt p)) := i1.sub (.cons (.refl _) (.cons (Sub.ip rfl (by simp)) .nil))
          have js := l02Sign e.fKind kb
          rw [ht]
          clear ih hkl htxt ht i0 i1
          rcases (by omega : e.fKind = 3 ∨ e.fKind = 4 ∨ e.fKind = 5 ∨ e.fKind = 6) with kq | kq | kq | kq
          · rw [kq] at js ⊢
            refine fn0F 140 keep25 ib25 mk25 mix Tryd.func25 rfl (by kernel_rfl) (by simp) fun h => ?_
            simp (maxSteps := 1000000) -dsimp -implicitDefEqProofs only [go_sem, ↓reduceIte, keep25, ib25, mk25, Tryd.f25, kq]
            refine ⟨by decide, ?_⟩
            first | refine HFnF.mk (j0) ?_ | refine CallSF.mk (j0) ?_ | refine HFnF.mkAt (j0) ?_ | refine CallSF.mk (FnAt.fn0 (j0)) ?_
            simp (maxSteps := 1000000) -dsimp -implicitDefEqProofs only [go_sem, ↓reduceIte, keep25, ib25, mk25, Tryd.f25]
            repeat' (with_reducible first | intro _ | refine And.intro ?_ ?_)
            all_goals try (first | omega | (simp only [List.length_append, List.length_cons, List.length_nil]; omega))
            first | refine HFnF.mk (js) ?_ | refine CallSF.mk (js) ?_ | refine HFnF.mkAt (js) ?_ | refine CallSF.mk (FnAt.fn0 (js)) ?_
            simp (maxSteps := 1000000) -dsimp -implicitDefEqProofs only [go_sem, ↓reduceIte, keep25, ib25, mk25, Tryd.f25]
            repeat' (with_reducible first | intro _ | refine And.intro ?_ ?_)
            all_goals try (first | omega | (simp only [List.length_append, List.length_cons, List.length_nil]; omega))
            first | refine HFnF.mk (j1) ?_ | refine CallSF.mk (j1) ?_ | refine HFnF.mkAt (j1) ?_ | refine CallSF.mk (FnAt.fn0 (j1)) ?_
            simp (maxSteps := 1000000) -dsimp -implicitDefEqProofs only [go_sem, ↓reduceIte, keep25, ib25, mk25, Tryd.f25]
            repeat' (with_reducible first | intro _ | refine And.intro ?_ ?_)
            all_goals try (first | omega | (simp only [List.length_append, List.length_cons, List.length_nil]; omega))
            all_goals simp
          · rw [kq] at js ⊢
            refine fn0F 140 keep25 ib25 mk25 mix Tryd.func25 rfl (by kernel_rfl) (by simp) fun h => ?_
            simp (maxSteps := 1000000) -dsimp -implicitDefEqProofs only [go_sem, ↓reduceIte, keep25, ib25, mk25, Tryd.f25, kq]
            refine ⟨by decide, ?_⟩
            first | refine HFnF.mk (j0) ?_ | refine CallSF.mk (j0) ?_ | refine HFnF.mkAt (j0) ?_ | refine CallSF.mk (FnAt.fn0 (j0)) ?_
            simp (maxSteps := 1000000) -dsimp -implicitDefEqProofs only [go_sem, ↓reduceIte, keep25, ib25, mk25, Tryd.f25]
            repeat' (with_reducible first | intro _ | refine And.intro ?_ ?_)
            all_goals try (first | omega | (simp only [List.length_append, List.length_cons, List.length_nil]; omega))
            first | refine HFnF.mk (js) ?_ | refine CallSF.mk (js) ?_ | refine HFnF.mkAt (js) ?_ | refine CallSF.mk (FnAt.fn0 (js)) ?_
            simp (maxSteps := 1000000) -dsimp -implicitDefEqProofs only [go_sem, ↓reduceIte, keep25, ib25, mk25, Tryd.f25]
            repeat' (with_reducible first | intro _ | refine And.intro ?_ ?_)
            all_goals try (first | omega | (simp only [List.length_append, List.length_cons, List.length_nil]; omega))
            first | refine HFnF.mk (j1) ?_ | refine CallSF.mk (j1) ?_ | refine HFnF.mkAt (j1) ?_ | refine CallSF.mk (FnAt.fn0 (j1)) ?_
            simp (maxSteps := 1000000) -dsimp -implicitDefEqProofs only [go_sem, ↓reduceIte, keep25, ib25, mk25, Tryd.f25]
            repeat' (with_reducible first | intro _ | refine And.intro ?_ ?_)
            all_goals try (first | omega | (simp only [List.length_append, List.length_cons, List.length_nil]; omega))
            all_goals simp
          · rw [kq] at js ⊢
            refine fn0F 140 keep25 ib25 mk25 mix Tryd.func25 rfl (by kernel_rfl) (by simp) fun h => ?_
            simp (maxSteps := 1000000) -dsimp -implicitDefEqProofs only [go_sem, ↓reduceIte, keep25, ib25, mk25, Tryd.f25, kq]
            refine ⟨by decide, ?_⟩
            first | refine HFnF.mk (j0) ?_ | refine CallSF.mk (j0) ?_ | refine HFnF.mkAt (j0) ?_ | refine CallSF.mk (FnAt.fn0 (j0)) ?_
            simp (maxSteps := 1000000) -dsimp -implicitDefEqProofs only [go_sem, ↓reduceIte, keep25, ib25, mk25, Tryd.f25]
            repeat' (with_reducible first | intro _ | refine And.intro ?_ ?_)
            all_goals try (first | omega | (simp only [List.length_append, List.length_cons, List.length_nil]; omega))
            first | refine HFnF.mk (js) ?_ | refine CallSF.mk (js) ?_ | refine HFnF.mkAt (js) ?_ | refine CallSF.mk (FnAt.fn0 (js)) ?_
            simp (maxSteps := 1000000) -dsimp -implicitDefEqProofs only [go_sem, ↓reduceIte, keep25, ib25, mk25, Tryd.f25]
            repeat' (with_reducible first | intro _ | refine And.intro ?_ ?_)
            all_goals try (first | omega | (simp only [List.length_append, List.length_cons, List.length_nil]; omega))
            first | refine HFnF.mk (j1) ?_ | refine CallSF.mk (j1) ?_ | refine HFnF.mkAt (j1) ?_ | refine CallSF.mk (FnAt.fn0 (j1)) ?_
            simp (maxSteps := 1000000) -dsimp -implicitDefEqProofs only [go_sem, ↓reduceIte, keep25, ib25, mk25, Tryd.f25]
            repeat' (with_reducible first | intro _ | refine And.intro ?_ ?_)
            all_goals try (first | omega | (simp only [List.length_append, List.length_cons, List.length_nil]; omega))
            all_goals simp
          · rw [kq] at js ⊢
            refine fn0F 140 keep25 ib25 mk25 mix Tryd.func25 rfl (by kernel_rfl) (by simp) fun h => ?_
            simp (maxSteps := 1000000) -dsimp -implicitDefEqProofs only [go_sem, ↓reduceIte, keep25, ib25, mk25, Tryd.f25, kq]
            refine ⟨by decide, ?_⟩
            first | refine HFnF.mk (j0) ?_ | refine CallSF.mk (j0) ?_ | refine HFnF.mkAt (j0) ?_ | refine CallSF.mk (FnAt.fn0 (j0)) ?_
            simp (maxSteps := 1000000) -dsimp -implicitDefEqProofs only [go_sem, ↓reduceIte, keep25, ib25, mk25, Tryd.f25]
            repeat' (with_reducible first | intro _ | refine And.intro ?_ ?_)
            all_goals try (first | omega | (simp only [List.length_append, List.length_cons, List.length_nil]; omega))
            first | refine HFnF.mk (js) ?_ | refine CallSF.mk (js) ?_ | refine HFnF.mkAt (js) ?_ | refine CallSF.mk (FnAt.fn0 (js)) ?_
            simp (maxSteps := 1000000) -dsimp -implicitDefEqProofs only [go_sem, ↓reduceIte, keep25, ib25, mk25, Tryd.f25]
            repeat' (with_reducible first | intro _ | refine And.intro ?_ ?_)
            all_goals try (first | omega | (simp only [List.length_append, List.length_cons, List.length_nil]; omega))
            first | refine HFnF.mk (j1) ?_ | refine CallSF.mk (j1) ?_ | refine HFnF.mkAt (j1) ?_ | refine CallSF.mk (FnAt.fn0 (j1)) ?_
            simp (maxSteps := 1000000) -dsimp -implicitDefEqProofs only [go_sem, ↓reduceIte, keep25, ib25, mk25, Tryd.f25]
            repeat' (with_reducible first | intro _ | refine And.intro ?_ ?_)
            all_goals try (first | omega | (simp only [List.length_append, List.length_cons, List.length_nil]; omega))
            all_goals simp
      · rw [if_neg k1, if_neg k2, if_neg kb] at htxt
        have hh := headT_len hp h (by omega)
        rcases (by omega : e.fKind = 7 ∨ e.fKind = 8 ∨ e.fKind = 9 ∨ e.fKind = 10 ∨ e.fKind = 11) with kq | kq | kq | kq | kq
        · have hT : headT p e.fKind e.fNum e.fPick e.fCount = [110, 101, 103] := by rw [headT, if_pos kq]
          refine fn0F 140 keep25 ib25 mk25 mix Tryd.func25 rfl (by kernel_rfl) (by simp) fun h => ?_
          simp (maxSteps := 1000000) -dsimp -implicitDefEqProofs only [go_sem, ↓reduceIte, keep25, ib25, mk25, Tryd.f25, kq]
          rw [hT] at htxt
          refine loopF (keep := keep25) (ib := ib25) (mk := mk25) mix (by kernel_rfl) (fun k : Nat => [(0, .ip 1 [[sls 3 DFunc.c p.fFuncs]] 0 0), (1, .ip 5 [[I 7, I e.fNum, I e.fPick, I e.fCount, sls 5 DExpr.c e.fKids]] 0 0), (5, .str ([110, 101, 103] ++ 40 :: semis ((e.fKids.map (DExpr.txt p)).take k))), (6, I k)]) (fun _ => h) (fun k => k ≤ e.fKids.length) (fun k => e.fKids.length - k) 0 (by simp [SatL, tget, Heap.le_refl, kq, semis]) ?_
          intro k hk
          have hpre := hall k
          rcases Nat.lt_or_ge k e.fKids.length with hlt | hge
          · have ik := (ih k hlt).sub (xs := [.ip 1 [[sls 3 DFunc.c p.fFuncs]] 0 0, .ip 5 (e.fKids.map DExpr.c) k 0]) (.cons (.refl _) (.cons (Sub.ip (map_get hlt) (by simp)) .nil))
            have hkk := hkl k hlt
            have hnx := semis_next (p := p) hlt
            simp (maxSteps := 1000000) -dsimp -implicitDefEqProofs only [go_sem, ↓reduceIte, keep25, ib25, mk25, Tryd.f25, kq]
            refine fun _ => ⟨fun _ => ⟨fun hk0 => ⟨by first | omega | (simp only [List.length_append, List.length_cons, List.length_nil]; omega), hlt, ?_⟩, fun hk0 => ⟨hlt, ?_⟩⟩, fun q => absurd hlt q⟩
            · first | refine HFnF.mk (ik) ?_ | refine CallSF.mk (ik) ?_ | refine HFnF.mkAt (ik) ?_ | refine CallSF.mk (FnAt.fn0 (ik)) ?_
              simp (maxSteps := 1000000) -dsimp -implicitDefEqProofs only [go_sem, ↓reduceIte, keep25, ib25, mk25, Tryd.f25]
              refine ⟨by first | omega | (simp only [List.length_append, List.length_cons, List.length_nil]; omega), k + 1, ⟨?_, IntWalk.i64_in _ (by omega)⟩, by omega, by omega⟩
              rw [hnx.1 (by omega)]
              simp
            · first | refine HFnF.mk (ik) ?_ | refine CallSF.mk (ik) ?_ | refine HFnF.mkAt (ik) ?_ | refine CallSF.mk (FnAt.fn0 (ik)) ?_
              simp (maxSteps := 1000000) -dsimp -implicitDefEqProofs only [go_sem, ↓reduceIte, keep25, ib25, mk25, Tryd.f25]
              refine ⟨by first | omega | (simp only [List.length_append, List.length_cons, List.length_nil]; omega), k + 1, ⟨?_, IntWalk.i64_in _ (by omega)⟩, by omega, by omega⟩
              rw [hnx.2 (by omega)]
              obtain rfl : k = 0 := by omega
              simp [semis]
          · have hk' : k = e.fKids.length := by omega
            rw [hk', List.take_of_length_le (by simp)] at hpre ⊢
            have hnk : ¬ e.fKids.length < e.fKids.length := Nat.lt_irrefl _
            simp (maxSteps := 1000000) -dsimp -implicitDefEqProofs only [go_sem, ↓reduceIte, keep25, ib25, mk25, Tryd.f25, kq, hnk]
            exact fun _ => ⟨by first | omega | (simp only [List.length_append, List.length_cons, List.length_nil]; omega), by rw [htxt]; simp⟩
        · have hT : headT p e.fKind e.fNum e.fPick e.fCount = [105, 102] := by rw [headT, if_neg (by omega), if_pos kq]
          refine fn0F 140 keep25 ib25 mk25 mix Tryd.func25 rfl (by kernel_rfl) (by simp) fun h => ?_
          simp (maxSteps := 1000000) -dsimp -implicitDefEqProofs only [go_sem, ↓reduceIte, keep25, ib25, mk25, Tryd.f25, kq]
          rw [hT] at htxt
          refine loopF (keep := keep25) (ib := ib25) (mk := mk25) mix (by kernel_rfl) (fun k : Nat => [(0, .ip 1 [[sls 3 DFunc.c p.fFuncs]] 0 0), (1, .ip 5 [[I 8, I e.fNum, I e.fPick, I e.fCount, sls 5 DExpr.c e.fKids]] 0 0), (5, .str ([105, 102] ++ 40 :: semis ((e.fKids.map (DExpr.txt p)).take k))), (6, I k)]) (fun _ => h) (fun k => k ≤ e.fKids.length) (fun k => e.fKids.length - k) 0 (by simp [SatL, tget, Heap.le_refl, kq, semis]) ?_
          intro k hk
          have hpre := hall k
          rcases Nat.lt_or_ge k e.fKids.length with hlt | hge
          · have ik := (ih k hlt).sub (xs := [.ip 1 [[sls 3 DFunc.c p.fFuncs]] 0 0, .ip 5 (e.fKids.map DExpr.c) k 0]) (.cons (.refl _) (.cons (Sub.ip (map_get hlt) (by simp)) .nil))
            have hkk := hkl k hlt
            have hnx := semis_next (p := p) hlt
            simp (maxSteps := 1000000) -dsimp -implicitDefEqProofs only [go_sem, ↓reduceIte, keep25, ib25, mk25, Tryd.f25, kq]
            refine fun _ => ⟨fun _ => ⟨fun hk0 => ⟨by first | omega | (simp only [List.length_append, List.length_cons, List.length_nil]; omega), hlt, ?_⟩, fun hk0 => ⟨hlt, ?_⟩⟩, fun q => absurd hlt q⟩
            · first | refine HFnF.mk (ik) ?_ | refine CallSF.mk (ik) ?_ | refine HFnF.mkAt (ik) ?_ | refine CallSF.mk (FnAt.fn0 (ik)) ?_
              simp (maxSteps := 1000000) -dsimp -implicitDefEqProofs only [go_sem, ↓reduceIte, keep25, ib25, mk25, Tryd.f25]
              refine ⟨by first | omega | (simp only [List.length_append, List.length_cons, List.length_nil]; omega), k + 1, ⟨?_, IntWalk.i64_in _ (by omega)⟩, by omega, by omega⟩
              rw [hnx.1 (by omega)]
              simp
            · first | refine HFnF.mk (ik) ?_ | refine CallSF.mk (ik) ?_ | refine HFnF.mkAt (ik) ?_ | refine CallSF.mk (FnAt.fn0 (ik)) ?_
              simp (maxSteps := 1000000) -dsimp -implicitDefEqProofs only [go_sem, ↓reduceIte, keep25, ib25, mk25, Tryd.f25]
              refine ⟨by first | omega | (simp only [List.length_append, List.length_cons, List.length_nil]; omega), k + 1, ⟨?_, IntWalk.i64_in _ (by omega)⟩, by omega, by omega⟩
              rw [hnx.2 (by omega)]
              obtain rfl : k = 0 := by omega
              simp [semis]
          · have hk' : k = e.fKids.length := by omega
            rw [hk', List.take_of_length_le (by simp)] at hpre ⊢
            have hnk : ¬ e.fKids.length < e.fKids.length := Nat.lt_irrefl _
            simp (maxSteps := 1000000) -dsimp -implicitDefEqProofs only [go_sem, ↓reduceIte, keep25, ib25, mk25, Tryd.f25, kq, hnk]
            exact fun _ => ⟨by first | omega | (simp only [List.length_append, List.length_cons, List.length_nil]; omega), by rw [htxt]; simp⟩
        · have hT : headT p e.fKind e.fNum e.fPick e.fCount = [108, 101, 116] := by rw [headT, if_neg (by omega), if_neg (by omega), if_pos kq]
          refine fn0F 140 keep25 ib25 mk25 mix Tryd.func25 rfl (by kernel_rfl) (by simp) fun h => ?_
          simp (maxSteps := 1000000) -dsimp -implicitDefEqProofs only [go_sem, ↓reduceIte, keep25, ib25, mk25, Tryd.f25, kq]
          rw [hT] at htxt
          refine loopF (keep := keep25) (ib := ib25) (mk := mk25) mix (by kernel_rfl) (fun k : Nat => [(0, .ip 1 [[sls 3 DFunc.c p.fFuncs]] 0 0), (1, .ip 5 [[I 9, I e.fNum, I e.fPick, I e.fCount, sls 5 DExpr.c e.fKids]] 0 0), (5, .str ([108, 101, 116] ++ 40 :: semis ((e.fKids.map (DExpr.txt p)).take k))), (6, I k)]) (fun _ => h) (fun k => k ≤ e.fKids.length) (fun k => e.fKids.length - k) 0 (by simp [SatL, tget, Heap.le_refl, kq, semis]) ?_
          intro k hk
          have hpre := hall k
          rcases Nat.lt_or_ge k e.fKids.length with hlt | hge
          · have ik := (ih k hlt).sub (xs := [.ip 1 [[sls 3 DFunc.c p.fFuncs]] 0 0, .ip 5 (e.fKids.map DExpr.c) k 0]) (.cons (.refl _) (.cons (Sub.ip (map_get hlt) (by simp)) .nil))
            have hkk := hkl k hlt
            have hnx := semis_next (p := p) hlt
            simp (maxSteps := 1000000) -dsimp -implicitDefEqProofs only [go_sem, ↓reduceIte, keep25, ib25, mk25, Tryd.f25, kq]
            refine fun _ => ⟨fun _ => ⟨fun hk0 => ⟨by first | omega | (simp only [List.length_append, List.length_cons, List.length_nil]; omega), hlt, ?_⟩, fun hk0 => ⟨hlt, ?_⟩⟩, fun q => absurd hlt q⟩
            · first | refine HFnF.mk (ik) ?_ | refine CallSF.mk (ik) ?_ | refine HFnF.mkAt (ik) ?_ | refine CallSF.mk (FnAt.fn0 (ik)) ?_
              simp (maxSteps := 1000000) -dsimp -implicitDefEqProofs only [go_sem, ↓reduceIte, keep25, ib25, mk25, Tryd.f25]
              refine ⟨by first | omega | (simp only [List.length_append, List.length_cons, List.length_nil]; omega), k + 1, ⟨?_, IntWalk.i64_in _ (by omega)⟩, by omega, by omega⟩
              rw [hnx.1 (by omega)]
              simp
            · first | refine HFnF.mk (ik) ?_ | refine CallSF.mk (ik) ?_ | refine HFnF.mkAt (ik) ?_ | refine CallSF.mk (FnAt.fn0 (ik)) ?_
              simp (maxSteps := 1000000) -dsimp -implicitDefEqProofs only [go_sem, ↓reduceIte, keep25, ib25, mk25, Tryd.f25]
              refine ⟨by first | omega | (simp only [List.length_append, List.length_cons, List.length_nil]; omega), k + 1, ⟨?_, IntWalk.i64_in _ (by omega)⟩, by omega, by omega⟩
              rw [hnx.2 (by omega)]
              obtain rfl : k = 0 := by omega
              simp [semis]
          · have hk' : k = e.fKids.length := by omega
            rw [hk', List.take_of_length_le (by simp)] at hpre ⊢
            have hnk : ¬ e.fKids.length < e.fKids.length := Nat.lt_irrefl _
            simp (maxSteps := 1000000) -dsimp -implicitDefEqProofs only [go_sem, ↓reduceIte, keep25, ib25, mk25, Tryd.f25, kq, hnk]
            exact fun _ => ⟨by first | omega | (simp only [List.length_append, List.length_cons, List.length_nil]; omega), by rw [htxt]; simp⟩
        · obtain ⟨f, ef, en, hfl, hn0, hn1, hi, hcn⟩ := h.call hp (.inl kq)
          have hT : headT p e.fKind e.fNum e.fPick e.fCount = f.fName ++ [46] ++ Go.Lib.itoa e.fPick := by rw [headT, if_neg (by omega), if_neg (by omega), if_neg (by omega), if_pos kq, en]; simp
          have hi2 := itoa_num hi
          refine fn0F 140 keep25 ib25 mk25 mix Tryd.func25 rfl (by kernel_rfl) (by simp) fun h => ?_
          simp (maxSteps := 1000000) -dsimp -implicitDefEqProofs only [go_sem, ↓reduceIte, keep25, ib25, mk25, Tryd.f25, kq, ef, DFunc.c_eq]
          refine ⟨hn0, hn1, by omega, ?_⟩
          first | refine HFnF.mk (Decimal (e.fPick.toNat + 1) e.fPick hi.1 (by have := hi.1; omega) (by have := hi.2; omega)) ?_ | refine CallSF.mk (Decimal (e.fPick.toNat + 1) e.fPick hi.1 (by have := hi.1; omega) (by have := hi.2; omega)) ?_ | refine HFnF.mkAt (Decimal (e.fPick.toNat + 1) e.fPick hi.1 (by have := hi.1; omega) (by have := hi.2; omega)) ?_ | refine CallSF.mk (FnAt.fn0 (Decimal (e.fPick.toNat + 1) e.fPick hi.1 (by have := hi.1; omega) (by have := hi.2; omega))) ?_
          simp (maxSteps := 1000000) -dsimp -implicitDefEqProofs only [go_sem, ↓reduceIte, keep25, ib25, mk25, Tryd.f25]
          repeat' (with_reducible first | intro _ | refine And.intro ?_ ?_)
          all_goals try (first | omega | (simp only [List.length_append, List.length_cons, List.length_nil]; omega))
          rw [hT] at htxt
          refine loopF (keep := keep25) (ib := ib25) (mk := mk25) mix (by kernel_rfl) (fun k : Nat => [(0, .ip 1 [[sls 3 DFunc.c p.fFuncs]] 0 0), (1, .ip 5 [[I 10, I e.fNum, I e.fPick, I e.fCount, sls 5 DExpr.c e.fKids]] 0 0), (5, .str ((f.fName ++ [46] ++ Go.Lib.itoa e.fPick) ++ 40 :: semis ((e.fKids.map (DExpr.txt p)).take k))), (6, I k)]) (fun _ => h) (fun k => k ≤ e.fKids.length) (fun k => e.fKids.length - k) 0 (by simp [SatL, tget, Heap.le_refl, kq, semis]) ?_
          intro k hk
          have hpre := hall k
          rcases Nat.lt_or_ge k e.fKids.length with hlt | hge
          · have ik := (ih k hlt).sub (xs := [.ip 1 [[sls 3 DFunc.c p.fFuncs]] 0 0, .ip 5 (e.fKids.map DExpr.c) k 0]) (.cons (.refl _) (.cons (Sub.ip (map_get hlt) (by simp)) .nil))
            have hkk := hkl k hlt
            have hnx := semis_next (p := p) hlt
            simp (maxSteps := 1000000) -dsimp -implicitDefEqProofs only [go_sem, ↓reduceIte, keep25, ib25, mk25, Tryd.f25, kq]
            refine fun _ => ⟨fun _ => ⟨fun hk0 => ⟨by first | omega | (simp only [List.length_append, List.length_cons, List.length_nil]; omega), hlt, ?_⟩, fun hk0 => ⟨hlt, ?_⟩⟩, fun q => absurd hlt q⟩
            · first | refine HFnF.mk (ik) ?_ | refine CallSF.mk (ik) ?_ | refine HFnF.mkAt (ik) ?_ | refine CallSF.mk (FnAt.fn0 (ik)) ?_
              simp (maxSteps := 1000000) -dsimp -implicitDefEqProofs only [go_sem, ↓reduceIte, keep25, ib25, mk25, Tryd.f25]
              refine ⟨by first | omega | (simp only [List.length_append, List.length_cons, List.length_nil]; omega), k + 1, ⟨?_, IntWalk.i64_in _ (by omega)⟩, by omega, by omega⟩
              rw [hnx.1 (by omega)]
              simp
            · first | refine HFnF.mk (ik) ?_ | refine CallSF.mk (ik) ?_ | refine HFnF.mkAt (ik) ?_ | refine CallSF.mk (FnAt.fn0 (ik)) ?_
              simp (maxSteps := 1000000) -dsimp -implicitDefEqProofs only [go_sem, ↓reduceIte, keep25, ib25, mk25, Tryd.f25]
              refine ⟨by first | omega | (simp only [List.length_append, List.length_cons, List.length_nil]; omega), k + 1, ⟨?_, IntWalk.i64_in _ (by omega)⟩, by omega, by omega⟩
              rw [hnx.2 (by omega)]
              obtain rfl : k = 0 := by omega
              simp [semis]
          · have hk' : k = e.fKids.length := by omega
            rw [hk', List.take_of_length_le (by simp)] at hpre ⊢
            have hnk : ¬ e.fKids.length < e.fKids.length := Nat.lt_irrefl _
            simp (maxSteps := 1000000) -dsimp -implicitDefEqProofs only [go_sem, ↓reduceIte, keep25, ib25, mk25, Tryd.f25, kq, hnk]
            exact fun _ => ⟨by first | omega | (simp only [List.length_append, List.length_cons, List.length_nil]; omega), by rw [htxt]; simp⟩
        · obtain ⟨f, ef, en, hfl, hn0, hn1, hi, hcn⟩ := h.call hp (.inr kq)
          have hT : headT p e.fKind e.fNum e.fPick e.fCount = f.fName ++ [46] ++ Go.Lib.itoa e.fPick ++ [94] ++ Go.Lib.itoa e.fCount := by rw [headT, if_neg (by omega), if_neg (by omega), if_neg (by omega), if_neg (by omega), en]; simp
          have hi2 := itoa_num hi
          have hc2 := itoa_num hcn
          refine fn0F 140 keep25 ib25 mk25 mix Tryd.func25 rfl (by kernel_rfl) (by simp) fun h => ?_
          simp (maxSteps := 1000000) -dsimp -implicitDefEqProofs only [go_sem, ↓reduceIte, keep25, ib25, mk25, Tryd.f25, kq, ef, DFunc.c_eq]
          refine ⟨hn0, hn1, by omega, ?_⟩
          first | refine HFnF.mk (Decimal (e.fPick.toNat + 1) e.fPick hi.1 (by have := hi.1; omega) (by have := hi.2; omega)) ?_ | refine CallSF.mk (Decimal (e.fPick.toNat + 1) e.fPick hi.1 (by have := hi.1; omega) (by have := hi.2; omega)) ?_ | refine HFnF.mkAt (Decimal (e.fPick.toNat + 1) e.fPick hi.1 (by have := hi.1; omega) (by have := hi.2; omega)) ?_ | refine CallSF.mk (FnAt.fn0 (Decimal (e.fPick.toNat + 1) e.fPick hi.1 (by have := hi.1; omega) (by have := hi.2; omega))) ?_
          simp (maxSteps := 1000000) -dsimp -implicitDefEqProofs only [go_sem, ↓reduceIte, keep25, ib25, mk25, Tryd.f25]
          repeat' (with_reducible first | intro _ | refine And.intro ?_ ?_)
          all_goals try (first | omega | (simp only [List.length_append, List.length_cons, List.length_nil]; omega))
          first | refine HFnF.mk (Decimal (e.fCount.toNat + 1) e.fCount hcn.1 (by have := hcn.1; omega) (by have := hcn.2; omega)) ?_ | refine CallSF.mk (Decimal (e.fCount.toNat + 1) e.fCount hcn.1 (by have := hcn.1; omega) (by have := hcn.2; omega)) ?_ | refine HFnF.mkAt (Decimal (e.fCount.toNat + 1) e.fCount hcn.1 (by have := hcn.1; omega) (by have := hcn.2; omega)) ?_ | refine CallSF.mk (FnAt.fn0 (Decimal (e.fCount.toNat + 1) e.fCount hcn.1 (by have := hcn.1; omega) (by have := hcn.2; omega))) ?_
          simp (maxSteps := 1000000) -dsimp -implicitDefEqProofs only [go_sem, ↓reduceIte, keep25, ib25, mk25, Tryd.f25]
          repeat' (with_reducible first | intro _ | refine And.intro ?_ ?_)
          all_goals try (first | omega | (simp only [List.length_append, List.length_cons, List.length_nil]; omega))
          rw [hT] at htxt
          refine loopF (keep := keep25) (ib := ib25) (mk := mk25) mix (by kernel_rfl) (fun k : Nat => [(0, .ip 1 [[sls 3 DFunc.c p.fFuncs]] 0 0), (1, .ip 5 [[I 11, I e.fNum, I e.fPick, I e.fCount, sls 5 DExpr.c e.fKids]] 0 0), (5, .str ((f.fName ++ [46] ++ Go.Lib.itoa e.fPick ++ [94] ++ Go.Lib.itoa e.fCount) ++ 40 :: semis ((e.fKids.map (DExpr.txt p)).take k))), (6, I k)]) (fun _ => h) (fun k => k ≤ e.fKids.length) (fun k => e.fKids.length - k) 0 (by simp [SatL, tget, Heap.le_refl, kq, semis]) ?_
          intro k hk
          have hpre := hall k
          rcases Nat.lt_or_ge k e.fKids.length with hlt | hge
          · have ik := (ih k hlt).sub (xs := [.ip 1 [[sls 3 DFunc.c p.fFuncs]] 0 0, .ip 5 (e.fKids.map DExpr.c) k 0]) (.cons (.refl _) (.cons (Sub.ip (map_get hlt) (by simp)) .nil))
            have hkk := hkl k hlt
            have hnx := semis_next (p := p) hlt
            simp (maxSteps := 1000000) -dsimp -implicitDefEqProofs only [go_sem, ↓reduceIte, keep25, ib25, mk25, Tryd.f25, kq]
            refine fun _ => ⟨fun _ => ⟨fun hk0 => ⟨by first | omega | (simp only [List.length_append, List.length_cons, List.length_nil]; omega), hlt, ?_⟩, fun hk0 => ⟨hlt, ?_⟩⟩, fun q => absurd hlt q⟩
            · first | refine HFnF.mk (ik) ?_ | refine CallSF.mk (ik) ?_ | refine HFnF.mkAt (ik) ?_ | refine CallSF.mk (FnAt.fn0 (ik)) ?_
              simp (maxSteps := 1000000) -dsimp -implicitDefEqProofs only [go_sem, ↓reduceIte, keep25, ib25, mk25, Tryd.f25]
              refine ⟨by first | omega | (simp only [List.length_append, List.length_cons, List.length_nil]; omega), k + 1, ⟨?_, IntWalk.i64_in _ (by omega)⟩, by omega, by omega⟩
              rw [hnx.1 (by omega)]
              simp
            · first | refine HFnF.mk (ik) ?_ | refine CallSF.mk (ik) ?_ | refine HFnF.mkAt (ik) ?_ | refine CallSF.mk (FnAt.fn0 (ik)) ?_
              simp (maxSteps := 1000000) -dsimp -implicitDefEqProofs only [go_sem, ↓reduceIte, keep25, ib25, mk25, Tryd.f25]
              refine ⟨by first | omega | (simp only [List.length_append, List.length_cons, List.length_nil]; omega), k + 1, ⟨?_, IntWalk.i64_in _ (by omega)⟩, by omega, by omega⟩
              rw [hnx.2 (by omega)]
              obtain rfl : k = 0 := by omega
              simp [semis]
          · have hk' : k = e.fKids.length := by omega
            rw [hk', List.take_of_length_le (by simp)] at hpre ⊢
            have hnk : ¬ e.fKids.length < e.fKids.length := Nat.lt_irrefl _
            simp (maxSteps := 1000000) -dsimp -implicitDefEqProofs only [go_sem, ↓reduceIte, keep25, ib25, mk25, Tryd.f25, kq, hnk]
            exact fun _ => ⟨by first | omega | (simp only [List.length_append, List.length_cons, List.length_nil]; omega), by rw [htxt]; simp⟩
termination_by e.s
open Go.Proofs
set_option linter.unusedVariables false
set_option linter.unusedSimpArgs false
open Go.Lib
/-- What a builder holds. -/
def bldQ (l : List UInt8) (b : Nat) (S : Nat → Prop) (w : World) : Prop :=
  ∃ p v, (p = .pointer none ∨ p = .pointer (some ⟨b, 0, none⟩)) ∧ w.heap[b]? = some (.cells #[p, v] 72 (0, 0)) ∧ w.ownsRowF 0 5 1 v l.length (byteCells l) ∧ v.ownBlock ≠ some b ∧ (∀ g, v.ownBlock = some g → S g) ∧ (l = [] → v = .slice none 0 0)
theorem bldQ_ok (l : List UInt8) : AbsOK (bldQ l) := fun b S w0 w hq hb ha => by
  obtain ⟨p, v, hp, hc, ho, hn, hs, hl⟩ := hq
  refine ⟨p, v, hp, (ha b hb).trans hc, ⟨ho.1, ?_⟩, hn, hs, hl⟩
  rcases ho.2 with q | ⟨g, cap, cur, fz, rfl, h1, h2, h3⟩
  · exact .inl q
  · exact .inr ⟨g, cap, cur, fz, rfl, h1, (ha g (hs g (by simp [Value.ownBlock]))).trans h2, h3⟩
abbrev bld (l : List UInt8) : HObj := .abs (bldQ l)
theorem bld_fresh {h : Heap} {n : Nat} (hn : h n = some (.raw 72 #[.pointer none, .slice none 0 0])) : (upd h n (bld [])).wk h :=
  Heap.wk_abs hn fun b S w hb hc => ⟨_, _, .inl rfl, hc, ⟨rfl, .inl ⟨rfl, rfl⟩⟩, by simp [Value.ownBlock], fun g hg => by simp [Value.ownBlock] at hg, fun _ => rfl⟩
theorem bld_fr {l' : List UInt8} {b : Nat} {S : Nat → Prop} {w w' : World} {v v' : Value} (hS : S b) (hs : ∀ g, v.ownBlock = some g → S g) (hb' : w'.heap[b]? = some (.cells #[.pointer (some ⟨b, 0, none⟩), v'] 72 (0, 0)))
    (ho' : w'.ownsRowF 0 5 1 v' l'.length (byteCells l')) (hne : v'.ownBlock ≠ some b) (hnew : ∀ g, v'.ownBlock = some g → v.ownBlock = some g ∨ w.heap.size ≤ g) (F : GbFr w w' b v.ownBlock) (hl' : l' = [] → v' = .slice none 0 0) :
    ∃ S' : Nat → Prop, S' b ∧ bldQ l' b S' w' ∧ AbsFr w w' S S' := by
  refine ⟨fun c => c = b ∨ v'.ownBlock = some c, .inl rfl, ⟨_, v', .inr rfl, hb', ho', hne, fun g hg => .inr hg, hl'⟩, fun c hc => ?_, fun c hc => ?_, F.size, fun c hc hn => F.block c hc (fun e => hn (e ▸ hS)) (fun e => hn (hs c e)), F.shape, F.os, F.out⟩
  · rcases hc with rfl | hc
    · exact .inl hS
    · exact (hnew c hc).imp (hs c) id
  · rcases hc with rfl | hc
    · exact (Array.getElem?_eq_some_iff.1 hb').1
    · exact (ho'.lt c hc).2
theorem fn_bld {P : Program} {f : FuncId} {n : Nat} {h : Heap} {l l' : List UInt8} {xs : List HVal} {r : HVal} (hc : callable P f = true) (hn : h n = some (bld l))
    (H : ∀ (E : Env) (g : Heap) (b : Nat) (w : World) (vs : List Value) (p v : Value), RepL E g w xs vs → (p = .pointer none ∨ p = .pointer (some ⟨b, 0, none⟩)) → w.heap[b]? = some (.cells #[p, v] 72 (0, 0)) → w.ownsRowF 0 5 1 v l.length (byteCells l) → v.ownBlock ≠ some b → (l = [] → v = .slice none 0 0) →
      Calls P f (Value.pointer (some ⟨b, 0, none⟩) :: vs).toArray w fun e w' => ∃ u, e = .returned u ∧ (∀ E' h' w', Rep E' h' w' r u) ∧ ∃ v', w'.heap[b]? = some (.cells #[.pointer (some ⟨b, 0, none⟩), v'] 72 (0, 0)) ∧
        w'.ownsRowF 0 5 1 v' l'.length (byteCells l') ∧ v'.ownBlock ≠ some b ∧ (∀ g, v'.ownBlock = some g → v.ownBlock = some g ∨ w.heap.size ≤ g) ∧ GbFr w w' b v.ownBlock ∧ (l' = [] → v' = .slice none 0 0)) :
    HFn P f (.op n 2 0 0 :: xs) h fun r' h' => r' = r ∧ h' = upd h n (bld l') :=
  fn_abs hc (bldQ_ok l) hn fun E g b S w vs rl hq hS hlt => by
    obtain ⟨p, v, hp, hb, ho, hne, hs, hl⟩ := hq
    refine (H E g b w vs p v rl hp hb ho hne hl).mono ?_
    rintro e w' ⟨u, rfl, hu, v', h1, h2, h3, h4, h5, h6⟩
    obtain ⟨S', a1, a2, a3⟩ := bld_fr hS hs h1 h2 h3 h4 h5 h6
    exact ⟨u, S', rfl, hu, a1, a2, a3⟩
theorem RepL.tupX {E : Env} {h : Heap} {w : World} {xs : List HVal} {vs : List Value} (r : RepL E h w xs vs) : Rep E h w (.tup xs) (.tuple vs.toArray) := .tup _ _ r.length r.get
theorem writeString (l s : List UInt8) (hlen : l.length + s.length ≤ 140737488355328) {n : Nat} {h : Heap} (hn : h n = some (bld l)) : HFn Tryd.prog 34 [.op n 2 0 0, .str s] h fun r h' => r = .tup [I s.length, .nilif] ∧ h' = upd h n (bld (l ++ s)) :=
  fn_bld (by kernel_rfl) hn fun E g b w vs p v rl hp hb ho hne hl => by
    match vs, rl with
    | [v1], rl =>
      obtain ⟨r1, _⟩ := rl
      obtain ⟨rfl, h1⟩ := rep_str r1
      refine (gb_ws b l s w p v hp hb ho hne hlen).mono ?_
      rintro e w' ⟨rfl, v', h1, h2, h3, h4, h5, h6⟩
      exact ⟨_, rfl, fun E' h' w' => RepL.tupX (xs := [_, _]) (vs := [_, _]) ⟨.int _ _, .nilif, trivial⟩, v', h1, h2, h3, h4, h5, fun q => h6 q (hl (List.append_eq_nil_iff.1 q).1)⟩
theorem writeByte (l : List UInt8) (c : UInt8) (hlen : l.length + 1 ≤ 140737488355328) {n : Nat} {h : Heap} (hn : h n = some (bld l)) : HFn Tryd.prog 37 [.op n 2 0 0, .int .u8 c.toNat] h fun r h' => r = .nilif ∧ h' = upd h n (bld (l ++ [c])) :=
  fn_bld (by kernel_rfl) hn fun E g b w vs p v rl hp hb ho hne hl => by
    match vs, rl with
    | [v1], rl =>
      obtain ⟨r1, _⟩ := rl
      rw [rep_int r1]
      refine (gb_wb b l c w p v hp hb ho hne hlen).mono ?_
      rintro e w' ⟨rfl, v', h1, h2, h3, h4, h5, h6⟩
      exact ⟨_, rfl, fun E' h' w' => .nilif, v', h1, h2, h3, h4, h5, fun q => by simp at q⟩
/-- The text of a builder, which is given up. -/
theorem builderString (l : List UInt8) (hlen : l.length ≤ maxLen) {n : Nat} {h : Heap} (hn : h n = some (bld l)) : HFn Tryd.prog 38 [.op n 2 0 0] h fun r h' => r = .str l ∧ h' = upd h n (.abs fun _ _ _ => True) :=
  fn_abs (by kernel_rfl) (bldQ_ok l) hn fun E g b S w vs rl hq hS hlt => by
    match vs, rl with
    | [], _ =>
      obtain ⟨p, v, hp, hb, ho, hne, hs, hl⟩ := hq
      have mk : ∀ w' : World, GbFr w w' b v.ownBlock → AbsFr w w' S S := fun w' F => ⟨fun c hc => .inl hc, fun c hc => Nat.lt_of_lt_of_le (hlt c hc) F.size, F.size, fun c hc hn => F.block c hc (fun e => hn (e ▸ hS)) (fun e => hn (hs c e)), F.shape, F.os, F.out⟩
      by_cases h0 : l = []
      · subst h0
        obtain rfl := hl rfl
        refine (gb_str_nil b w p hb).mono ?_
        rintro e w' ⟨rfl, rfl⟩
        exact ⟨_, S, rfl, fun _ _ _ => .str [] (Nat.zero_le _), hS, trivial, mk _ ⟨Nat.le_refl _, fun _ _ _ _ => rfl, fun _ _ => rfl, rfl, rfl⟩⟩
      · refine (gb_str b l w p v hb ho h0).mono ?_
        rintro e w' ⟨rfl, F⟩
        exact ⟨_, S, rfl, fun _ _ _ => .str l hlen, hS, trivial, mk _ F⟩
open Go.Proofs
set_option linter.unusedVariables false
set_option linter.unusedSimpArgs false
def keep76 : List Nat := [0, 2, 4]
def ib76 : List Nat := []
def mk76 : Marks := fun _ => ([], .nil, [])
theorem signI (k : Int) (hk : 3 ≤ k ∧ k ≤ 6) : Fn0 Tryd.prog 76 [I k] (.int .u8 (signB k).toNat) := by
  rcases (by omega : k = 3 ∨ k = 4 ∨ k = 5 ∨ k = 6) with rfl | rfl | rfl | rfl
  · refine fn0F 8 keep76 ib76 mk76 mix Tryd.func76 rfl (by kernel_rfl) (by simp) fun h => ?_
    simp (maxSteps := 1000000) -dsimp -implicitDefEqProofs only [go_sem, ↓reduceIte, keep76, ib76, mk76, Tryd.f76]
    first | refine HFnF.mk (within 3 3 6) ?_ | refine CallSF.mk (within 3 3 6) ?_ | refine HFnF.mkAt (within 3 3 6) ?_ | refine CallSF.mk (FnAt.fn0 (within 3 3 6)) ?_
    simp (maxSteps := 1000000) -dsimp -implicitDefEqProofs only [go_sem, ↓reduceIte, keep76, ib76, mk76, Tryd.f76]
    have w0 : IntKind.i64.wrap ((3 : Int) - 3) = 0 := rfl
    have w1 : ([43, 45, 42, 47] : List UInt8)[Int.toNat 0]? = some 43 := rfl
    simp (maxSteps := 1000000) -dsimp -implicitDefEqProofs only [go_sem, ↓reduceIte, keep76, ib76, mk76, Tryd.f76, w0, w1]
    repeat' (with_reducible first | intro _ | refine And.intro ?_ ?_)
    all_goals first
      | decide
      | rfl
  · refine fn0F 8 keep76 ib76 mk76 mix Tryd.func76 rfl (by kernel_rfl) (by simp) fun h => ?_
    simp (maxSteps := 1000000) -dsimp -implicitDefEqProofs only [go_sem, ↓reduceIte, keep76, ib76, mk76, Tryd.f76]
    first | refine HFnF.mk (within 4 3 6) ?_ | refine CallSF.mk (within 4 3 6) ?_ | refine HFnF.mkAt (within 4 3 6) ?_ | refine CallSF.mk (FnAt.fn0 (within 4 3 6)) ?_
    simp (maxSteps := 1000000) -dsimp -implicitDefEqProofs only [go_sem, ↓reduceIte, keep76, ib76, mk76, Tryd.f76]
    have w0 : IntKind.i64.wrap ((4 : Int) - 3) = 1 := rfl
    have w1 : ([43, 45, 42, 47] : List UInt8)[Int.toNat 1]? = some 45 := rfl
    simp (maxSteps := 1000000) -dsimp -implicitDefEqProofs only [go_sem, ↓reduceIte, keep76, ib76, mk76, Tryd.f76, w0, w1]
    repeat' (with_reducible first | intro _ | refine And.intro ?_ ?_)
    all_goals first
      | decide
      | rfl
  · refine fn0F 8 keep76 ib76 mk76 mix Tryd.func76 rfl (by kernel_rfl) (by simp) fun h => ?_
    simp (maxSteps := 1000000) -dsimp -implicitDefEqProofs only [go_sem, ↓reduceIte, keep76, ib76, mk76, Tryd.f76]
    first | refine HFnF.mk (within 5 3 6) ?_ | refine CallSF.mk (within 5 3 6) ?_ | refine HFnF.mkAt (within 5 3 6) ?_ | refine CallSF.mk (FnAt.fn0 (within 5 3 6)) ?_
    simp (maxSteps := 1000000) -dsimp -implicitDefEqProofs only [go_sem, ↓reduceIte, keep76, ib76, mk76, Tryd.f76]
    have w0 : IntKind.i64.wrap ((5 : Int) - 3) = 2 := rfl
    have w1 : ([43, 45, 42, 47] : List UInt8)[Int.toNat 2]? = some 42 := rfl
    simp (maxSteps := 1000000) -dsimp -implicitDefEqProofs only [go_sem, ↓reduceIte, keep76, ib76, mk76, Tryd.f76, w0, w1]
    repeat' (with_reducible first | intro _ | refine And.intro ?_ ?_)
    all_goals first
      | decide
      | rfl
  · refine fn0F 8 keep76 ib76 mk76 mix Tryd.func76 rfl (by kernel_rfl) (by simp) fun h => ?_
    simp (maxSteps := 1000000) -dsimp -implicitDefEqProofs only [go_sem, ↓reduceIte, keep76, ib76, mk76, Tryd.f76]
    first | refine HFnF.mk (within 6 3 6) ?_ | refine CallSF.mk (within 6 3 6) ?_ | refine HFnF.mkAt (within 6 3 6) ?_ | refine CallSF.mk (FnAt.fn0 (within 6 3 6)) ?_
    simp (maxSteps := 1000000) -dsimp -implicitDefEqProofs only [go_sem, ↓reduceIte, keep76, ib76, mk76, Tryd.f76]
    have w0 : IntKind.i64.wrap ((6 : Int) - 3) = 3 := rfl
    have w1 : ([43, 45, 42, 47] : List UInt8)[Int.toNat 3]? = some 47 := rfl
    simp (maxSteps := 1000000) -dsimp -implicitDefEqProofs only [go_sem, ↓reduceIte, keep76, ib76, mk76, Tryd.f76, w0, w1]
    repeat' (with_reducible first | intro _ | refine And.intro ?_ ?_)
    all_goals first
      | decide
      | rfl
end Go.Hl

/-
  Contracts of functions and laws of the layer over the walk.
-/
import Derived.Test.YthcfmnldhokmiaaGreatVvA
import Derived.Test.YthcfmnldhokmiaaGreatHlD
namespace Go.Hl
open Go.Proofs
set_option linter.unusedVariables false
set_option linter.unusedSimpArgs false
def exprOK (p : DProgram) (e : DExpr) (vars funcs : Int) : Prop := (0 ≤ vars ∧ vars ≤ 412) ∧ (0 ≤ funcs ∧ funcs ≤ p.fFuncs.length) ∧ (e.s : Int) + 1 ≤ 400 ∧ (e.d : Int) ≤ 60 ∧ e.ok p funcs vars
noncomputable instance (p : DProgram) (e : DExpr) (vars funcs : Int) : Decidable (exprOK p e vars funcs) := Classical.propDecidable _
def funcOK (p : DProgram) (k : Nat) (f : DFunc) : Prop := IsNm f.fName ∧ (0 ≤ f.fParams ∧ f.fParams ≤ 12) ∧ (1 ≤ (f.fOuts.length : Int) ∧ (f.fOuts.length : Int) ≤ 12) ∧ (∀ g ∈ p.fFuncs.take k, g.fName ≠ f.fName) ∧ (szs DExpr.s f.fOuts : Int) ≤ 400 ∧ ∀ e ∈ f.fOuts, exprOK p e f.fParams k
noncomputable instance (p : DProgram) (k : Nat) (f : DFunc) : Decidable (funcOK p k f) := Classical.propDecidable _
def DProgram.ok (p : DProgram) : Prop := (p.fFuncs.length : Int) ≤ 16 ∧ ∀ (k : Nat) (f : DFunc), p.fFuncs[k]? = some f → funcOK p k f
noncomputable instance (p : DProgram) : Decidable p.ok := Classical.propDecidable _
def keep283 : List Nat := [0, 2]
def ib283 : List Nat := []
def mk283 : Marks := fun _ => ([], .nil, [])
theorem l02Vars (n : Int) : Fn0 Tryz.prog 283 [I n] (.bool (decide (0 ≤ n ∧ n ≤ 412))) := by
  refine fn0F 5 keep283 ib283 mk283 mix Tryz.func283 rfl (by kernel_rfl) (by simp) fun h => ?_
  simp (maxSteps := 1000000) -dsimp -implicitDefEqProofs only [go_sem, ↓reduceIte, keep283, ib283, mk283, Tryz.f283]
  first | refine HFnF.mk (l00In n 0 412) ?_ | refine CallSF.mk (l00In n 0 412) ?_ | refine HFnF.mkAt (l00In n 0 412) ?_ | refine CallSF.mk (FnAt.fn0 (l00In n 0 412)) ?_
  simp (maxSteps := 1000000) -dsimp -implicitDefEqProofs only [go_sem, ↓reduceIte, keep283, ib283, mk283, Tryz.f283]
def keep256 : List Nat := [0, 2]
def ib256 : List Nat := []
def mk256 : Marks := fun _ => ([], .nil, [])
theorem areVars (n : Int) : Fn0 Tryz.prog 256 [I n] (.bool (decide (0 ≤ n ∧ n ≤ 412))) := by
  refine fn0F 5 keep256 ib256 mk256 mix Tryz.func256 rfl (by kernel_rfl) (by simp) fun h => ?_
  simp (maxSteps := 1000000) -dsimp -implicitDefEqProofs only [go_sem, ↓reduceIte, keep256, ib256, mk256, Tryz.f256]
  first | refine HFnF.mk (within n 0 412) ?_ | refine CallSF.mk (within n 0 412) ?_ | refine HFnF.mkAt (within n 0 412) ?_ | refine CallSF.mk (FnAt.fn0 (within n 0 412)) ?_
  simp (maxSteps := 1000000) -dsimp -implicitDefEqProofs only [go_sem, ↓reduceIte, keep256, ib256, mk256, Tryz.f256]
theorem lft_nonneg {left : Int} {n : Nat} : 0 ≤ lft left n ↔ (n : Int) ≤ left := by
  unfold lft; split <;> omega
def keep249 : List Nat := [0, 1, 2, 3, 8]
def ib249 : List Nat := []
def mk249 : Marks := fun _ => ([], .nil, [])
set_option maxRecDepth 100000 in
theorem l02Expr (p : DProgram) (e : DExpr) (vars funcs : Int) (hs : e.s ≤ 4294966296) (hps : p.s ≤ 4294967296) : Fn0 Tryz.prog 249 [.ip 1 [p.c] 0 0, .ip 5 [e.c] 0 0, I vars, I funcs] (.bool (decide (exprOK p e vars funcs))) := by
  simp only [DProgram.c_eq]
  refine fn0F 37 keep249 ib249 mk249 mix Tryz.func249 rfl (by kernel_rfl) (by simp) fun h => ?_
  simp (maxSteps := 1000000) -dsimp -implicitDefEqProofs only [go_sem, ↓reduceIte, keep249, ib249, mk249, Tryz.f249]
  first | refine HFnF.mk (l02Vars vars) ?_ | refine CallSF.mk (l02Vars vars) ?_ | refine HFnF.mkAt (l02Vars vars) ?_ | refine CallSF.mk (FnAt.fn0 (l02Vars vars)) ?_
  simp (maxSteps := 1000000) -dsimp -implicitDefEqProofs only [go_sem, ↓reduceIte, keep249, ib249, mk249, Tryz.f249]
  repeat' (with_reducible first | intro _ | refine And.intro ?_ ?_)
  all_goals try (first | (simp [exprOK, *]; done) | omega | (grind [exprOK]) | (simp [exprOK]; omega))
  first | refine HFnF.mk (l00In funcs 0 p.fFuncs.length) ?_ | refine CallSF.mk (l00In funcs 0 p.fFuncs.length) ?_ | refine HFnF.mkAt (l00In funcs 0 p.fFuncs.length) ?_ | refine CallSF.mk (FnAt.fn0 (l00In funcs 0 p.fFuncs.length)) ?_
  simp (maxSteps := 1000000) -dsimp -implicitDefEqProofs only [go_sem, ↓reduceIte, keep249, ib249, mk249, Tryz.f249]
  repeat' (with_reducible first | intro _ | refine And.intro ?_ ?_)
  all_goals try (first | (simp [exprOK, *]; done) | omega | (grind [exprOK]) | (simp [exprOK]; omega))
  first | refine CallSF.mk ((l02Left e 400 (by omega) (by omega) (by omega)).sub (by repeat' (first | exact SubL.nil | refine SubL.cons ?_ ?_ | exact Sub.refl _ | (rw [DExpr.c_eq]; exact Sub.refl _) | exact Sub.ipAt rfl rfl rfl | exact Sub.ip (map_get (by omega)) (by simp) | exact Sub.ipAt (map_get (by omega)) rfl rfl | exact Sub.ip (by simp [*]) (by simp) | exact Sub.ipAt (by simp [*]) (by rfl) (by rfl)))) ?_ | refine HFnF.mk ((l02Left e 400 (by omega) (by omega) (by omega)).sub (by repeat' (first | exact SubL.nil | refine SubL.cons ?_ ?_ | exact Sub.refl _ | (rw [DExpr.c_eq]; exact Sub.refl _) | exact Sub.ipAt rfl rfl rfl | exact Sub.ip (map_get (by omega)) (by simp) | exact Sub.ipAt (map_get (by omega)) rfl rfl | exact Sub.ip (by simp [*]) (by simp) | exact Sub.ipAt (by simp [*]) (by rfl) (by rfl)))) ?_
  simp (maxSteps := 1000000) -dsimp -implicitDefEqProofs only [go_sem, ↓reduceIte, keep249, ib249, mk249, Tryz.f249]
  repeat' (with_reducible first | intro _ | refine And.intro ?_ ?_)
  · have hle : ((e.s + 1 : Nat) : Int) ≤ 400 := lft_nonneg.1 (by assumption)
    first | refine CallSF.mk ((l02Depth e (by omega)).sub (by repeat' (first | exact SubL.nil | refine SubL.cons ?_ ?_ | exact Sub.refl _ | (rw [DExpr.c_eq]; exact Sub.refl _) | exact Sub.ipAt rfl rfl rfl | exact Sub.ip (map_get (by omega)) (by simp) | exact Sub.ipAt (map_get (by omega)) rfl rfl | exact Sub.ip (by simp [*]) (by simp) | exact Sub.ipAt (by simp [*]) (by rfl) (by rfl)))) ?_ | refine HFnF.mk ((l02Depth e (by omega)).sub (by repeat' (first | exact SubL.nil | refine SubL.cons ?_ ?_ | exact Sub.refl _ | (rw [DExpr.c_eq]; exact Sub.refl _) | exact Sub.ipAt rfl rfl rfl | exact Sub.ip (map_get (by omega)) (by simp) | exact Sub.ipAt (map_get (by omega)) rfl rfl | exact Sub.ip (by simp [*]) (by simp) | exact Sub.ipAt (by simp [*]) (by rfl) (by rfl)))) ?_
    simp (maxSteps := 1000000) -dsimp -implicitDefEqProofs only [go_sem, ↓reduceIte, keep249, ib249, mk249, Tryz.f249]
    repeat' (with_reducible first | intro _ | refine And.intro ?_ ?_)
    · first | refine CallSF.mk ((l02Tree p e vars funcs (by omega) (by omega) (by omega) (by omega) hps).sub (by repeat' (first | exact SubL.nil | refine SubL.cons ?_ ?_ | exact Sub.refl _ | (rw [DExpr.c_eq]; exact Sub.refl _) | exact Sub.ipAt rfl rfl rfl | exact Sub.ip (map_get (by omega)) (by simp) | exact Sub.ipAt (map_get (by omega)) rfl rfl | exact Sub.ip (by simp [*]) (by simp) | exact Sub.ipAt (by simp [*]) (by rfl) (by rfl)))) ?_ | refine HFnF.mk ((l02Tree p e vars funcs (by omega) (by omega) (by omega) (by omega) hps).sub (by repeat' (first | exact SubL.nil | refine SubL.cons ?_ ?_ | exact Sub.refl _ | (rw [DExpr.c_eq]; exact Sub.refl _) | exact Sub.ipAt rfl rfl rfl | exact Sub.ip (map_get (by omega)) (by simp) | exact Sub.ipAt (map_get (by omega)) rfl rfl | exact Sub.ip (by simp [*]) (by simp) | exact Sub.ipAt (by simp [*]) (by rfl) (by rfl)))) ?_
      simp (maxSteps := 1000000) -dsimp -implicitDefEqProofs only [go_sem, ↓reduceIte, keep249, ib249, mk249, Tryz.f249]
      rw [decide_eq_decide]
      exact ⟨fun q => ⟨by omega, by omega, by omega, by omega, q⟩, fun q => q.2.2.2.2⟩
    · exact (decide_eq_false fun q => by have := q.2.2.2.1; omega).symm
  · rename_i hn
    exact (decide_eq_false fun q => hn (lft_nonneg.2 (by have := q.2.2.1; omega))).symm
def keep195 : List Nat := [0, 1, 2, 3, 4, 5, 8]
def ib195 : List Nat := [4, 5]
def mk195 : Marks := fun _ => ([], .nil, [])
set_option maxRecDepth 100000 in
theorem ValidExpr (p : DProgram) (e : DExpr) (vars funcs : Int) (hs : e.s ≤ 4294966296) (hps : p.s ≤ 4294967296) : Fn0 Tryz.prog 195 [.agg p.c, .agg e.c, I vars, I funcs] (.bool (decide (exprOK p e vars funcs))) := by
  have h1 := ExprSize e (by omega)
  have h2 := ExprDepth e (by omega)
  simp only [DExpr.c_eq] at h1 h2
  simp only [DProgram.c_eq, DExpr.c_eq]
  refine fn0F 36 keep195 ib195 mk195 mix Tryz.func195 rfl (by kernel_rfl) (by simp) fun h => ?_
  simp (maxSteps := 1000000) -dsimp -implicitDefEqProofs only [go_sem, ↓reduceIte, keep195, ib195, mk195, Tryz.f195]
  first | refine HFnF.mk (areVars vars) ?_ | refine CallSF.mk (areVars vars) ?_ | refine HFnF.mkAt (areVars vars) ?_ | refine CallSF.mk (FnAt.fn0 (areVars vars)) ?_
  simp (maxSteps := 1000000) -dsimp -implicitDefEqProofs only [go_sem, ↓reduceIte, keep195, ib195, mk195, Tryz.f195]
  repeat' (with_reducible first | intro _ | refine And.intro ?_ ?_)
  all_goals try (first | (simp [exprOK, *]; done) | omega | (grind [exprOK]) | (simp [exprOK]; omega))
  first | refine HFnF.mk (within funcs 0 p.fFuncs.length) ?_ | refine CallSF.mk (within funcs 0 p.fFuncs.length) ?_ | refine HFnF.mkAt (within funcs 0 p.fFuncs.length) ?_ | refine CallSF.mk (FnAt.fn0 (within funcs 0 p.fFuncs.length)) ?_
  simp (maxSteps := 1000000) -dsimp -implicitDefEqProofs only [go_sem, ↓reduceIte, keep195, ib195, mk195, Tryz.f195]
  repeat' (with_reducible first | intro _ | refine And.intro ?_ ?_)
  all_goals try (first | (simp [exprOK, *]; done) | omega | (grind [exprOK]) | (simp [exprOK]; omega))
  first | refine HFnF.mk (h1) ?_ | refine CallSF.mk (h1) ?_ | refine HFnF.mkAt (h1) ?_ | refine CallSF.mk (FnAt.fn0 (h1)) ?_
  simp (maxSteps := 1000000) -dsimp -implicitDefEqProofs only [go_sem, ↓reduceIte, keep195, ib195, mk195, Tryz.f195]
  repeat' (with_reducible first | intro _ | refine And.intro ?_ ?_)
  · first | refine HFnF.mk (h2) ?_ | refine CallSF.mk (h2) ?_ | refine HFnF.mkAt (h2) ?_ | refine CallSF.mk (FnAt.fn0 (h2)) ?_
    simp (maxSteps := 1000000) -dsimp -implicitDefEqProofs only [go_sem, ↓reduceIte, keep195, ib195, mk195, Tryz.f195]
    repeat' (with_reducible first | intro _ | refine And.intro ?_ ?_)
    · have h3 := isFormed p e vars funcs (by omega) (by omega) (by omega) (by omega) hps
      simp only [DExpr.c_eq] at h3
      first | refine HFnF.mk (h3) ?_ | refine CallSF.mk (h3) ?_ | refine HFnF.mkAt (h3) ?_ | refine CallSF.mk (FnAt.fn0 (h3)) ?_
      simp (maxSteps := 1000000) -dsimp -implicitDefEqProofs only [go_sem, ↓reduceIte, keep195, ib195, mk195, Tryz.f195]
      rw [decide_eq_decide]
      exact ⟨fun q => ⟨by omega, by omega, by omega, by omega, q⟩, fun q => q.2.2.2.2⟩
    · exact (decide_eq_false fun q => by have := q.2.2.2.1; omega).symm
  · exact (decide_eq_false fun q => by have := q.2.2.1; omega).symm
def keep182 : List Nat := [0, 1, 4, 5, 6, 7, 8, 37, 40, 55, 62, 90]
def ib182 : List Nat := []
def mk182 : Marks := fun id => match id with | 7 => ([], (.op 0 (.op 1 (.op 2 (.op 3 (.op 4 (.op 5 (.op 6 (.op 7 (.op 8 (.op 9 (.op 10 (.op 11 (.op 12 .nil))))))))))))), []) | 14 => ([], (.op 0 (.op 1 (.op 2 (.op 3 (.op 4 (.op 5 (.op 6 (.op 7 (.op 8 (.op 9 (.op 10 (.op 11 (.op 12 (.op 13 (.op 14 (.op 15 (.op 16 (.op 17 .nil)))))))))))))))))), []) | _ => ([], .nil, [])
set_option maxRecDepth 100000 in
theorem l02Func (p : DProgram) (k : Nat) (f : DFunc) (ef : p.fFuncs[k]? = some f) (hps : p.s ≤ 4194304) : Fn0 Tryz.prog 182 [.ip 1 [p.c] 0 0, I k] (.bool (decide (funcOK p k f))) := by
  have hk : k < p.fFuncs.length := (List.getElem?_eq_some_iff.1 ef).1
  have hfs := DProgram.func_s (List.mem_of_getElem? ef)
  have hl := p.len_s
  have hos := f.outs_s
  simp only [DProgram.c_eq]
  have no (q : ¬ (IsNm f.fName ∧ (0 ≤ f.fParams ∧ f.fParams ≤ 12) ∧ (1 ≤ (f.fOuts.length : Int) ∧ (f.fOuts.length : Int) ≤ 12))) : false = decide (funcOK p k f) := (decide_eq_false fun z => q ⟨z.1, z.2.1, z.2.2.1⟩).symm
  refine fn0F 91 keep182 ib182 mk182 mix Tryz.func182 rfl (by kernel_rfl) (by simp) fun h => ?_
  simp (maxSteps := 1000000) -dsimp -implicitDefEqProofs only [go_sem, ↓reduceIte, keep182, ib182, mk182, Tryz.f182, ef, DFunc.c_eq, Int.toNat_natCast]
  repeat' (with_reducible first | intro _ | refine And.intro ?_ ?_)
  all_goals try omega
  first | refine HFnF.mk (specIsName f.fName) ?_ | refine CallSF.mk (specIsName f.fName) ?_ | refine HFnF.mkAt (specIsName f.fName) ?_ | refine CallSF.mk (FnAt.fn0 (specIsName f.fName)) ?_
  simp (maxSteps := 1000000) -dsimp -implicitDefEqProofs only [go_sem, ↓reduceIte, keep182, ib182, mk182, Tryz.f182, ef, DFunc.c_eq]
  repeat' (with_reducible first | intro _ | refine And.intro ?_ ?_)
  · first | refine HFnF.mk (l00In f.fParams 0 12) ?_ | refine CallSF.mk (l00In f.fParams 0 12) ?_ | refine HFnF.mkAt (l00In f.fParams 0 12) ?_ | refine CallSF.mk (FnAt.fn0 (l00In f.fParams 0 12)) ?_
    simp (maxSteps := 1000000) -dsimp -implicitDefEqProofs only [go_sem, ↓reduceIte, keep182, ib182, mk182, Tryz.f182, ef, DFunc.c_eq]
    repeat' (with_reducible first | intro _ | refine And.intro ?_ ?_)
    · first | refine HFnF.mk (l00In f.fOuts.length 1 12) ?_ | refine CallSF.mk (l00In f.fOuts.length 1 12) ?_ | refine HFnF.mkAt (l00In f.fOuts.length 1 12) ?_ | refine CallSF.mk (FnAt.fn0 (l00In f.fOuts.length 1 12)) ?_
      simp (maxSteps := 1000000) -dsimp -implicitDefEqProofs only [go_sem, ↓reduceIte, keep182, ib182, mk182, Tryz.f182, ef, DFunc.c_eq]
      repeat' (with_reducible first | intro _ | refine And.intro ?_ ?_)
      · exact no fun z => by simp_all
      · rename_i q1 q2 q3
        refine loopF (keep := keep182) (ib := ib182) (mk := mk182) mix (by kernel_rfl) (fun j : Nat => [(0, .ip 1 [p.c] 0 0), (1, I k), (5, .ip 3 (p.fFuncs.map DFunc.c) k 0), (6, I j)]) (fun _ => h) (fun j => j ≤ k ∧ ∀ g ∈ p.fFuncs.take j, g.fName ≠ f.fName) (fun j => k - j) 0 (by refine ⟨by simp [SatL, tget, DProgram.c_eq], by repeat' (with_reducible first | exact Heap.le_refl _ | refine (le_upd (by first | assumption | exact And.right (by assumption) | exact upd_none.2 (by assumption))).2 ?_), by simp⟩) ?_
        intro j ⟨hj, hp⟩
        simp only [DProgram.c_eq]
        rcases Nat.lt_or_ge j k with hlt | hge
        · have eg : p.fFuncs[j]? = some p.fFuncs[j] := List.getElem?_eq_getElem (by omega)
          simp (maxSteps := 1000000) -dsimp -implicitDefEqProofs only [go_sem, ↓reduceIte, keep182, ib182, mk182, Tryz.f182, ef, eg, DFunc.c_eq, Int.toNat_natCast]
          repeat' (with_reducible first | intro _ | refine And.intro ?_ ?_)
          all_goals try omega
          · rename_i he
            refine (decide_eq_false fun z => z.2.2.2.1 p.fFuncs[j] ?_ he).symm
            exact List.mem_take_iff_getElem.2 ⟨j, by omega, rfl⟩
          · rename_i he
            refine ⟨j + 1, ?_⟩
            repeat' (with_reducible refine And.intro ?_ ?_)
            all_goals try (rw [IntWalk.i64_in _ (by omega)]; first | rfl | omega)
            all_goals try omega
            all_goals try (repeat' (with_reducible first | exact Heap.le_refl _ | refine (le_upd (by first | assumption | exact And.right (by assumption) | exact upd_none.2 (by assumption))).2 ?_))
            all_goals try (simp only [DProgram.c_eq]; done)
            exact all_step (P := fun g : DFunc => g.fName ≠ f.fName) (by omega) hp he
        · have hj' : j = k := by omega
          rw [hj'] at hp
          simp (maxSteps := 1000000) -dsimp -implicitDefEqProofs only [go_sem, ↓reduceIte, keep182, ib182, mk182, Tryz.f182, hj', Int.lt_irrefl]
          have part (i : Nat) (hi : i < f.fOuts.length) : i + ((f.fOuts.take i).map DExpr.s).sum + f.fOuts[i].s + 1 ≤ szs DExpr.s f.fOuts := by
            have h1 := sum_take_succ DExpr.s f.fOuts i hi
            have h2 := sum_take_le DExpr.s f.fOuts (i + 1)
            rw [szs_eq]; omega
          have hszs : szs DExpr.s f.fOuts ≤ f.s := by rw [f.s_eq]; omega
          refine loopF (keep := keep182) (ib := ib182) (mk := mk182) mix (by kernel_rfl) (fun i : Nat => [(0, .ip 1 [p.c] 0 0), (1, I k), (5, .ip 3 (p.fFuncs.map DFunc.c) k 0), (7, I (400 - (i + ((f.fOuts.take i).map DExpr.s).sum : Nat))), (8, I i)]) (fun _ => h) (fun i => i ≤ f.fOuts.length ∧ i + ((f.fOuts.take i).map DExpr.s).sum ≤ 400 ∧ ∀ e ∈ f.fOuts.take i, exprOK p e f.fParams k) (fun i => f.fOuts.length - i) 0 (by refine ⟨by simp [SatL, tget, DProgram.c_eq], by repeat' (with_reducible first | exact Heap.le_refl _ | refine (le_upd (by first | assumption | exact And.right (by assumption) | exact upd_none.2 (by assumption))).2 ?_), by simp⟩) ?_
          intro i ⟨hi, hsum, hall⟩
          simp only [DProgram.c_eq]
          rcases Nat.lt_or_ge i f.fOuts.length with hlt | hge
          · have h1 := sum_take_succ DExpr.s f.fOuts i hlt
            have hpt := part i hlt
            have hout := DFunc.out_s (List.getElem_mem hlt)
            simp (maxSteps := 1000000) -dsimp -implicitDefEqProofs only [go_sem, ↓reduceIte, keep182, ib182, mk182, Tryz.f182, ef, DFunc.c_eq, Int.toNat_natCast]
            repeat' (with_reducible first | intro _ | refine And.intro ?_ ?_)
            all_goals try omega
            first | refine CallSF.mk ((l02Left f.fOuts[i] (400 - (i + ((f.fOuts.take i).map DExpr.s).sum : Nat)) (by omega) (by omega) (by omega)).sub (by repeat' (first | exact SubL.nil | refine SubL.cons ?_ ?_ | exact Sub.refl _ | (rw [DExpr.c_eq]; exact Sub.refl _) | exact Sub.ipAt rfl rfl rfl | exact Sub.ip (map_get (by omega)) (by simp) | exact Sub.ipAt (map_get (by omega)) rfl rfl | exact Sub.ip (by simp [*]) (by simp) | exact Sub.ipAt (by simp [*]) (by rfl) (by rfl)))) ?_ | refine HFnF.mk ((l02Left f.fOuts[i] (400 - (i + ((f.fOuts.take i).map DExpr.s).sum : Nat)) (by omega) (by omega) (by omega)).sub (by repeat' (first | exact SubL.nil | refine SubL.cons ?_ ?_ | exact Sub.refl _ | (rw [DExpr.c_eq]; exact Sub.refl _) | exact Sub.ipAt rfl rfl rfl | exact Sub.ip (map_get (by omega)) (by simp) | exact Sub.ipAt (map_get (by omega)) rfl rfl | exact Sub.ip (by simp [*]) (by simp) | exact Sub.ipAt (by simp [*]) (by rfl) (by rfl)))) ?_
            simp (maxSteps := 1000000) -dsimp -implicitDefEqProofs only [go_sem, ↓reduceIte, keep182, ib182, mk182, Tryz.f182, ef, DFunc.c_eq]
            rcases lft_cases (400 - (i + ((f.fOuts.take i).map DExpr.s).sum : Nat)) (f.fOuts[i].s + 1) with ⟨e, hl1⟩ | ⟨e, hl1⟩
            · simp (maxSteps := 1000000) -dsimp -implicitDefEqProofs only [go_sem, ↓reduceIte, keep182, ib182, mk182, Tryz.f182, e]
              repeat' (with_reducible first | intro _ | refine And.intro ?_ ?_)
              all_goals try omega
              all_goals exact (decide_eq_false fun z => by have := z.2.2.2.2.1; omega).symm
            · simp (maxSteps := 1000000) -dsimp -implicitDefEqProofs only [go_sem, ↓reduceIte, keep182, ib182, mk182, Tryz.f182, e]
              repeat' (with_reducible first | intro _ | refine And.intro ?_ ?_)
              all_goals try omega
              first | refine CallSF.mk ((l02Expr p f.fOuts[i] f.fParams k (by omega) (by omega)).sub (by repeat' (first | exact SubL.nil | refine SubL.cons ?_ ?_ | exact Sub.refl _ | (rw [DExpr.c_eq]; exact Sub.refl _) | exact Sub.ipAt rfl rfl rfl | exact Sub.ip (map_get (by omega)) (by simp) | exact Sub.ipAt (map_get (by omega)) rfl rfl | exact Sub.ip (by simp [*]) (by simp) | exact Sub.ipAt (by simp [*]) (by rfl) (by rfl)))) ?_ | refine HFnF.mk ((l02Expr p f.fOuts[i] f.fParams k (by omega) (by omega)).sub (by repeat' (first | exact SubL.nil | refine SubL.cons ?_ ?_ | exact Sub.refl _ | (rw [DExpr.c_eq]; exact Sub.refl _) | exact Sub.ipAt rfl rfl rfl | exact Sub.ip (map_get (by omega)) (by simp) | exact Sub.ipAt (map_get (by omega)) rfl rfl | exact Sub.ip (by simp [*]) (by simp) | exact Sub.ipAt (by simp [*]) (by rfl) (by rfl)))) ?_
              simp (maxSteps := 1000000) -dsimp -implicitDefEqProofs only [go_sem, ↓reduceIte, keep182, ib182, mk182, Tryz.f182, ef, DFunc.c_eq]
              repeat' (with_reducible first | intro _ | refine And.intro ?_ ?_)
              · rename_i hn
                exact (decide_eq_false fun z => hn (z.2.2.2.2.2 _ (List.getElem_mem hlt))).symm
              · rename_i hn
                refine ⟨i + 1, ?_⟩
                repeat' (with_reducible refine And.intro ?_ ?_)
                all_goals try (rw [IntWalk.i64_in _ (by omega)]; first | rfl | omega)
                all_goals try omega
                all_goals try (repeat' (with_reducible first | exact Heap.le_refl _ | refine (le_upd (by first | assumption | exact And.right (by assumption) | exact upd_none.2 (by assumption))).2 ?_))
                all_goals try (simp only [DProgram.c_eq]; done)
                exact all_step (P := fun e => exprOK p e f.fParams k) hlt hall hn
          · have hi' : i = f.fOuts.length := by omega
            subst hi'
            rw [List.take_length] at hsum hall
            simp (maxSteps := 1000000) -dsimp -implicitDefEqProofs only [go_sem, ↓reduceIte, keep182, ib182, mk182, Tryz.f182, ef, DFunc.c_eq, Nat.lt_irrefl]
            exact fun _ => (decide_eq_true ⟨by assumption, q1, q3, hp, by rw [szs_eq]; omega, hall⟩).symm
    · exact no fun z => by simp_all
  · exact no fun z => by simp_all
def keep96 : List Nat := [0, 2, 3, 9, 16, 22]
def ib96 : List Nat := []
def mk96 : Marks := fun _ => ([], .nil, [])
set_option maxRecDepth 100000 in
theorem l02Ok (p : DProgram) (hps : p.s ≤ 4194304) : Fn0 Tryz.prog 96 [.ip 1 [p.c] 0 0] (.bool (decide p.ok)) := by
  simp only [DProgram.c_eq]
  refine fn0F 23 keep96 ib96 mk96 mix Tryz.func96 rfl (by kernel_rfl) (by simp) fun h => ?_
  simp (maxSteps := 1000000) -dsimp -implicitDefEqProofs only [go_sem, ↓reduceIte, keep96, ib96, mk96, Tryz.f96]
  repeat' (with_reducible first | intro _ | refine And.intro ?_ ?_)
  · exact (decide_eq_false fun z => by have := z.1; omega).symm
  refine loopF (keep := keep96) (ib := ib96) (mk := mk96) mix (by kernel_rfl) (fun k : Nat => [(0, .ip 1 [p.c] 0 0), (3, I k)]) (fun _ => h) (fun k => k ≤ p.fFuncs.length ∧ ∀ (j : Nat) (f : DFunc), j < k → p.fFuncs[j]? = some f → funcOK p j f) (fun k => p.fFuncs.length - k) 0 (by refine ⟨by simp [SatL, tget, DProgram.c_eq], by repeat' (with_reducible first | exact Heap.le_refl _ | refine (le_upd (by first | assumption | exact And.right (by assumption) | exact upd_none.2 (by assumption))).2 ?_), by simp⟩) ?_
  intro k ⟨hk, hp⟩
  simp only [DProgram.c_eq]
  rcases Nat.lt_or_ge k p.fFuncs.length with hlt | hge
  · have eg : p.fFuncs[k]? = some p.fFuncs[k] := List.getElem?_eq_getElem (by omega)
    simp (maxSteps := 1000000) -dsimp -implicitDefEqProofs only [go_sem, ↓reduceIte, keep96, ib96, mk96, Tryz.f96]
    repeat' (with_reducible first | intro _ | refine And.intro ?_ ?_)
    all_goals try omega
    first | refine CallSF.mk ((l02Func p k p.fFuncs[k] eg hps).sub (by repeat' (first | exact SubL.nil | refine SubL.cons ?_ ?_ | exact Sub.refl _ | (rw [DExpr.c_eq]; exact Sub.refl _) | exact Sub.ipAt rfl rfl rfl | exact Sub.ip (map_get (by omega)) (by simp) | exact Sub.ipAt (map_get (by omega)) rfl rfl | exact Sub.ip (by simp [*]) (by simp) | exact Sub.ipAt (by simp [*]) (by rfl) (by rfl)))) ?_ | refine HFnF.mk ((l02Func p k p.fFuncs[k] eg hps).sub (by repeat' (first | exact SubL.nil | refine SubL.cons ?_ ?_ | exact Sub.refl _ | (rw [DExpr.c_eq]; exact Sub.refl _) | exact Sub.ipAt rfl rfl rfl | exact Sub.ip (map_get (by omega)) (by simp) | exact Sub.ipAt (map_get (by omega)) rfl rfl | exact Sub.ip (by simp [*]) (by simp) | exact Sub.ipAt (by simp [*]) (by rfl) (by rfl)))) ?_
    simp (maxSteps := 1000000) -dsimp -implicitDefEqProofs only [go_sem, ↓reduceIte, keep96, ib96, mk96, Tryz.f96]
    repeat' (with_reducible first | intro _ | refine And.intro ?_ ?_)
    · rename_i hn
      exact (decide_eq_false fun z => hn (z.2 k _ eg)).symm
    · rename_i hn
      refine ⟨k + 1, ?_⟩
      repeat' (with_reducible refine And.intro ?_ ?_)
      all_goals try (rw [IntWalk.i64_in _ (by omega)]; first | rfl | omega)
      all_goals try omega
      all_goals try (repeat' (with_reducible first | exact Heap.le_refl _ | refine (le_upd (by first | assumption | exact And.right (by assumption) | exact upd_none.2 (by assumption))).2 ?_))
      all_goals try (simp only [DProgram.c_eq]; done)
      intro j f hj ej
      rcases Nat.lt_succ_iff_lt_or_eq.1 hj with h1 | rfl
      · exact hp j f h1 ej
      · rw [eg] at ej; obtain rfl := Option.some.inj ej; exact hn
  · have hk' : k = p.fFuncs.length := by omega
    subst hk'
    simp (maxSteps := 1000000) -dsimp -implicitDefEqProofs only [go_sem, ↓reduceIte, keep96, ib96, mk96, Tryz.f96, Nat.lt_irrefl]
    exact fun _ => (decide_eq_true ⟨by omega, fun j f ej => hp j f (List.getElem?_eq_some_iff.1 ej).1 ej⟩).symm
open Go.Proofs
set_option linter.unusedVariables false
set_option linter.unusedSimpArgs false
def keep255 : List Nat := [0, 1, 4, 5, 7, 8, 9, 16]
def ib255 : List Nat := []
def mk255 : Marks := fun _ => ([], .nil, [])
set_option maxRecDepth 100000 in
theorem idxF_FuncS (a : List DFunc) (p : DFunc → Bool) (g : FuncId) (cap : List HVal) {h0 : Heap} (hc : ∀ x ∈ a, FnAt Tryz.prog g ([(.agg (DFunc.c x))] ++ cap) (.bool (p x)) h0) : FnAt Tryz.prog 255 [(sls 3 DFunc.c a), .fn (.func g) [] cap] (I (idxOf p a)) h0 := by
  refine fnAtF 19 keep255 ib255 mk255 mix Tryz.func255 rfl (by kernel_rfl) (by simp) fun h hle => ?_
  simp -dsimp -implicitDefEqProofs only [go_sem, ↓reduceIte, keep255, ib255, mk255, Tryz.f255, Tryz.f255]
  intro _
  refine loopF (keep := keep255) (ib := ib255) (mk := mk255) mix (by kernel_rfl) (fun k : Nat => [(0, (sls 3 DFunc.c a)), (1, .fn (.func g) [] cap), (7, I a.length), (8, I k)]) (fun _ => h) (fun k => k ≤ a.length ∧ ∀ x ∈ a.take k, p x = false) (fun k => a.length - k) 0 (by simp [SatL, tget, Heap.le_refl]) ?_
  intro k ⟨hk, hp⟩
  rcases Nat.lt_or_ge k a.length with hlt | hge
  · have ea : a[k]? = some a[k] := List.getElem?_eq_getElem hlt
    simp -dsimp -implicitDefEqProofs only [go_sem, ↓reduceIte, keep255, ib255, mk255, Tryz.f255, Tryz.f255, ea, DFunc.c_eq]
    repeat' (with_reducible first | intro _ | refine And.intro ?_ ?_)
    all_goals try omega
    have hx := hc a[k] (List.getElem_mem hlt)
    simp only [DFunc.c_eq] at hx
    refine HFnF.mkAt (hx.mono hle) ?_
    cases hpk : p a[k] with
    | true =>
      simp -dsimp -implicitDefEqProofs only [go_sem, ↓reduceIte, keep255, ib255, mk255, Tryz.f255, Tryz.f255]
      repeat' (with_reducible first | intro _ | refine And.intro ?_ ?_)
      all_goals first | exact (idxOf_some hlt hp hpk).symm | rfl | (rw [idxOf_some hlt hp hpk])
    | false =>
      simp -dsimp -implicitDefEqProofs only [go_sem, ↓reduceIte, keep255, ib255, mk255, Tryz.f255, Tryz.f255]
      refine ⟨k + 1, ?_⟩
      repeat' (with_reducible refine And.intro ?_ ?_)
      all_goals try (rw [IntWalk.i64_in _ (by omega)]; first | rfl | omega)
      all_goals try omega
      exact all_step (P := fun x => p x = false) hlt hp hpk
  · have hk' : k = a.length := by omega
    subst hk'
    rw [List.take_length] at hp
    simp -dsimp -implicitDefEqProofs only [go_sem, ↓reduceIte, keep255, ib255, mk255, Tryz.f255, Tryz.f255, Nat.lt_irrefl]
    all_goals first | exact (idxOf_none hp).symm | rw [idxOf_none hp]
def keep193 : List Nat := [0, 1, 4]
def ib193 : List Nat := []
def mk193 : Marks := fun _ => ([], .nil, [])
set_option maxRecDepth 100000 in
theorem hasF_FuncS (a : List DFunc) (p : DFunc → Bool) (g : FuncId) (cap : List HVal) {h0 : Heap} (hc : ∀ x ∈ a, FnAt Tryz.prog g ([(.agg (DFunc.c x))] ++ cap) (.bool (p x)) h0) : FnAt Tryz.prog 193 [(sls 3 DFunc.c a), .fn (.func g) [] cap] (.bool (a.any p)) h0 := by
  refine fnAtF 9 keep193 ib193 mk193 mix Tryz.func193 rfl (by kernel_rfl) (by simp) fun h hle => ?_
  simp -dsimp -implicitDefEqProofs only [go_sem, ↓reduceIte, keep193, ib193, mk193, Tryz.f193, Tryz.f193]
  refine HFnF.mkAt ((idxF_FuncS a p g cap hc).mono hle) ?_
  simp -dsimp -implicitDefEqProofs only [go_sem, ↓reduceIte, keep193, ib193, mk193, Tryz.f193, Tryz.f193]
  all_goals first | done | exact idxOf_nonneg | rw [idxOf_nonneg]

def keep194 : List Nat := [0, 1, 2, 3]
def ib194 : List Nat := [2]
def mk194 : Marks := fun _ => ([], .nil, [])
set_option maxRecDepth 100000 in
theorem ValidProgram1 (g f : DFunc) (n : Nat) {h0 : Heap} (hn : h0 n = some (.row 3 [f.c.map .v])) : FnAt Tryz.prog 194 [.agg g.c, .op n 3 0 0] (.bool (decide (g.fName = f.fName))) h0 := by
  simp only [DFunc.c_eq]
  have hg (h : Heap) (hle : h0.le h) := Heap.le_get hle hn
  refine fnAtF 9 keep194 ib194 mk194 mix Tryz.func194 rfl (by kernel_rfl) (by simp) fun h hle => ?_
  simp (maxSteps := 1000000) -dsimp -implicitDefEqProofs only [go_sem, ↓reduceIte, keep194, ib194, mk194, Tryz.f194]
  have hn' := hg h hle
  simp only [DFunc.c_eq] at hn'
  simp (maxSteps := 1000000) -dsimp -implicitDefEqProofs only [go_sem, ↓reduceIte, keep194, ib194, mk194, Tryz.f194, hn']
def keep106 : List Nat := [0, 1, 2, 3, 4, 5, 7, 11, 13, 14, 15, 16, 31, 42, 44, 45, 46, 47, 56, 63]
def ib106 : List Nat := [1]
def mk106 : Marks := fun _ => ([], .nil, [])
set_option maxRecDepth 100000 in
theorem ValidProgram (p : DProgram) (hps : p.s ≤ 4194304) : Fn0 Tryz.prog 106 [.agg p.c] (.bool (decide p.ok)) := by
  simp only [DProgram.c_eq]
  refine fn0F 65 keep106 ib106 mk106 mix Tryz.func106 rfl (by kernel_rfl) (by simp) fun h => ?_
  simp (maxSteps := 1000000) -dsimp -implicitDefEqProofs only [go_sem, ↓reduceIte, keep106, ib106, mk106, Tryz.f106]
  repeat' (with_reducible first | intro _ | refine And.intro ?_ ?_)
  · exact (decide_eq_false fun z => by have := z.1; omega).symm
  refine loopF (keep := keep106) (ib := ib106) (mk := mk106) mix (by kernel_rfl) (fun k : Nat => [(1, .ip 1 [p.c] 0 0), (13, sls 3 DFunc.c p.fFuncs), (14, I p.fFuncs.length), (15, I k)]) (fun _ => h) (fun k => k ≤ p.fFuncs.length ∧ ∀ (j : Nat) (f : DFunc), j < k → p.fFuncs[j]? = some f → funcOK p j f) (fun k => p.fFuncs.length - k) 0 (by refine ⟨by simp [SatL, tget, DProgram.c_eq], by repeat' (with_reducible first | exact Heap.le_refl _ | refine (le_upd (by first | assumption | exact And.right (by assumption) | exact upd_none.2 (by assumption))).2 ?_), by simp⟩) ?_
  intro k ⟨hk, hp⟩
  simp only [DProgram.c_eq]
  rcases Nat.lt_or_ge k p.fFuncs.length with hlt | hge
  · obtain ⟨f, eg⟩ : ∃ f, p.fFuncs[k]? = some f := ⟨_, List.getElem?_eq_getElem hlt⟩
    have hfs := DProgram.func_s (List.mem_of_getElem? eg)
    have hos := f.outs_s
    have no (q : ¬ funcOK p k f) : false = decide p.ok := (decide_eq_false fun z => q (z.2 k f eg)).symm
    simp (maxSteps := 1000000) -dsimp -implicitDefEqProofs only [go_sem, ↓reduceIte, keep106, ib106, mk106, Tryz.f106, eg, DFunc.c_eq, upd_upd]
    repeat' (with_reducible first | intro _ | refine And.intro ?_ ?_)
    all_goals try omega
    rename_i n hn
    first | refine HFnF.mk (IsName f.fName) ?_ | refine CallSF.mk (IsName f.fName) ?_ | refine HFnF.mkAt (IsName f.fName) ?_ | refine CallSF.mk (FnAt.fn0 (IsName f.fName)) ?_
    simp (maxSteps := 1000000) -dsimp -implicitDefEqProofs only [go_sem, ↓reduceIte, keep106, ib106, mk106, Tryz.f106, upd_get, upd_upd]
    repeat' (with_reducible first | intro _ | refine And.intro ?_ ?_)
    all_goals try (repeat' (with_reducible first | exact Heap.le_refl _ | refine (le_upd (by first | assumption | exact And.right (by assumption) | exact upd_none.2 (by assumption))).2 ?_))
    all_goals try omega
    all_goals try (rename_i hnm; exact no fun z => hnm z.1)
    rename_i hnm
    rw [← List.map_take]
    refine HFnF.mkAt (hasF_FuncS (p.fFuncs.take k) (fun g => decide (g.fName = f.fName)) 194 [.op n 3 0 0] fun g _ => ValidProgram1 g f n (by simp [upd_get, DFunc.c_eq])) ?_
    simp (maxSteps := 1000000) -dsimp -implicitDefEqProofs only [go_sem, ↓reduceIte, keep106, ib106, mk106, Tryz.f106, upd_get, upd_upd]
    repeat' (with_reducible first | intro _ | refine And.intro ?_ ?_)
    all_goals try (repeat' (with_reducible first | exact Heap.le_refl _ | refine (le_upd (by first | assumption | exact And.right (by assumption) | exact upd_none.2 (by assumption))).2 ?_))
    · rename_i q
      refine no fun z => ?_
      obtain ⟨g, hg1, hg2⟩ := List.any_eq_true.1 q
      exact z.2.2.2.1 g hg1 (by simpa using hg2)
    rename_i hnd
    have hnd' : ∀ g ∈ p.fFuncs.take k, g.fName ≠ f.fName := fun g hg => by
      have := List.any_eq_false.1 hnd g hg
      simpa using this
    first | refine HFnF.mk (within f.fParams 0 12) ?_ | refine CallSF.mk (within f.fParams 0 12) ?_ | refine HFnF.mkAt (within f.fParams 0 12) ?_ | refine CallSF.mk (FnAt.fn0 (within f.fParams 0 12)) ?_
    simp (maxSteps := 1000000) -dsimp -implicitDefEqProofs only [go_sem, ↓reduceIte, keep106, ib106, mk106, Tryz.f106, upd_get, upd_upd]
    repeat' (with_reducible first | intro _ | refine And.intro ?_ ?_)
    all_goals try (repeat' (with_reducible first | exact Heap.le_refl _ | refine (le_upd (by first | assumption | exact And.right (by assumption) | exact upd_none.2 (by assumption))).2 ?_))
    · first | refine HFnF.mk (within f.fOuts.length 1 12) ?_ | refine CallSF.mk (within f.fOuts.length 1 12) ?_ | refine HFnF.mkAt (within f.fOuts.length 1 12) ?_ | refine CallSF.mk (FnAt.fn0 (within f.fOuts.length 1 12)) ?_
      simp (maxSteps := 1000000) -dsimp -implicitDefEqProofs only [go_sem, ↓reduceIte, keep106, ib106, mk106, Tryz.f106, upd_get, upd_upd]
      repeat' (with_reducible first | intro _ | refine And.intro ?_ ?_)
      all_goals try (repeat' (with_reducible first | exact Heap.le_refl _ | refine (le_upd (by first | assumption | exact And.right (by assumption) | exact upd_none.2 (by assumption))).2 ?_))
      · rename_i q
        exact no fun z => q z.2.2.1
      · rename_i q1 q2 q3 q4
        have part (i : Nat) (hi : i < f.fOuts.length) : i + ((f.fOuts.take i).map DExpr.s).sum + f.fOuts[i].s + 1 ≤ szs DExpr.s f.fOuts := by
          have h1 := sum_take_succ DExpr.s f.fOuts i hi
          have h2 := sum_take_le DExpr.s f.fOuts (i + 1)
          rw [szs_eq]; omega
        have hszs : szs DExpr.s f.fOuts ≤ f.s := by rw [f.s_eq]; omega
        refine loopF (keep := keep106) (ib := ib106) (mk := mk106) mix (by kernel_rfl) (fun i : Nat => [(1, .ip 1 [p.c] 0 0), (3, I k), (4, .op n 3 0 0), (5, I ((i + ((f.fOuts.take i).map DExpr.s).sum : Nat) : Int)), (13, sls 3 DFunc.c p.fFuncs), (14, I p.fFuncs.length), (15, I k), (44, sls 5 DExpr.c f.fOuts), (45, I f.fOuts.length), (46, I i)]) (fun _ => upd h n (.row 3 [f.c.map .v])) (fun i => i ≤ f.fOuts.length ∧ ∀ e ∈ f.fOuts.take i, exprOK p e f.fParams k) (fun i => f.fOuts.length - i) 0 (by refine ⟨by simp [SatL, tget, DProgram.c_eq], by simp [DFunc.c_eq, Heap.le_refl], by simp⟩) ?_
        intro i ⟨hi, hall⟩
        simp only [DProgram.c_eq, DFunc.c_eq, List.map_cons, List.map_nil]
        rcases Nat.lt_or_ge i f.fOuts.length with hlt2 | hge2
        · have h1 := sum_take_succ DExpr.s f.fOuts i hlt2
          have hpt := part i hlt2
          have hout := DFunc.out_s (List.getElem_mem hlt2)
          have ee : f.fOuts[i]? = some f.fOuts[i] := List.getElem?_eq_getElem hlt2
          have hv := ValidExpr p f.fOuts[i] f.fParams k (by omega) (by omega)
          have hz := ExprSize f.fOuts[i] (by omega)
          simp only [DExpr.c_eq, DProgram.c_eq] at hv hz
          simp (maxSteps := 1000000) -dsimp -implicitDefEqProofs only [go_sem, ↓reduceIte, keep106, ib106, mk106, Tryz.f106, ee, DExpr.c_eq, upd_upd]
          repeat' (with_reducible first | intro _ | refine And.intro ?_ ?_)
          all_goals try omega
          rename_i m hm
          have hmn : (n = m) = False := eq_false fun e => hm.1 e.symm
          have hnm2 : (m = n) = False := eq_false hm.1
          simp (maxSteps := 1000000) -dsimp -implicitDefEqProofs only [go_sem, ↓reduceIte, keep106, ib106, mk106, Tryz.f106, upd_get, hmn, hnm2]
          first | refine HFnF.mk (hv) ?_ | refine CallSF.mk (hv) ?_ | refine HFnF.mkAt (hv) ?_ | refine CallSF.mk (FnAt.fn0 (hv)) ?_
          simp (maxSteps := 1000000) -dsimp -implicitDefEqProofs only [go_sem, ↓reduceIte, keep106, ib106, mk106, Tryz.f106, upd_get, hmn, hnm2]
          repeat' (with_reducible first | intro _ | refine And.intro ?_ ?_)
          · rename_i hne
            exact no fun z => hne (z.2.2.2.2.2 _ (List.getElem_mem hlt2))
          · all_goals try (repeat' (with_reducible first | exact Heap.le_refl _ | refine (le_upd (by first | assumption | exact And.right (by assumption) | exact upd_none.2 (by assumption))).2 ?_))
          · rename_i hne
            first | refine HFnF.mk (hz) ?_ | refine CallSF.mk (hz) ?_ | refine HFnF.mkAt (hz) ?_ | refine CallSF.mk (FnAt.fn0 (hz)) ?_
            simp (maxSteps := 1000000) -dsimp -implicitDefEqProofs only [go_sem, ↓reduceIte, keep106, ib106, mk106, Tryz.f106, upd_get, hmn, hnm2]
            refine ⟨i + 1, ?_⟩
            repeat' (with_reducible refine And.intro ?_ ?_)
            all_goals try (rw [IntWalk.i64_in _ (by omega)]; first | rfl | omega)
            all_goals try omega
            all_goals try (repeat' (with_reducible first | exact Heap.le_refl _ | refine (le_upd (by first | assumption | exact And.right (by assumption) | exact upd_none.2 (by assumption))).2 ?_))
            all_goals try (simp only [DProgram.c_eq]; done)
            exact all_step (P := fun e => exprOK p e f.fParams k) hlt2 hall hne
        · have hi' : i = f.fOuts.length := by omega
          subst hi'
          rw [List.take_length] at hall ⊢
          simp (maxSteps := 1000000) -dsimp -implicitDefEqProofs only [go_sem, ↓reduceIte, keep106, ib106, mk106, Tryz.f106, Nat.lt_irrefl]
          have hss : szs DExpr.s f.fOuts = f.fOuts.length + (f.fOuts.map DExpr.s).sum := szs_eq _ _
          repeat' (with_reducible first | intro _ | refine And.intro ?_ ?_)
          all_goals try (repeat' (with_reducible first | exact Heap.le_refl _ | refine (le_upd (by first | assumption | exact And.right (by assumption) | exact upd_none.2 (by assumption))).2 ?_))
          · rename_i q
            exact no fun z => by have := z.2.2.2.2.1; omega
          · rename_i q
            have hfk : funcOK p k f := ⟨hnm, q1, q3, hnd', by omega, hall⟩
            refine ⟨k + 1, ?_⟩
            repeat' (with_reducible refine And.intro ?_ ?_)
            all_goals try (rw [IntWalk.i64_in _ (by omega)]; first | rfl | omega)
            all_goals try omega
            all_goals try (repeat' (with_reducible first | exact Heap.le_refl _ | refine (le_upd (by first | assumption | exact And.right (by assumption) | exact upd_none.2 (by assumption))).2 ?_))
            intro j f' hj ej
            rcases Nat.lt_succ_iff_lt_or_eq.1 hj with h1 | rfl
            · exact hp j f' h1 ej
            · rw [eg] at ej; obtain rfl := Option.some.inj ej; exact hfk
    · rename_i q
      exact no fun z => q z.2.1
  · have hk' : k = p.fFuncs.length := by omega
    subst hk'
    simp (maxSteps := 1000000) -dsimp -implicitDefEqProofs only [go_sem, ↓reduceIte, keep106, ib106, mk106, Tryz.f106, Nat.lt_irrefl]
    exact (decide_eq_true ⟨by omega, fun j f ej => hp j f (List.getElem?_eq_some_iff.1 ej).1 ej⟩).symm
open Go.Proofs
set_option linter.unusedVariables false
set_option linter.unusedSimpArgs false
def keep134 : List Nat := [0, 1, 2, 4, 5, 9]
def ib134 : List Nat := [2]
def mk134 : Marks := fun _ => ([], .nil, [])
set_option maxRecDepth 100000 in
theorem isFunc (p : DProgram) (f : Int) (hps : p.s ≤ 4194304) : Fn0 Tryz.prog 134 [.agg p.c, I f] (I (if p.ok then if 0 ≤ f ∧ f ≤ (p.fFuncs.length : Int) - 1 then 0 else 2 else 1)) := by
  have hv := ValidProgram p hps
  simp only [DProgram.c_eq] at hv ⊢
  refine fn0F 17 keep134 ib134 mk134 mix Tryz.func134 rfl (by kernel_rfl) (by simp) fun h => ?_
  simp (maxSteps := 1000000) -dsimp -implicitDefEqProofs only [go_sem, ↓reduceIte, keep134, ib134, mk134, Tryz.f134]
  first | refine HFnF.mk (hv) ?_ | refine CallSF.mk (hv) ?_ | refine HFnF.mkAt (hv) ?_ | refine CallSF.mk (FnAt.fn0 (hv)) ?_
  simp (maxSteps := 1000000) -dsimp -implicitDefEqProofs only [go_sem, ↓reduceIte, keep134, ib134, mk134, Tryz.f134]
  repeat' (with_reducible first | intro _ | refine And.intro ?_ ?_)
  · rename_i hn
    rw [if_neg hn]
  · rename_i hn _
    rw [if_pos hn]
    all_goals try simp (disch := omega) only [IntWalk.i64_in]
    first | refine HFnF.mk (within f 0 (p.fFuncs.length - 1)) ?_ | refine CallSF.mk (within f 0 (p.fFuncs.length - 1)) ?_ | refine HFnF.mkAt (within f 0 (p.fFuncs.length - 1)) ?_ | refine CallSF.mk (FnAt.fn0 (within f 0 (p.fFuncs.length - 1))) ?_
    simp (maxSteps := 1000000) -dsimp -implicitDefEqProofs only [go_sem, ↓reduceIte, keep134, ib134, mk134, Tryz.f134]
    repeat' (with_reducible first | intro _ | refine And.intro ?_ ?_)
    · rename_i q
      rw [if_neg q]
    · rename_i q
      rw [if_pos q]
def DJob.okF (j : DJob) (f : DFunc) : Prop := (0 ≤ j.fShared ∧ j.fShared ≤ f.fParams) ∧ ((j.fPoint.length : Int) = j.fShared ∧ Nums j.fPoint) ∧ (j.fTerms.length : Int) ≤ 10 ∧ ∀ t ∈ j.fTerms, (t.length : Int) = f.fParams - j.fShared ∧ Nums t
def DJob.ok (j : DJob) : Prop := j.fProgram.ok ∧ (0 ≤ j.fFunc ∧ j.fFunc ≤ (j.fProgram.fFuncs.length : Int) - 1) ∧ ∀ f, j.fProgram.fFuncs[j.fFunc.toNat]? = some f → j.okF f
noncomputable instance (j : DJob) : Decidable j.ok := Classical.propDecidable _
def keep53 : List Nat := [0, 2, 3, 4, 24, 71, 78, 106]
def ib53 : List Nat := []
def mk53 : Marks := fun id => match id with | 1 => ([], (.op 0 (.op 1 (.op 2 (.op 3 (.op 4 (.op 5 (.op 6 (.op 7 (.op 8 (.op 9 (.op 10 (.op 11 (.op 12 (.op 13 (.op 14 (.op 15 (.op 16 (.op 17 (.op 18 (.op 19 .nil)))))))))))))))))))), []) | 3 => ([], (.op 0 (.op 1 (.op 2 (.op 3 (.op 4 (.op 5 (.op 6 (.op 7 (.op 8 (.op 9 (.op 10 (.op 11 (.op 12 .nil))))))))))))), []) | 4 => ([], (.op 0 (.op 1 (.op 2 (.op 3 (.op 4 (.op 5 (.op 6 (.op 7 (.op 8 (.op 9 (.op 10 (.op 11 (.op 12 (.op 13 (.op 14 (.op 15 (.op 16 (.op 17 (.op 18 (.op 19 (.op 20 (.op 21 (.op 22 (.op 23 (.op 24 (.op 25 (.op 26 (.op 27 (.op 28 (.op 29 (.op 30 (.op 31 (.op 32 (.op 33 (.op 34 .nil))))))))))))))))))))))))))))))))))), []) | 9 => ([], (.op 0 (.op 1 (.op 2 (.op 3 (.op 4 (.op 5 (.op 6 (.op 7 (.op 8 (.op 9 (.op 10 (.op 11 (.op 12 (.op 13 (.op 14 (.op 15 (.op 16 (.op 17 (.op 18 (.op 19 (.op 20 (.op 21 (.op 22 (.op 23 (.op 24 (.op 25 .nil)))))))))))))))))))))))))), []) | _ => ([], .nil, [])
set_option maxRecDepth 100000 in
theorem l08Job (j : DJob) (hps : j.fProgram.s ≤ 4194304) : Fn0 Tryz.prog 53 [.ip 5 [j.c] 0 0] (.bool (decide j.ok)) := by
  have hl := j.fProgram.len_s
  have e1 : IntKind.i64.wrap ((j.fProgram.fFuncs.length : Int) - 1) = j.fProgram.fFuncs.length - 1 := IntWalk.i64_in _ (by omega)
  simp only [DJob.c_eq]
  refine fn0F 107 keep53 ib53 mk53 mix Tryz.func53 rfl (by kernel_rfl) (by simp) fun h => ?_
  simp (maxSteps := 1000000) -dsimp -implicitDefEqProofs only [go_sem, ↓reduceIte, keep53, ib53, mk53, Tryz.f53, e1]
  first | refine CallSF.mk ((l02Ok j.fProgram hps).sub (by repeat' (first | exact SubL.nil | refine SubL.cons ?_ ?_ | exact Sub.refl _ | (rw [DExpr.c_eq]; exact Sub.refl _) | exact Sub.ipAt rfl rfl rfl | exact Sub.ip (map_get (by omega)) (by simp) | exact Sub.ipAt (map_get (by omega)) rfl rfl | exact Sub.ip (by simp [*]) (by simp) | exact Sub.ipAt (by simp [*]) (by rfl) (by rfl)))) ?_ | refine HFnF.mk ((l02Ok j.fProgram hps).sub (by repeat' (first | exact SubL.nil | refine SubL.cons ?_ ?_ | exact Sub.refl _ | (rw [DExpr.c_eq]; exact Sub.refl _) | exact Sub.ipAt rfl rfl rfl | exact Sub.ip (map_get (by omega)) (by simp) | exact Sub.ipAt (map_get (by omega)) rfl rfl | exact Sub.ip (by simp [*]) (by simp) | exact Sub.ipAt (by simp [*]) (by rfl) (by rfl)))) ?_
  simp (maxSteps := 1000000) -dsimp -implicitDefEqProofs only [go_sem, ↓reduceIte, keep53, ib53, mk53, Tryz.f53, e1]
  repeat' (with_reducible first | intro _ | refine And.intro ?_ ?_)
  · rename_i hp
    first | refine HFnF.mk (l00In j.fFunc 0 (j.fProgram.fFuncs.length - 1)) ?_ | refine CallSF.mk (l00In j.fFunc 0 (j.fProgram.fFuncs.length - 1)) ?_ | refine HFnF.mkAt (l00In j.fFunc 0 (j.fProgram.fFuncs.length - 1)) ?_ | refine CallSF.mk (FnAt.fn0 (l00In j.fFunc 0 (j.fProgram.fFuncs.length - 1))) ?_
    simp (maxSteps := 1000000) -dsimp -implicitDefEqProofs only [go_sem, ↓reduceIte, keep53, ib53, mk53, Tryz.f53, e1]
    repeat' (with_reducible first | intro _ | refine And.intro ?_ ?_)
    · rename_i hr
      exact (decide_eq_false fun z => hr z.2.1).symm
    all_goals try omega
    rename_i hr
    obtain ⟨f, ef⟩ : ∃ f, j.fProgram.fFuncs[j.fFunc.toNat]? = some f := ⟨_, List.getElem?_eq_getElem (by omega)⟩
    have hfo := hp.2 _ f ef
    have hj : j.ok ↔ j.okF f := ⟨fun z => z.2.2 f ef, fun z => ⟨hp, hr, fun g eg => by rw [ef] at eg; obtain rfl := Option.some.inj eg; exact z⟩⟩
    have hp1 := hfo.2.1
    simp (maxSteps := 1000000) -dsimp -implicitDefEqProofs only [go_sem, ↓reduceIte, keep53, ib53, mk53, Tryz.f53, ef, DFunc.c_eq]
    first | refine HFnF.mk (l00In j.fShared 0 f.fParams) ?_ | refine CallSF.mk (l00In j.fShared 0 f.fParams) ?_ | refine HFnF.mkAt (l00In j.fShared 0 f.fParams) ?_ | refine CallSF.mk (FnAt.fn0 (l00In j.fShared 0 f.fParams)) ?_
    simp (maxSteps := 1000000) -dsimp -implicitDefEqProofs only [go_sem, ↓reduceIte, keep53, ib53, mk53, Tryz.f53]
    repeat' (with_reducible first | intro _ | refine And.intro ?_ ?_)
    · rename_i hsh hlen
      first | refine HFnF.mk (l01Numbers j.fPoint) ?_ | refine CallSF.mk (l01Numbers j.fPoint) ?_ | refine HFnF.mkAt (l01Numbers j.fPoint) ?_ | refine CallSF.mk (FnAt.fn0 (l01Numbers j.fPoint)) ?_
      simp (maxSteps := 1000000) -dsimp -implicitDefEqProofs only [go_sem, ↓reduceIte, keep53, ib53, mk53, Tryz.f53]
      repeat' (with_reducible first | intro _ | refine And.intro ?_ ?_)
      · exact (decide_eq_false fun z => by have := (hj.1 z).2.2.1; omega).symm
      · have e4 : IntKind.i64.wrap (f.fParams - j.fShared) = f.fParams - j.fShared := IntWalk.i64_in _ (by omega)
        refine loopF (keep := keep53) (ib := ib53) (mk := mk53) mix (by kernel_rfl) (fun k : Nat => [(0, .ip 5 [j.c] 0 0), (3, I f.fParams), (4, I k)]) (fun _ => h) (fun k => k ≤ j.fTerms.length ∧ ∀ t ∈ j.fTerms.take k, (t.length : Int) = f.fParams - j.fShared ∧ Nums t) (fun k => j.fTerms.length - k) 0 (by refine ⟨by simp [SatL, tget, DJob.c_eq], by repeat' (with_reducible first | exact Heap.le_refl _ | refine (le_upd (by first | assumption | exact And.right (by assumption) | exact upd_none.2 (by assumption))).2 ?_), by simp⟩) ?_
        intro k ⟨hk, hall⟩
        simp only [DJob.c_eq]
        rcases Nat.lt_or_ge k j.fTerms.length with hlt | hge
        · have ea : j.fTerms[k]? = some j.fTerms[k] := List.getElem?_eq_getElem hlt
          have no (q : ¬ ((j.fTerms[k].length : Int) = f.fParams - j.fShared ∧ Nums j.fTerms[k])) : false = decide j.ok := (decide_eq_false fun z => q ((hj.1 z).2.2.2 _ (List.getElem_mem hlt))).symm
          simp (maxSteps := 1000000) -dsimp -implicitDefEqProofs only [go_sem, ↓reduceIte, keep53, ib53, mk53, Tryz.f53, ea, e4]
          repeat' (with_reducible first | intro _ | refine And.intro ?_ ?_)
          all_goals try omega
          · first | refine HFnF.mk (l01Numbers j.fTerms[k]) ?_ | refine CallSF.mk (l01Numbers j.fTerms[k]) ?_ | refine HFnF.mkAt (l01Numbers j.fTerms[k]) ?_ | refine CallSF.mk (FnAt.fn0 (l01Numbers j.fTerms[k])) ?_
            simp (maxSteps := 1000000) -dsimp -implicitDefEqProofs only [go_sem, ↓reduceIte, keep53, ib53, mk53, Tryz.f53]
            repeat' (with_reducible first | intro _ | refine And.intro ?_ ?_)
            · rename_i q4 q5
              exact no fun z => q5 z.2
            · rename_i q4 q5
              refine ⟨k + 1, ?_⟩
              repeat' (with_reducible refine And.intro ?_ ?_)
              all_goals try (rw [IntWalk.i64_in _ (by omega)]; first | rfl | omega)
              all_goals try omega
              all_goals try (repeat' (with_reducible first | exact Heap.le_refl _ | refine (le_upd (by first | assumption | exact And.right (by assumption) | exact upd_none.2 (by assumption))).2 ?_))
              all_goals try (simp only [DJob.c_eq]; done)
              exact all_step (P := fun t : List Int => (t.length : Int) = f.fParams - j.fShared ∧ Nums t) hlt hall ⟨q4, q5⟩
          · rename_i q4
            exact no fun z => q4 z.1
        · have hk' : k = j.fTerms.length := by omega
          subst hk'
          rw [List.take_length] at hall
          simp (maxSteps := 1000000) -dsimp -implicitDefEqProofs only [go_sem, ↓reduceIte, keep53, ib53, mk53, Tryz.f53, Nat.lt_irrefl]
          exact fun _ => (decide_eq_true (hj.2 ⟨hsh, ⟨by assumption, by assumption⟩, by omega, hall⟩)).symm
      · rename_i q2
        exact (decide_eq_false fun z => q2 (hj.1 z).2.1.2).symm
    · rename_i q
      exact (decide_eq_false fun z => q (hj.1 z).2.1.1).symm
    · rename_i q
      exact (decide_eq_false fun z => q (hj.1 z).1).symm
  · rename_i hp
    exact (decide_eq_false fun z => hp z.1).symm
def keep137 : List Nat := [0, 1, 3]
def ib137 : List Nat := []
def mk137 : Marks := fun _ => ([], .nil, [])
set_option maxRecDepth 100000 in
theorem ValidJob1 (l : List Int) (c : Int) (n : Nat) {h0 : Heap} (hn : h0 n = some (.row 1 [[.v (I c)]])) : FnAt Tryz.prog 137 [sls 1 (fun n => [I n]) l, .op n 1 0 0] (.bool (!decide ((l.length : Int) = c ∧ Nums l))) h0 := by
  have hg (h : Heap) (hle : h0.le h) := Heap.le_get hle hn
  refine fnAtF 8 keep137 ib137 mk137 mix Tryz.func137 rfl (by kernel_rfl) (by simp) fun h hle => ?_
  simp (maxSteps := 1000000) -dsimp -implicitDefEqProofs only [go_sem, ↓reduceIte, keep137, ib137, mk137, Tryz.f137]
  have hn' := hg h hle
  simp (maxSteps := 1000000) -dsimp -implicitDefEqProofs only [go_sem, ↓reduceIte, keep137, ib137, mk137, Tryz.f137, hn']
  first | refine HFnF.mk (areNumbers l c) ?_ | refine CallSF.mk (areNumbers l c) ?_ | refine HFnF.mkAt (areNumbers l c) ?_ | refine CallSF.mk (FnAt.fn0 (areNumbers l c)) ?_
  simp (maxSteps := 1000000) -dsimp -implicitDefEqProofs only [go_sem, ↓reduceIte, keep137, ib137, mk137, Tryz.f137]
def keep229 : List Nat := [0, 1, 4, 5, 7, 8, 9, 16]
def ib229 : List Nat := []
def mk229 : Marks := fun _ => ([], .nil, [])
set_option maxRecDepth 100000 in
theorem idxF_Int64SS (a : List (List Int)) (p : (List Int) → Bool) (g : FuncId) (cap : List HVal) {h0 : Heap} (hc : ∀ x ∈ a, FnAt Tryz.prog g ([(sls 1 (fun n => [I n]) x)] ++ cap) (.bool (p x)) h0) : FnAt Tryz.prog 229 [(sls 1 (fun x => [sls 1 (fun n => [I n]) x]) a), .fn (.func g) [] cap] (I (idxOf p a)) h0 := by
  refine fnAtF 19 keep229 ib229 mk229 mix Tryz.func229 rfl (by kernel_rfl) (by simp) fun h hle => ?_
  simp -dsimp -implicitDefEqProofs only [go_sem, ↓reduceIte, keep229, ib229, mk229, Tryz.f229, Tryz.f229]
  intro _
  refine loopF (keep := keep229) (ib := ib229) (mk := mk229) mix (by kernel_rfl) (fun k : Nat => [(0, (sls 1 (fun x => [sls 1 (fun n => [I n]) x]) a)), (1, .fn (.func g) [] cap), (7, I a.length), (8, I k)]) (fun _ => h) (fun k => k ≤ a.length ∧ ∀ x ∈ a.take k, p x = false) (fun k => a.length - k) 0 (by simp [SatL, tget, Heap.le_refl]) ?_
  intro k ⟨hk, hp⟩
  rcases Nat.lt_or_ge k a.length with hlt | hge
  · have ea : a[k]? = some a[k] := List.getElem?_eq_getElem hlt
    simp -dsimp -implicitDefEqProofs only [go_sem, ↓reduceIte, keep229, ib229, mk229, Tryz.f229, Tryz.f229, ea]
    repeat' (with_reducible first | intro _ | refine And.intro ?_ ?_)
    all_goals try omega
    have hx := hc a[k] (List.getElem_mem hlt)
    refine HFnF.mkAt (hx.mono hle) ?_
    cases hpk : p a[k] with
    | true =>
      simp -dsimp -implicitDefEqProofs only [go_sem, ↓reduceIte, keep229, ib229, mk229, Tryz.f229, Tryz.f229]
      repeat' (with_reducible first | intro _ | refine And.intro ?_ ?_)
      all_goals first | exact (idxOf_some hlt hp hpk).symm | rfl | (rw [idxOf_some hlt hp hpk])
    | false =>
      simp -dsimp -implicitDefEqProofs only [go_sem, ↓reduceIte, keep229, ib229, mk229, Tryz.f229, Tryz.f229]
      refine ⟨k + 1, ?_⟩
      repeat' (with_reducible refine And.intro ?_ ?_)
      all_goals try (rw [IntWalk.i64_in _ (by omega)]; first | rfl | omega)
      all_goals try omega
      exact all_step (P := fun x => p x = false) hlt hp hpk
  · have hk' : k = a.length := by omega
    subst hk'
    rw [List.take_length] at hp
    simp -dsimp -implicitDefEqProofs only [go_sem, ↓reduceIte, keep229, ib229, mk229, Tryz.f229, Tryz.f229, Nat.lt_irrefl]
    all_goals first | exact (idxOf_none hp).symm | rw [idxOf_none hp]
def keep136 : List Nat := [0, 1, 4]
def ib136 : List Nat := []
def mk136 : Marks := fun _ => ([], .nil, [])
set_option maxRecDepth 100000 in
theorem hasF_Int64SS (a : List (List Int)) (p : (List Int) → Bool) (g : FuncId) (cap : List HVal) {h0 : Heap} (hc : ∀ x ∈ a, FnAt Tryz.prog g ([(sls 1 (fun n => [I n]) x)] ++ cap) (.bool (p x)) h0) : FnAt Tryz.prog 136 [(sls 1 (fun x => [sls 1 (fun n => [I n]) x]) a), .fn (.func g) [] cap] (.bool (a.any p)) h0 := by
  refine fnAtF 9 keep136 ib136 mk136 mix Tryz.func136 rfl (by kernel_rfl) (by simp) fun h hle => ?_
  simp -dsimp -implicitDefEqProofs only [go_sem, ↓reduceIte, keep136, ib136, mk136, Tryz.f136, Tryz.f136]
  refine HFnF.mkAt ((idxF_Int64SS a p g cap hc).mono hle) ?_
  simp -dsimp -implicitDefEqProofs only [go_sem, ↓reduceIte, keep136, ib136, mk136, Tryz.f136, Tryz.f136]
  all_goals first | done | exact idxOf_nonneg | rw [idxOf_nonneg]

def keep56 : List Nat := [0, 1, 2, 3, 31]
def ib56 : List Nat := [1]
def mk56 : Marks := fun id => match id with | 1 => ([], (.op 0 (.op 1 (.op 2 (.op 3 (.op 4 (.op 5 (.op 6 (.op 7 (.op 8 (.op 9 (.op 10 (.op 11 (.op 12 (.op 13 (.op 14 (.op 15 (.op 16 (.op 17 (.op 18 (.op 19 (.op 20 (.op 21 (.op 22 (.op 23 (.op 24 (.op 25 (.op 26 (.op 27 .nil)))))))))))))))))))))))))))), []) | 3 => ([11, 12], (.op 0 (.op 1 (.op 2 (.op 3 (.op 4 (.op 5 (.op 6 (.op 7 (.op 8 (.op 9 (.op 10 (.op 11 (.op 12 .nil))))))))))))), []) | _ => ([], .nil, [])
set_option maxRecDepth 100000 in
theorem ValidJob (j : DJob) (hps : j.fProgram.s ≤ 4194304) : Fn0 Tryz.prog 56 [.agg j.c] (.bool (decide j.ok)) := by
  have hif := isFunc j.fProgram j.fFunc hps
  have hl := j.fProgram.len_s
  simp only [DJob.c_eq, DProgram.c_eq] at hif ⊢
  by_cases hp : j.fProgram.ok ∧ (0 ≤ j.fFunc ∧ j.fFunc ≤ (j.fProgram.fFuncs.length : Int) - 1)
  · obtain ⟨hp, hr⟩ := hp
    rw [if_pos hp, if_pos hr] at hif
    obtain ⟨f, ef⟩ : ∃ f, j.fProgram.fFuncs[j.fFunc.toNat]? = some f := ⟨_, List.getElem?_eq_getElem (by omega)⟩
    have hfo := hp.2 _ f ef
    have hj : j.ok ↔ j.okF f := ⟨fun z => z.2.2 f ef, fun z => ⟨hp, hr, fun g eg => by rw [ef] at eg; obtain rfl := Option.some.inj eg; exact z⟩⟩
    have hp1 := hfo.2.1
    refine fn0F 54 keep56 ib56 mk56 mix Tryz.func56 rfl (by kernel_rfl) (by simp) fun h => ?_
    simp (maxSteps := 1000000) -dsimp -implicitDefEqProofs only [go_sem, ↓reduceIte, keep56, ib56, mk56, Tryz.f56]
    first | refine HFnF.mk (hif) ?_ | refine CallSF.mk (hif) ?_ | refine HFnF.mkAt (hif) ?_ | refine CallSF.mk (FnAt.fn0 (hif)) ?_
    simp (maxSteps := 1000000) -dsimp -implicitDefEqProofs only [go_sem, ↓reduceIte, keep56, ib56, mk56, Tryz.f56, ef, DFunc.c_eq]
    repeat' (with_reducible first | intro _ | refine And.intro ?_ ?_)
    all_goals try omega
    first | refine HFnF.mk (within j.fShared 0 f.fParams) ?_ | refine CallSF.mk (within j.fShared 0 f.fParams) ?_ | refine HFnF.mkAt (within j.fShared 0 f.fParams) ?_ | refine CallSF.mk (FnAt.fn0 (within j.fShared 0 f.fParams)) ?_
    simp (maxSteps := 1000000) -dsimp -implicitDefEqProofs only [go_sem, ↓reduceIte, keep56, ib56, mk56, Tryz.f56, ef, DFunc.c_eq]
    repeat' (with_reducible first | intro _ | refine And.intro ?_ ?_)
    · first | refine HFnF.mk (areNumbers j.fPoint j.fShared) ?_ | refine CallSF.mk (areNumbers j.fPoint j.fShared) ?_ | refine HFnF.mkAt (areNumbers j.fPoint j.fShared) ?_ | refine CallSF.mk (FnAt.fn0 (areNumbers j.fPoint j.fShared)) ?_
      simp (maxSteps := 1000000) -dsimp -implicitDefEqProofs only [go_sem, ↓reduceIte, keep56, ib56, mk56, Tryz.f56, ef, DFunc.c_eq]
      repeat' (with_reducible first | intro _ | refine And.intro ?_ ?_)
      all_goals try omega
      · rename_i q
        exact (decide_eq_false fun z => q (hj.1 z).2.1).symm
      · rename_i n hn q1 q2
        rw [IntWalk.i64_in _ (by omega)]
        refine HFnF.mkAt (hasF_Int64SS j.fTerms (fun t => !decide ((t.length : Int) = f.fParams - j.fShared ∧ Nums t)) 137 [.op n 1 0 0] fun t _ => ValidJob1 t (f.fParams - j.fShared) n (by simp [upd_get])) ?_
        simp (maxSteps := 1000000) -dsimp -implicitDefEqProofs only [go_sem, ↓reduceIte, keep56, ib56, mk56, Tryz.f56]
        repeat' (with_reducible first | intro _ | refine And.intro ?_ ?_)
        all_goals try (repeat' (with_reducible first | exact Heap.le_refl _ | refine (le_upd (by first | assumption | exact And.right (by assumption) | exact upd_none.2 (by assumption))).2 ?_))
        rw [any_not, decide_eq_decide, hj]
        exact ⟨fun q => ⟨by assumption, by assumption, by omega, q⟩, fun q => q.2.2.2⟩
      · rename_i q
        exact (decide_eq_false fun z => q (by have := (hj.1 z).2.2.1; omega)).symm
      · all_goals try (repeat' (with_reducible first | exact Heap.le_refl _ | refine (le_upd (by first | assumption | exact And.right (by assumption) | exact upd_none.2 (by assumption))).2 ?_))
    · rename_i q
      exact (decide_eq_false fun z => q (hj.1 z).1).symm
  · have hne : ¬ (if j.fProgram.ok then if 0 ≤ j.fFunc ∧ j.fFunc ≤ (j.fProgram.fFuncs.length : Int) - 1 then 0 else 2 else 1 : Int) = 0 := by
      intro q
      split at q
      · split at q
        · rename_i a b
          exact hp ⟨a, b⟩
        · cases q
      · cases q
    refine fn0F 54 keep56 ib56 mk56 mix Tryz.func56 rfl (by kernel_rfl) (by simp) fun h => ?_
    simp (maxSteps := 1000000) -dsimp -implicitDefEqProofs only [go_sem, ↓reduceIte, keep56, ib56, mk56, Tryz.f56]
    first | refine HFnF.mk (hif) ?_ | refine CallSF.mk (hif) ?_ | refine HFnF.mkAt (hif) ?_ | refine CallSF.mk (FnAt.fn0 (hif)) ?_
    simp (maxSteps := 1000000) -dsimp -implicitDefEqProofs only [go_sem, ↓reduceIte, keep56, ib56, mk56, Tryz.f56]
    repeat' (with_reducible first | intro _ | refine And.intro ?_ ?_)
    all_goals try (exact absurd (by assumption) hne)
    exact (decide_eq_false fun z => hp ⟨z.1, z.2.1⟩).symm
open Go.Proofs
set_option linter.unusedVariables false
set_option linter.unusedSimpArgs false
def pointOK (j : DJob) (l : List Int) : Prop := (l.length : Int) = j.fShared ∧ Nums l
def partOK (j : DJob) (p : DPart) : Prop := if p.fCode = 0 then Num p.fValue ∧ pointOK j p.fGrad else (p.fCode = 6 ∨ p.fCode = 7) ∧ p.fValue = 0 ∧ p.fGrad = []
noncomputable instance (j : DJob) (p : DPart) : Decidable (partOK j p) := Classical.propDecidable _
def svcAt (j : DJob) (st ow : Int) (kn : Bool) (p : DPart) : Prop := (0 ≤ st ∧ st ≤ 50) ∧ (-1 ≤ ow ∧ ow ≤ 3) ∧ (kn = true → ow = -1 ∧ partOK j p) ∧ (kn = false → p.fCode = 0 ∧ p.fValue = 0 ∧ p.fGrad = [])
def DService.ok (s : DService) : Prop := s.fJob.ok ∧ (s.fStamps.length = s.fJob.fTerms.length ∧ s.fKnown.length = s.fJob.fTerms.length ∧ s.fParts.length = s.fJob.fTerms.length ∧ s.fOwners.length = s.fJob.fTerms.length) ∧
  ∀ (k : Nat) (st ow : Int) (kn : Bool) (p : DPart), s.fStamps[k]? = some st → s.fOwners[k]? = some ow → s.fKnown[k]? = some kn → s.fParts[k]? = some p → svcAt s.fJob st ow kn p
noncomputable instance (s : DService) : Decidable s.ok := Classical.propDecidable _
theorem len0 {α : Type} (l : List α) : (l.length : Int) = 0 ↔ l = [] := by cases l <;> simp; omega
def keep71 : List Nat := [0, 1, 4]
def ib71 : List Nat := []
def mk71 : Marks := fun _ => ([], .nil, [])
set_option maxRecDepth 100000 in
theorem l08Point (j : DJob) (l : List Int) : Fn0 Tryz.prog 71 [.ip 5 [j.c] 0 0, sls 1 (fun n => [I n]) l] (.bool (decide ((l.length : Int) = j.fShared ∧ Nums l))) := by
  simp only [DJob.c_eq]
  refine fn0F 16 keep71 ib71 mk71 mix Tryz.func71 rfl (by kernel_rfl) (by simp) fun h => ?_
  simp (maxSteps := 1000000) -dsimp -implicitDefEqProofs only [go_sem, ↓reduceIte, keep71, ib71, mk71, Tryz.f71]
  repeat' (with_reducible first | intro _ | refine And.intro ?_ ?_)
  all_goals try (first | (simp [*]; done) | omega | grind)
  first | refine HFnF.mk (l01Numbers l) ?_ | refine CallSF.mk (l01Numbers l) ?_ | refine HFnF.mkAt (l01Numbers l) ?_ | refine CallSF.mk (FnAt.fn0 (l01Numbers l)) ?_
  simp (maxSteps := 1000000) -dsimp -implicitDefEqProofs only [go_sem, ↓reduceIte, keep71, ib71, mk71, Tryz.f71]
  all_goals try (first | (simp [*]; done) | omega | grind)
def keep146 : List Nat := [0, 1, 4, 8, 9, 24]
def ib146 : List Nat := []
def mk146 : Marks := fun _ => ([], .nil, [])
set_option maxRecDepth 100000 in
theorem l08Form (j : DJob) (p : DPart) : Fn0 Tryz.prog 146 [.ip 5 [j.c] 0 0, .ip 3 [p.c] 0 0] (.bool (decide (partOK j p))) := by
  simp only [DJob.c_eq, DPart.c_eq]
  refine fn0F 40 keep146 ib146 mk146 mix Tryz.func146 rfl (by kernel_rfl) (by simp) fun h => ?_
  simp (maxSteps := 1000000) -dsimp -implicitDefEqProofs only [go_sem, ↓reduceIte, keep146, ib146, mk146, Tryz.f146]
  repeat' (with_reducible first | intro _ | refine And.intro ?_ ?_)
  all_goals try (first | (simp [partOK, len0, *]; done) | omega | (grind [partOK, len0]) | (simp [partOK, len0]; omega))
  rename_i hc
  have hp : partOK j p ↔ Num p.fValue ∧ pointOK j p.fGrad := by unfold partOK; rw [if_pos hc]
  first | refine HFnF.mk (l01Number p.fValue) ?_ | refine CallSF.mk (l01Number p.fValue) ?_ | refine HFnF.mkAt (l01Number p.fValue) ?_ | refine CallSF.mk (FnAt.fn0 (l01Number p.fValue)) ?_
  simp (maxSteps := 1000000) -dsimp -implicitDefEqProofs only [go_sem, ↓reduceIte, keep146, ib146, mk146, Tryz.f146]
  repeat' (with_reducible first | intro _ | refine And.intro ?_ ?_)
  · first | refine CallSF.mk ((l08Point j p.fGrad).sub (by repeat' (first | exact SubL.nil | refine SubL.cons ?_ ?_ | exact Sub.refl _ | (rw [DExpr.c_eq]; exact Sub.refl _) | exact Sub.ipAt rfl rfl rfl | exact Sub.ip (map_get (by omega)) (by simp) | exact Sub.ipAt (map_get (by omega)) rfl rfl | exact Sub.ip (by simp [*]) (by simp) | exact Sub.ipAt (by simp [*]) (by rfl) (by rfl)))) ?_ | refine HFnF.mk ((l08Point j p.fGrad).sub (by repeat' (first | exact SubL.nil | refine SubL.cons ?_ ?_ | exact Sub.refl _ | (rw [DExpr.c_eq]; exact Sub.refl _) | exact Sub.ipAt rfl rfl rfl | exact Sub.ip (map_get (by omega)) (by simp) | exact Sub.ipAt (map_get (by omega)) rfl rfl | exact Sub.ip (by simp [*]) (by simp) | exact Sub.ipAt (by simp [*]) (by rfl) (by rfl)))) ?_
    simp (maxSteps := 1000000) -dsimp -implicitDefEqProofs only [go_sem, ↓reduceIte, keep146, ib146, mk146, Tryz.f146]
    rw [decide_eq_decide, hp]
    exact ⟨fun q => ⟨by assumption, q⟩, fun q => q.2⟩
  · exact (decide_eq_false fun q => by simp_all).symm
def keep149 : List Nat := [0, 1, 2, 3, 4, 7]
def ib149 : List Nat := [2, 3]
def mk149 : Marks := fun _ => ([], .nil, [])
set_option maxRecDepth 100000 in
theorem isPart (j : DJob) (p : DPart) : Fn0 Tryz.prog 149 [.agg j.c, .agg p.c] (.bool (decide (partOK j p))) := by
  simp only [DJob.c_eq, DPart.c_eq]
  refine fn0F 37 keep149 ib149 mk149 mix Tryz.func149 rfl (by kernel_rfl) (by simp) fun h => ?_
  simp (maxSteps := 1000000) -dsimp -implicitDefEqProofs only [go_sem, ↓reduceIte, keep149, ib149, mk149, Tryz.f149]
  repeat' (with_reducible first | intro _ | refine And.intro ?_ ?_)
  all_goals try (first | (simp [partOK, len0, *]; done) | omega | (grind [partOK, len0]) | (simp [partOK, len0]; omega))
  rename_i hc
  have hp : partOK j p ↔ Num p.fValue ∧ pointOK j p.fGrad := by unfold partOK; rw [if_pos hc]
  first | refine HFnF.mk (isNumber p.fValue) ?_ | refine CallSF.mk (isNumber p.fValue) ?_ | refine HFnF.mkAt (isNumber p.fValue) ?_ | refine CallSF.mk (FnAt.fn0 (isNumber p.fValue)) ?_
  simp (maxSteps := 1000000) -dsimp -implicitDefEqProofs only [go_sem, ↓reduceIte, keep149, ib149, mk149, Tryz.f149]
  repeat' (with_reducible first | intro _ | refine And.intro ?_ ?_)
  · first | refine HFnF.mk (areNumbers p.fGrad j.fShared) ?_ | refine CallSF.mk (areNumbers p.fGrad j.fShared) ?_ | refine HFnF.mkAt (areNumbers p.fGrad j.fShared) ?_ | refine CallSF.mk (FnAt.fn0 (areNumbers p.fGrad j.fShared)) ?_
    simp (maxSteps := 1000000) -dsimp -implicitDefEqProofs only [go_sem, ↓reduceIte, keep149, ib149, mk149, Tryz.f149]
    rw [decide_eq_decide, hp]
    exact ⟨fun q => ⟨by assumption, q⟩, fun q => q.2⟩
  · exact (decide_eq_false fun q => by simp_all).symm
def keep63 : List Nat := [0, 2, 3, 4, 9, 49, 52, 74, 104, 146]
def ib63 : List Nat := []
def mk63 : Marks := fun id => match id with | 11 => ([], (.op 0 (.op 1 (.op 2 (.op 3 (.op 4 (.op 5 (.op 6 (.op 7 (.op 8 (.op 9 (.op 10 (.op 11 (.op 12 (.op 13 (.op 14 (.op 15 (.op 16 (.op 17 (.op 18 (.op 19 (.op 20 (.op 21 (.op 22 (.op 23 (.op 24 (.op 25 (.op 26 (.op 27 (.op 28 (.op 29 .nil)))))))))))))))))))))))))))))), []) | _ => ([], .nil, [])
set_option maxRecDepth 100000 in
theorem l08Ok (s : DService) (hps : s.fJob.fProgram.s ≤ 4194304) : Fn0 Tryz.prog 63 [.ip 9 [s.c] 0 0] (.bool (decide s.ok)) := by
  simp only [DService.c_eq]
  refine fn0F 147 keep63 ib63 mk63 mix Tryz.func63 rfl (by kernel_rfl) (by simp) fun h => ?_
  simp (maxSteps := 1000000) -dsimp -implicitDefEqProofs only [go_sem, ↓reduceIte, keep63, ib63, mk63, Tryz.f63]
  first | refine CallSF.mk ((l08Job s.fJob hps).sub (by repeat' (first | exact SubL.nil | refine SubL.cons ?_ ?_ | exact Sub.refl _ | (rw [DExpr.c_eq]; exact Sub.refl _) | exact Sub.ipAt rfl rfl rfl | exact Sub.ip (map_get (by omega)) (by simp) | exact Sub.ipAt (map_get (by omega)) rfl rfl | exact Sub.ip (by simp [*]) (by simp) | exact Sub.ipAt (by simp [*]) (by rfl) (by rfl)))) ?_ | refine HFnF.mk ((l08Job s.fJob hps).sub (by repeat' (first | exact SubL.nil | refine SubL.cons ?_ ?_ | exact Sub.refl _ | (rw [DExpr.c_eq]; exact Sub.refl _) | exact Sub.ipAt rfl rfl rfl | exact Sub.ip (map_get (by omega)) (by simp) | exact Sub.ipAt (map_get (by omega)) rfl rfl | exact Sub.ip (by simp [*]) (by simp) | exact Sub.ipAt (by simp [*]) (by rfl) (by rfl)))) ?_
  simp (maxSteps := 1000000) -dsimp -implicitDefEqProofs only [go_sem, ↓reduceIte, keep63, ib63, mk63, Tryz.f63]
  repeat' (with_reducible first | intro _ | refine And.intro ?_ ?_)
  all_goals try (exact (decide_eq_false fun z => by have := z.2.1; omega).symm)
  all_goals try (rename_i hn; exact (decide_eq_false fun z => hn z.1).symm)
  have hjob : s.fJob.ok := by assumption
  have h1 : s.fStamps.length = s.fJob.fTerms.length := by assumption
  have h2 : s.fKnown.length = s.fJob.fTerms.length := by assumption
  have h3 : s.fParts.length = s.fJob.fTerms.length := by assumption
  have h4 : s.fOwners.length = s.fJob.fTerms.length := by assumption
  refine loopF (keep := keep63) (ib := ib63) (mk := mk63) mix (by kernel_rfl) (fun k : Nat => [(0, .ip 9 [s.c] 0 0), (3, I s.fJob.fTerms.length), (4, I k)]) (fun _ => h) (fun k => k ≤ s.fJob.fTerms.length ∧ ∀ (j : Nat) (st ow : Int) (kn : Bool) (p : DPart), j < k → s.fStamps[j]? = some st → s.fOwners[j]? = some ow → s.fKnown[j]? = some kn → s.fParts[j]? = some p → svcAt s.fJob st ow kn p) (fun k => s.fJob.fTerms.length - k) 0 (by refine ⟨by simp [SatL, tget, DService.c_eq], by repeat' (with_reducible first | exact Heap.le_refl _ | refine (le_upd (by first | assumption | exact And.right (by assumption) | exact upd_none.2 (by assumption))).2 ?_), by simp⟩) ?_
  intro k ⟨hk, hall⟩
  simp only [DService.c_eq]
  rcases Nat.lt_or_ge k s.fJob.fTerms.length with hlt | hge
  · have k1 : k < s.fStamps.length := by omega
    have k2 : k < s.fKnown.length := by omega
    have k3 : k < s.fParts.length := by omega
    have k4 : k < s.fOwners.length := by omega
    have g1 : s.fStamps[k]? = some s.fStamps[k] := List.getElem?_eq_getElem k1
    have g2 : s.fKnown[k]? = some s.fKnown[k] := List.getElem?_eq_getElem k2
    have g3 : s.fParts[k]? = some s.fParts[k] := List.getElem?_eq_getElem k3
    have g4 : s.fOwners[k]? = some s.fOwners[k] := List.getElem?_eq_getElem k4
    have no (q : ¬ svcAt s.fJob s.fStamps[k] s.fOwners[k] s.fKnown[k] s.fParts[k]) : false = decide s.ok := (decide_eq_false fun z => q (z.2.2 k _ _ _ _ g1 g4 g2 g3)).symm
    have nx (q : svcAt s.fJob s.fStamps[k] s.fOwners[k] s.fKnown[k] s.fParts[k]) : ∀ (j : Nat) (st ow : Int) (kn : Bool) (p : DPart), j < k + 1 → s.fStamps[j]? = some st → s.fOwners[j]? = some ow → s.fKnown[j]? = some kn → s.fParts[j]? = some p → svcAt s.fJob st ow kn p := by
      intro j st ow kn p hj a b c d
      rcases Nat.lt_succ_iff_lt_or_eq.1 hj with hj | rfl
      · exact hall j st ow kn p hj a b c d
      · rw [g1] at a; rw [g4] at b; rw [g2] at c; rw [g3] at d
        obtain rfl := Option.some.inj a
        obtain rfl := Option.some.inj b
        obtain rfl := Option.some.inj c
        obtain rfl := Option.some.inj d
        exact q
    cases hkn : s.fKnown[k]
    all_goals
      rw [hkn] at g2 no nx
      simp (maxSteps := 1000000) -dsimp -implicitDefEqProofs only [go_sem, ↓reduceIte, keep63, ib63, mk63, Tryz.f63, g1, g2, g3, g4, DPart.c_eq]
      repeat' (with_reducible first | intro _ | refine And.intro ?_ ?_)
      all_goals try omega
    all_goals (first | refine HFnF.mk (l00In s.fStamps[k] 0 50) ?_ | refine CallSF.mk (l00In s.fStamps[k] 0 50) ?_)
    all_goals simp (maxSteps := 1000000) -dsimp -implicitDefEqProofs only [go_sem, ↓reduceIte, keep63, ib63, mk63, Tryz.f63, g1, g2, g3, g4, DPart.c_eq]
    all_goals repeat' (with_reducible first | intro _ | refine And.intro ?_ ?_)
    all_goals try omega
    all_goals try (rename_i q; exact no fun z => q z.1)
    all_goals (first | refine HFnF.mk (l00In s.fOwners[k] (-1) 3) ?_ | refine CallSF.mk (l00In s.fOwners[k] (-1) 3) ?_)
    all_goals simp (maxSteps := 1000000) -dsimp -implicitDefEqProofs only [go_sem, ↓reduceIte, keep63, ib63, mk63, Tryz.f63, g1, g2, g3, g4, DPart.c_eq]
    all_goals repeat' (with_reducible first | intro _ | refine And.intro ?_ ?_)
    all_goals try omega
    all_goals try (rename_i q; exact no fun z => q z.2.1)
    all_goals try (rename_i q; exact no fun z => q (z.2.2.2 rfl).1)
    all_goals try (rename_i q; exact no fun z => q (z.2.2.2 rfl).2.1)
    all_goals try (rename_i q; exact no fun z => q (z.2.2.1 rfl).1)
    all_goals try (rename_i q; exact no fun z => by have := (z.2.2.2 rfl).2.2; rw [this] at q; simp at q)
    · refine ⟨k + 1, ?_⟩
      repeat' (with_reducible refine And.intro ?_ ?_)
      all_goals try (rw [IntWalk.i64_in _ (by omega)]; first | rfl | omega)
      all_goals try omega
      all_goals try (repeat' (with_reducible first | exact Heap.le_refl _ | refine (le_upd (by first | assumption | exact And.right (by assumption) | exact upd_none.2 (by assumption))).2 ?_))
      all_goals try (simp only [DService.c_eq]; done)
      exact nx ⟨by assumption, by assumption, fun z => by simp at z, fun _ => ⟨by assumption, by assumption, (len0 _).1 (by omega)⟩⟩
    · have hq1 : s.fOwners[k] = -1 := by assumption
      first | refine CallSF.mk ((l08Form s.fJob s.fParts[k]).sub (by repeat' (first | exact SubL.nil | refine SubL.cons ?_ ?_ | exact Sub.refl _ | (rw [DExpr.c_eq]; exact Sub.refl _) | exact Sub.ipAt rfl rfl rfl | exact Sub.ip (map_get (by omega)) (by simp) | exact Sub.ipAt (map_get (by omega)) rfl rfl | exact Sub.ip (by simp [*]) (by simp) | exact Sub.ipAt (by simp [*]) (by rfl) (by rfl)))) ?_ | refine HFnF.mk ((l08Form s.fJob s.fParts[k]).sub (by repeat' (first | exact SubL.nil | refine SubL.cons ?_ ?_ | exact Sub.refl _ | (rw [DExpr.c_eq]; exact Sub.refl _) | exact Sub.ipAt rfl rfl rfl | exact Sub.ip (map_get (by omega)) (by simp) | exact Sub.ipAt (map_get (by omega)) rfl rfl | exact Sub.ip (by simp [*]) (by simp) | exact Sub.ipAt (by simp [*]) (by rfl) (by rfl)))) ?_
      simp (maxSteps := 1000000) -dsimp -implicitDefEqProofs only [go_sem, ↓reduceIte, keep63, ib63, mk63, Tryz.f63, g1, g2, g3, g4, DPart.c_eq]
      repeat' (with_reducible first | intro _ | refine And.intro ?_ ?_)
      all_goals try omega
      all_goals try (rename_i q; exact no fun z => q (z.2.2.1 rfl).2)
      refine ⟨k + 1, ?_⟩
      repeat' (with_reducible refine And.intro ?_ ?_)
      all_goals try (rw [IntWalk.i64_in _ (by omega)]; first | rfl | omega)
      all_goals try omega
      all_goals try (repeat' (with_reducible first | exact Heap.le_refl _ | refine (le_upd (by first | assumption | exact And.right (by assumption) | exact upd_none.2 (by assumption))).2 ?_))
      all_goals try (simp only [DService.c_eq]; done)
      exact nx ⟨by assumption, by assumption, fun _ => ⟨hq1, by assumption⟩, fun z => by simp at z⟩
  · have hk' : k = s.fJob.fTerms.length := by omega
    subst hk'
    simp (maxSteps := 1000000) -dsimp -implicitDefEqProofs only [go_sem, ↓reduceIte, keep63, ib63, mk63, Tryz.f63, Int.lt_irrefl, Nat.lt_irrefl]
    exact (decide_eq_true ⟨hjob, ⟨h1, h2, h3, h4⟩, fun j st ow kn p a b c d => hall j st ow kn p (by have := (List.getElem?_eq_some_iff.1 a).1; omega) a b c d⟩).symm
open Go.Proofs
set_option linter.unusedVariables false
set_option linter.unusedSimpArgs false
def keep67 : List Nat := [0, 1, 2, 3, 4, 5, 41, 43, 44, 45, 46, 65, 99]
def ib67 : List Nat := [1]
def mk67 : Marks := fun id => match id with | 9 => ([], (.op 0 (.op 1 (.op 2 (.op 3 (.op 4 (.op 5 (.op 6 (.op 7 (.op 8 (.op 9 (.op 10 (.op 11 (.op 12 (.op 13 (.op 14 (.op 15 (.op 16 (.op 17 (.op 18 (.op 19 (.op 20 (.op 21 (.op 22 (.op 23 (.op 24 (.op 25 (.op 26 (.op 27 (.op 28 (.op 29 (.op 30 (.op 31 (.op 32 (.op 33 .nil)))))))))))))))))))))))))))))))))), []) | _ => ([], .nil, [])
set_option maxRecDepth 100000 in
theorem ValidService (s : DService) (hps : s.fJob.fProgram.s ≤ 4194304) : Fn0 Tryz.prog 67 [.agg s.c] (.bool (decide s.ok)) := by
  have hj := ValidJob s.fJob hps
  simp only [DService.c_eq, DJob.c_eq] at hj ⊢
  refine fn0F 101 keep67 ib67 mk67 mix Tryz.func67 rfl (by kernel_rfl) (by simp) fun h => ?_
  simp (maxSteps := 1000000) -dsimp -implicitDefEqProofs only [go_sem, ↓reduceIte, keep67, ib67, mk67, Tryz.f67]
  intro _
  first | refine HFnF.mk (hj) ?_ | refine CallSF.mk (hj) ?_ | refine HFnF.mkAt (hj) ?_ | refine CallSF.mk (FnAt.fn0 (hj)) ?_
  simp (maxSteps := 1000000) -dsimp -implicitDefEqProofs only [go_sem, ↓reduceIte, keep67, ib67, mk67, Tryz.f67]
  repeat' (with_reducible first | intro _ | refine And.intro ?_ ?_)
  all_goals try (exact (decide_eq_false fun z => by have := z.2.1; omega).symm)
  all_goals try (rename_i hn; exact (decide_eq_false fun z => hn z.1).symm)
  have hjob : s.fJob.ok := by assumption
  have h1 : s.fStamps.length = s.fJob.fTerms.length := by assumption
  have h2 : s.fKnown.length = s.fJob.fTerms.length := by assumption
  have h3 : s.fParts.length = s.fJob.fTerms.length := by assumption
  have h4 : s.fOwners.length = s.fJob.fTerms.length := by assumption
  refine loopF (keep := keep67) (ib := ib67) (mk := mk67) mix (by kernel_rfl) (fun k : Nat => [(1, .ip 9 [s.c] 0 0), (43, sls 1 (fun b => [.bool b]) s.fKnown), (44, I s.fJob.fTerms.length), (45, I k)]) (fun _ => h) (fun k => k ≤ s.fJob.fTerms.length ∧ ∀ (j : Nat) (st ow : Int) (kn : Bool) (p : DPart), j < k → s.fStamps[j]? = some st → s.fOwners[j]? = some ow → s.fKnown[j]? = some kn → s.fParts[j]? = some p → svcAt s.fJob st ow kn p) (fun k => s.fJob.fTerms.length - k) 0 (by refine ⟨by simp [SatL, tget, DService.c_eq, h2], by simp [Heap.le_refl], by simp⟩) ?_
  intro k ⟨hk, hall⟩
  simp only [DService.c_eq]
  rcases Nat.lt_or_ge k s.fJob.fTerms.length with hlt | hge
  · have k1 : k < s.fStamps.length := by omega
    have k2 : k < s.fKnown.length := by omega
    have k3 : k < s.fParts.length := by omega
    have k4 : k < s.fOwners.length := by omega
    have g1 : s.fStamps[k]? = some s.fStamps[k] := List.getElem?_eq_getElem k1
    have g2 : s.fKnown[k]? = some s.fKnown[k] := List.getElem?_eq_getElem k2
    have g3 : s.fParts[k]? = some s.fParts[k] := List.getElem?_eq_getElem k3
    have g4 : s.fOwners[k]? = some s.fOwners[k] := List.getElem?_eq_getElem k4
    have no (q : ¬ svcAt s.fJob s.fStamps[k] s.fOwners[k] s.fKnown[k] s.fParts[k]) : false = decide s.ok := (decide_eq_false fun z => q (z.2.2 k _ _ _ _ g1 g4 g2 g3)).symm
    have nx (q : svcAt s.fJob s.fStamps[k] s.fOwners[k] s.fKnown[k] s.fParts[k]) : ∀ (j : Nat) (st ow : Int) (kn : Bool) (p : DPart), j < k + 1 → s.fStamps[j]? = some st → s.fOwners[j]? = some ow → s.fKnown[j]? = some kn → s.fParts[j]? = some p → svcAt s.fJob st ow kn p := by
      intro j st ow kn p hj a b c d
      rcases Nat.lt_succ_iff_lt_or_eq.1 hj with hj | rfl
      · exact hall j st ow kn p hj a b c d
      · rw [g1] at a; rw [g4] at b; rw [g2] at c; rw [g3] at d
        obtain rfl := Option.some.inj a
        obtain rfl := Option.some.inj b
        obtain rfl := Option.some.inj c
        obtain rfl := Option.some.inj d
        exact q
    cases hkn : s.fKnown[k]
    all_goals
      rw [hkn] at g2 no nx
      simp (maxSteps := 1000000) -dsimp -implicitDefEqProofs only [go_sem, ↓reduceIte, keep67, ib67, mk67, Tryz.f67, g1, g2, g3, g4, DPart.c_eq]
      repeat' (with_reducible first | intro _ | refine And.intro ?_ ?_)
      all_goals try omega
    all_goals (first | refine HFnF.mk (within s.fStamps[k] 0 50) ?_ | refine CallSF.mk (within s.fStamps[k] 0 50) ?_)
    all_goals simp (maxSteps := 1000000) -dsimp -implicitDefEqProofs only [go_sem, ↓reduceIte, keep67, ib67, mk67, Tryz.f67, g1, g2, g3, g4, DPart.c_eq]
    all_goals repeat' (with_reducible first | intro _ | refine And.intro ?_ ?_)
    all_goals try omega
    all_goals try (rename_i q; exact no fun z => q z.1)
    all_goals (first | refine HFnF.mk (within s.fOwners[k] (-1) 3) ?_ | refine CallSF.mk (within s.fOwners[k] (-1) 3) ?_)
    all_goals simp (maxSteps := 1000000) -dsimp -implicitDefEqProofs only [go_sem, ↓reduceIte, keep67, ib67, mk67, Tryz.f67, g1, g2, g3, g4, DPart.c_eq]
    all_goals repeat' (with_reducible first | intro _ | refine And.intro ?_ ?_)
    all_goals try omega
    all_goals try (rename_i q; exact no fun z => q z.2.1)
    · have hsp := (samePart s.fParts[k] ⟨0, 0, []⟩).sub (.cons (.refl _) (.cons (Sub.agg (.cons (.refl (I 0)) (.cons (.refl (I 0)) (.cons (Sub.nil 1 false) .nil)))) .nil))
      simp only [DPart.c_eq] at hsp
      first | refine HFnF.mk (hsp) ?_ | refine CallSF.mk (hsp) ?_ | refine HFnF.mkAt (hsp) ?_ | refine CallSF.mk (FnAt.fn0 (hsp)) ?_
      simp (maxSteps := 1000000) -dsimp -implicitDefEqProofs only [go_sem, ↓reduceIte, keep67, ib67, mk67, Tryz.f67]
      repeat' (with_reducible first | intro _ | refine And.intro ?_ ?_)
      · rename_i q
        exact no fun z => q (DPart.eq_iff.2 (z.2.2.2 rfl))
      · rename_i q
        have := DPart.eq_iff.1 q
        refine ⟨k + 1, ?_⟩
        repeat' (with_reducible refine And.intro ?_ ?_)
        all_goals try (rw [IntWalk.i64_in _ (by omega)]; first | rfl | omega)
        all_goals try omega
        all_goals try (repeat' (with_reducible first | exact Heap.le_refl _ | refine (le_upd (by first | assumption | exact And.right (by assumption) | exact upd_none.2 (by assumption))).2 ?_))
        all_goals try (simp only [DService.c_eq]; done)
        exact nx ⟨by assumption, by assumption, fun z => by simp at z, fun _ => this⟩
    · have hip := isPart s.fJob s.fParts[k]
      simp only [DPart.c_eq, DJob.c_eq] at hip
      first | refine HFnF.mk (hip) ?_ | refine CallSF.mk (hip) ?_ | refine HFnF.mkAt (hip) ?_ | refine CallSF.mk (FnAt.fn0 (hip)) ?_
      simp (maxSteps := 1000000) -dsimp -implicitDefEqProofs only [go_sem, ↓reduceIte, keep67, ib67, mk67, Tryz.f67, g1, g2, g3, g4, DPart.c_eq]
      repeat' (with_reducible first | intro _ | refine And.intro ?_ ?_)
      all_goals try omega
      all_goals try (rename_i q; exact no fun z => q (z.2.2.1 rfl).2)
      all_goals try (rename_i q; exact no fun z => q (z.2.2.1 rfl).1)
      refine ⟨k + 1, ?_⟩
      repeat' (with_reducible refine And.intro ?_ ?_)
      all_goals try (rw [IntWalk.i64_in _ (by omega)]; first | rfl | omega)
      all_goals try omega
      all_goals try (repeat' (with_reducible first | exact Heap.le_refl _ | refine (le_upd (by first | assumption | exact And.right (by assumption) | exact upd_none.2 (by assumption))).2 ?_))
      all_goals try (simp only [DService.c_eq]; done)
      exact nx ⟨by assumption, by assumption, fun _ => ⟨by assumption, by assumption⟩, fun z => by simp at z⟩
  · have hk' : k = s.fJob.fTerms.length := by omega
    subst hk'
    simp (maxSteps := 1000000) -dsimp -implicitDefEqProofs only [go_sem, ↓reduceIte, keep67, ib67, mk67, Tryz.f67, Int.lt_irrefl, Nat.lt_irrefl]
    exact (decide_eq_true ⟨hjob, ⟨h1, h2, h3, h4⟩, fun j st ow kn p a b c d => hall j st ow kn p (by have := (List.getElem?_eq_some_iff.1 a).1; omega) a b c d⟩).symm
open Go.Proofs
set_option linter.unusedVariables false
set_option linter.unusedSimpArgs false


def keep240 : List Nat := [0, 2, 3, 4, 11]
def ib240 : List Nat := []
def mk240 : Marks := fun _ => ([], .nil, [])
set_option maxRecDepth 100000 in
theorem to_ExprS (l : List DExpr) (h1 : l.length ≤ 1048576) (hc : ∀ x ∈ l, Fn0 Tryz.prog 280 [(.agg (DExpr.c x))] (.agg (DExpr.c x))) : Fn0 Tryz.prog 240 [(sls 5 DExpr.c l)] (sls 5 DExpr.c l) := by
  refine fn0S 23 keep240 ib240 mk240 mix Tryz.func240 rfl (by kernel_rfl) (by simp) fun h => ?_
  simp -dsimp -implicitDefEqProofs only [go_sem, Tryz.f240, ↓reduceIte, keep240, ib240, mk240]
  refine fun _ => ⟨by omega, by omega, by omega, by omega, fun n hn => ?_⟩
  refine loopF (keep := keep240) (ib := ib240) (mk := mk240) mix (by kernel_rfl) (fun k : Nat => [(0, (sls 5 DExpr.c l)), (3, .os n 5 0 l.length), (4, I k)]) (fun k => upd h n (.row 5 (fillUp DExpr.c [.int .i64 0, .int .i64 0, .int .i64 0, .int .i64 0, .nilsl] l k))) (fun k => k ≤ l.length) (fun k => l.length - k) 0 (by simp [SatL, tget, Heap.le_refl, fillUp_zero]) ?_
  intro k hk
  rcases Nat.lt_or_ge k l.length with hlt | hge
  · have ea : l[k]? = some l[k] := List.getElem?_eq_getElem hlt
    simp -dsimp -implicitDefEqProofs only [go_sem, ↓reduceIte, keep240, ib240, mk240, Tryz.f240, ea, fillUp_get _ _ _ _ hlt, DExpr.c_eq]
    refine fun _ => ⟨fun _ => ⟨hlt, ?_⟩, fun hn => absurd hlt hn⟩
    have hx := hc l[k] (List.getElem_mem hlt)
    simp only [DExpr.c_eq] at hx
    refine HFnF.mk hx ?_
    simp -dsimp -implicitDefEqProofs only [go_sem, ↓reduceIte, keep240, ib240, mk240, Tryz.f240, fillUp_get _ _ _ _ hlt]
    refine ⟨hlt, k + 1, by rw [IntWalk.i64_in _ (by omega)]; rfl, ?_, by omega, by omega⟩
    exact le_fill hlt (by first | rfl | (simp only [List.map_cons, List.map_nil, DExpr.c_eq]))
  · have hk' : k = l.length := by omega
    subst hk'
    simp -dsimp -implicitDefEqProofs only [go_sem, ↓reduceIte, keep240, ib240, mk240, Tryz.f240, Nat.lt_irrefl]
    rw [fillUp_all]
    exact fun _ => shift_row _ hn (Heap.le_refl _) _ (by simp)

def keep280 : List Nat := [0, 1, 2, 3]
def ib280 : List Nat := [1]
def mk280 : Marks := fun _ => ([], .nil, [])
set_option maxRecDepth 100000 in
theorem to_Expr_step (x : DExpr) (hs : x.s ≤ 1048576) (hk : Fn0 Tryz.prog 240 [(sls 5 DExpr.c x.fKids)] (sls 5 DExpr.c x.fKids)) : Fn0 Tryz.prog 280 [.agg x.c] (.agg x.c) := by
  rw [DExpr.s_eq] at hs
  simp only [DExpr.c_eq]
  refine fn0S 21 keep280 ib280 mk280 mix Tryz.func280 rfl (by kernel_rfl) (by simp) fun h => ?_
  simp -dsimp -implicitDefEqProofs only [go_sem, Tryz.f280, ↓reduceIte, keep280, ib280, mk280]
  intro n2 h2 n3 h3
  have e1 : (n2 = n3) = False := eq_false fun e => h3.1 e.symm
  have e2 : (n3 = n2) = False := eq_false h3.1
  have hzfKids : (x.fKids).length + ((x.fKids).map DExpr.s).sum = (szs DExpr.s x.fKids) := rfl
  refine HFnF.mk hk ?_
  simp -dsimp -implicitDefEqProofs only [go_sem, ↓reduceIte, keep280, ib280, mk280, Tryz.f280, upd_upd, upd_get, e1, e2]
  exact shift_le (by simp -dsimp -implicitDefEqProofs only [go_sem, h2, h3, e1, e2, upd_get])
theorem to_Expr (x : DExpr) (hs : x.s ≤ 1048576) : Fn0 Tryz.prog 280 [.agg x.c] (.agg x.c) :=
  to_Expr_step x hs (to_ExprS x.fKids (by rw [DExpr.s_eq] at hs; rw [szs_eq] at hs; omega) fun y hy => to_Expr y (by rw [DExpr.s_eq] at hs; have := sum_mem DExpr.s hy; rw [szs_eq] at hs; omega))
termination_by SizeOf.sizeOf x
decreasing_by exact DExpr.kid_lt hy

def keep167 : List Nat := [0, 1, 2, 3]
def ib167 : List Nat := [1]
def mk167 : Marks := fun _ => ([], .nil, [])
set_option maxRecDepth 100000 in
theorem to_Func (x : DFunc) (hs : x.s ≤ 1048576) : Fn0 Tryz.prog 167 [.agg x.c] (.agg x.c) := by
  rw [DFunc.s_eq] at hs
  simp only [DFunc.c_eq]
  refine fn0S 15 keep167 ib167 mk167 mix Tryz.func167 rfl (by kernel_rfl) (by simp) fun h => ?_
  simp -dsimp -implicitDefEqProofs only [go_sem, Tryz.f167, ↓reduceIte, keep167, ib167, mk167]
  intro n2 h2 n3 h3
  have e1 : (n2 = n3) = False := eq_false fun e => h3.1 e.symm
  have e2 : (n3 = n2) = False := eq_false h3.1
  have hzfOuts : (x.fOuts).length + ((x.fOuts).map DExpr.s).sum = (szs DExpr.s x.fOuts) := rfl
  refine HFnF.mk (to_ExprS x.fOuts (by omega) (fun y hy => to_Expr y (by have hq : (DExpr.s y) ≤ ((x.fOuts).map DExpr.s).sum := sum_mem DExpr.s hy; omega))) ?_
  simp -dsimp -implicitDefEqProofs only [go_sem, ↓reduceIte, keep167, ib167, mk167, Tryz.f167, upd_upd, upd_get, e1, e2]
  exact shift_le (by simp -dsimp -implicitDefEqProofs only [go_sem, h2, h3, e1, e2, upd_get])

def keep85 : List Nat := [0, 2, 3, 4, 11]
def ib85 : List Nat := []
def mk85 : Marks := fun _ => ([], .nil, [])
set_option maxRecDepth 100000 in
theorem to_FuncS (l : List DFunc) (h1 : l.length ≤ 1048576) (hc : ∀ x ∈ l, Fn0 Tryz.prog 167 [(.agg (DFunc.c x))] (.agg (DFunc.c x))) : Fn0 Tryz.prog 85 [(sls 3 DFunc.c l)] (sls 3 DFunc.c l) := by
  refine fn0S 23 keep85 ib85 mk85 mix Tryz.func85 rfl (by kernel_rfl) (by simp) fun h => ?_
  simp -dsimp -implicitDefEqProofs only [go_sem, Tryz.f85, ↓reduceIte, keep85, ib85, mk85]
  refine fun _ => ⟨by omega, by omega, by omega, by omega, fun n hn => ?_⟩
  refine loopF (keep := keep85) (ib := ib85) (mk := mk85) mix (by kernel_rfl) (fun k : Nat => [(0, (sls 3 DFunc.c l)), (3, .os n 3 0 l.length), (4, I k)]) (fun k => upd h n (.row 3 (fillUp DFunc.c [.str [], .int .i64 0, .nilsl] l k))) (fun k => k ≤ l.length) (fun k => l.length - k) 0 (by simp [SatL, tget, Heap.le_refl, fillUp_zero]) ?_
  intro k hk
  rcases Nat.lt_or_ge k l.length with hlt | hge
  · have ea : l[k]? = some l[k] := List.getElem?_eq_getElem hlt
    simp -dsimp -implicitDefEqProofs only [go_sem, ↓reduceIte, keep85, ib85, mk85, Tryz.f85, ea, fillUp_get _ _ _ _ hlt, DFunc.c_eq]
    refine fun _ => ⟨fun _ => ⟨hlt, ?_⟩, fun hn => absurd hlt hn⟩
    have hx := hc l[k] (List.getElem_mem hlt)
    simp only [DFunc.c_eq] at hx
    refine HFnF.mk hx ?_
    simp -dsimp -implicitDefEqProofs only [go_sem, ↓reduceIte, keep85, ib85, mk85, Tryz.f85, fillUp_get _ _ _ _ hlt]
    refine ⟨hlt, k + 1, by rw [IntWalk.i64_in _ (by omega)]; rfl, ?_, by omega, by omega⟩
    exact le_fill hlt (by first | rfl | (simp only [List.map_cons, List.map_nil, DFunc.c_eq]))
  · have hk' : k = l.length := by omega
    subst hk'
    simp -dsimp -implicitDefEqProofs only [go_sem, ↓reduceIte, keep85, ib85, mk85, Tryz.f85, Nat.lt_irrefl]
    rw [fillUp_all]
    exact fun _ => shift_row _ hn (Heap.le_refl _) _ (by simp)

def keep34 : List Nat := [0, 1, 2, 3]
def ib34 : List Nat := [1]
def mk34 : Marks := fun _ => ([], .nil, [])
set_option maxRecDepth 100000 in
theorem to_Program (x : DProgram) (hs : x.s ≤ 1048576) : Fn0 Tryz.prog 34 [.agg x.c] (.agg x.c) := by
  rw [DProgram.s_eq] at hs
  simp only [DProgram.c_eq]
  refine fn0S 9 keep34 ib34 mk34 mix Tryz.func34 rfl (by kernel_rfl) (by simp) fun h => ?_
  simp -dsimp -implicitDefEqProofs only [go_sem, Tryz.f34, ↓reduceIte, keep34, ib34, mk34]
  intro n2 h2 n3 h3
  have e1 : (n2 = n3) = False := eq_false fun e => h3.1 e.symm
  have e2 : (n3 = n2) = False := eq_false h3.1
  have hzfFuncs : (x.fFuncs).length + ((x.fFuncs).map DFunc.s).sum = (szs DFunc.s x.fFuncs) := rfl
  refine HFnF.mk (to_FuncS x.fFuncs (by omega) (fun y hy => to_Func y (by have hq : (DFunc.s y) ≤ ((x.fFuncs).map DFunc.s).sum := sum_mem DFunc.s hy; omega))) ?_
  simp -dsimp -implicitDefEqProofs only [go_sem, ↓reduceIte, keep34, ib34, mk34, Tryz.f34, upd_upd, upd_get, e1, e2]
  exact shift_le (by simp -dsimp -implicitDefEqProofs only [go_sem, h2, h3, e1, e2, upd_get])

def keep30 : List Nat := [0, 2, 3, 4, 11]
def ib30 : List Nat := []
def mk30 : Marks := fun _ => ([], .nil, [])
set_option maxRecDepth 100000 in
theorem to_Int64S (l : List Int) (h1 : l.length ≤ 1048576) : Fn0 Tryz.prog 30 [(sls 1 (fun n => [I n]) l)] (sls 1 (fun n => [I n]) l) := by
  refine fn0S 22 keep30 ib30 mk30 mix Tryz.func30 rfl (by kernel_rfl) (by simp) fun h => ?_
  simp -dsimp -implicitDefEqProofs only [go_sem, Tryz.f30, ↓reduceIte, keep30, ib30, mk30]
  refine fun _ => ⟨by omega, by omega, by omega, by omega, fun n hn => ?_⟩
  refine loopF (keep := keep30) (ib := ib30) (mk := mk30) mix (by kernel_rfl) (fun k : Nat => [(0, (sls 1 (fun n => [I n]) l)), (3, .os n 1 0 l.length), (4, I k)]) (fun k => upd h n (.row 1 (fillUp (fun n => [I n]) [.int .i64 0] l k))) (fun k => k ≤ l.length) (fun k => l.length - k) 0 (by simp [SatL, tget, Heap.le_refl, fillUp_zero]) ?_
  intro k hk
  rcases Nat.lt_or_ge k l.length with hlt | hge
  · have ea : l[k]? = some l[k] := List.getElem?_eq_getElem hlt
    simp -dsimp -implicitDefEqProofs only [go_sem, ↓reduceIte, keep30, ib30, mk30, Tryz.f30, ea, fillUp_get _ _ _ _ hlt]
    refine fun _ => ⟨fun _ => ⟨hlt, hlt, k + 1, by rw [IntWalk.i64_in _ (by omega)]; rfl, ?_, by omega, by omega⟩, fun hn => absurd hlt hn⟩
    exact le_fill hlt rfl
  · have hk' : k = l.length := by omega
    subst hk'
    simp -dsimp -implicitDefEqProofs only [go_sem, ↓reduceIte, keep30, ib30, mk30, Tryz.f30, Nat.lt_irrefl]
    rw [fillUp_all]
    exact fun _ => shift_row _ hn (Heap.le_refl _) _ (by simp)

def keep50 : List Nat := [0, 2, 3, 4, 11]
def ib50 : List Nat := []
def mk50 : Marks := fun _ => ([], .nil, [])
set_option maxRecDepth 100000 in
theorem to_Int64SS (l : List (List Int)) (h1 : l.length ≤ 1048576) (hc : ∀ x ∈ l, Fn0 Tryz.prog 30 [(sls 1 (fun n => [I n]) x)] (sls 1 (fun n => [I n]) x)) : Fn0 Tryz.prog 50 [(sls 1 (fun x => [sls 1 (fun n => [I n]) x]) l)] (sls 1 (fun x => [sls 1 (fun n => [I n]) x]) l) := by
  refine fn0S 23 keep50 ib50 mk50 mix Tryz.func50 rfl (by kernel_rfl) (by simp) fun h => ?_
  simp -dsimp -implicitDefEqProofs only [go_sem, Tryz.f50, ↓reduceIte, keep50, ib50, mk50]
  refine fun _ => ⟨by omega, by omega, by omega, by omega, fun n hn => ?_⟩
  refine loopF (keep := keep50) (ib := ib50) (mk := mk50) mix (by kernel_rfl) (fun k : Nat => [(0, (sls 1 (fun x => [sls 1 (fun n => [I n]) x]) l)), (3, .os n 1 0 l.length), (4, I k)]) (fun k => upd h n (.row 1 (fillUp (fun x => [sls 1 (fun n => [I n]) x]) [.nilsl] l k))) (fun k => k ≤ l.length) (fun k => l.length - k) 0 (by simp [SatL, tget, Heap.le_refl, fillUp_zero]) ?_
  intro k hk
  rcases Nat.lt_or_ge k l.length with hlt | hge
  · have ea : l[k]? = some l[k] := List.getElem?_eq_getElem hlt
    simp -dsimp -implicitDefEqProofs only [go_sem, ↓reduceIte, keep50, ib50, mk50, Tryz.f50, ea, fillUp_get _ _ _ _ hlt]
    refine fun _ => ⟨fun _ => ⟨hlt, ?_⟩, fun hn => absurd hlt hn⟩
    have hx := hc l[k] (List.getElem_mem hlt)
    refine HFnF.mk hx ?_
    simp -dsimp -implicitDefEqProofs only [go_sem, ↓reduceIte, keep50, ib50, mk50, Tryz.f50, fillUp_get _ _ _ _ hlt]
    refine ⟨hlt, k + 1, by rw [IntWalk.i64_in _ (by omega)]; rfl, ?_, by omega, by omega⟩
    exact le_fill hlt (by first | rfl | (simp only [List.map_cons, List.map_nil]))
  · have hk' : k = l.length := by omega
    subst hk'
    simp -dsimp -implicitDefEqProofs only [go_sem, ↓reduceIte, keep50, ib50, mk50, Tryz.f50, Nat.lt_irrefl]
    rw [fillUp_all]
    exact fun _ => shift_row _ hn (Heap.le_refl _) _ (by simp)

def keep12 : List Nat := [0, 1, 2, 3]
def ib12 : List Nat := [1]
def mk12 : Marks := fun _ => ([], .nil, [])
set_option maxRecDepth 100000 in
theorem to_Job (x : DJob) (hs : x.s ≤ 1048576) : Fn0 Tryz.prog 12 [.agg x.c] (.agg x.c) := by
  rw [DJob.s_eq] at hs
  simp only [DJob.c_eq]
  refine fn0S 23 keep12 ib12 mk12 mix Tryz.func12 rfl (by kernel_rfl) (by simp) fun h => ?_
  simp -dsimp -implicitDefEqProofs only [go_sem, Tryz.f12, ↓reduceIte, keep12, ib12, mk12]
  intro n2 h2 n3 h3
  have e1 : (n2 = n3) = False := eq_false fun e => h3.1 e.symm
  have e2 : (n3 = n2) = False := eq_false h3.1
  have hzfTerms : (x.fTerms).length + ((x.fTerms).map (fun x : List Int => x.length)).sum = (szs (fun x : List Int => x.length) x.fTerms) := rfl
  refine HFnF.mk (to_Program x.fProgram (by omega)) ?_
  simp -dsimp -implicitDefEqProofs only [go_sem, ↓reduceIte, keep12, ib12, mk12, Tryz.f12, upd_upd, upd_get, e1, e2, DProgram.c_eq]
  refine HFnF.mk (to_Int64S x.fPoint (by omega)) ?_
  simp -dsimp -implicitDefEqProofs only [go_sem, ↓reduceIte, keep12, ib12, mk12, Tryz.f12, upd_upd, upd_get, e1, e2]
  refine HFnF.mk (to_Int64SS x.fTerms (by omega) (fun y hy => to_Int64S y (by have hq : y.length ≤ ((x.fTerms).map (fun x : List Int => x.length)).sum := sum_mem (fun x : List Int => x.length) hy; omega))) ?_
  simp -dsimp -implicitDefEqProofs only [go_sem, ↓reduceIte, keep12, ib12, mk12, Tryz.f12, upd_upd, upd_get, e1, e2]
  exact shift_le (by simp -dsimp -implicitDefEqProofs only [go_sem, h2, h3, e1, e2, upd_get])


def keep65 : List Nat := [0, 2, 3, 4, 11]
def ib65 : List Nat := []
def mk65 : Marks := fun _ => ([], .nil, [])
set_option maxRecDepth 100000 in
theorem to_BoolS (l : List Bool) (h1 : l.length ≤ 1048576) : Fn0 Tryz.prog 65 [(sls 1 (fun b => [.bool b]) l)] (sls 1 (fun b => [.bool b]) l) := by
  refine fn0S 22 keep65 ib65 mk65 mix Tryz.func65 rfl (by kernel_rfl) (by simp) fun h => ?_
  simp -dsimp -implicitDefEqProofs only [go_sem, Tryz.f65, ↓reduceIte, keep65, ib65, mk65]
  refine fun _ => ⟨by omega, by omega, by omega, by omega, fun n hn => ?_⟩
  refine loopF (keep := keep65) (ib := ib65) (mk := mk65) mix (by kernel_rfl) (fun k : Nat => [(0, (sls 1 (fun b => [.bool b]) l)), (3, .os n 1 0 l.length), (4, I k)]) (fun k => upd h n (.row 1 (fillUp (fun b => [.bool b]) [.bool false] l k))) (fun k => k ≤ l.length) (fun k => l.length - k) 0 (by simp [SatL, tget, Heap.le_refl, fillUp_zero]) ?_
  intro k hk
  rcases Nat.lt_or_ge k l.length with hlt | hge
  · have ea : l[k]? = some l[k] := List.getElem?_eq_getElem hlt
    simp -dsimp -implicitDefEqProofs only [go_sem, ↓reduceIte, keep65, ib65, mk65, Tryz.f65, ea, fillUp_get _ _ _ _ hlt]
    refine fun _ => ⟨fun _ => ⟨hlt, hlt, k + 1, by rw [IntWalk.i64_in _ (by omega)]; rfl, ?_, by omega, by omega⟩, fun hn => absurd hlt hn⟩
    exact le_fill hlt rfl
  · have hk' : k = l.length := by omega
    subst hk'
    simp -dsimp -implicitDefEqProofs only [go_sem, ↓reduceIte, keep65, ib65, mk65, Tryz.f65, Nat.lt_irrefl]
    rw [fillUp_all]
    exact fun _ => shift_row _ hn (Heap.le_refl _) _ (by simp)

def keep148 : List Nat := [0, 1, 2, 3]
def ib148 : List Nat := [1]
def mk148 : Marks := fun _ => ([], .nil, [])
set_option maxRecDepth 100000 in
theorem to_Part (x : DPart) (hs : x.s ≤ 1048576) : Fn0 Tryz.prog 148 [.agg x.c] (.agg x.c) := by
  rw [DPart.s_eq] at hs
  simp only [DPart.c_eq]
  refine fn0S 15 keep148 ib148 mk148 mix Tryz.func148 rfl (by kernel_rfl) (by simp) fun h => ?_
  simp -dsimp -implicitDefEqProofs only [go_sem, Tryz.f148, ↓reduceIte, keep148, ib148, mk148]
  intro n2 h2 n3 h3
  have e1 : (n2 = n3) = False := eq_false fun e => h3.1 e.symm
  have e2 : (n3 = n2) = False := eq_false h3.1
  refine HFnF.mk (to_Int64S x.fGrad (by omega)) ?_
  simp -dsimp -implicitDefEqProofs only [go_sem, ↓reduceIte, keep148, ib148, mk148, Tryz.f148, upd_upd, upd_get, e1, e2]
  exact shift_le (by simp -dsimp -implicitDefEqProofs only [go_sem, h2, h3, e1, e2, upd_get])

def keep66 : List Nat := [0, 2, 3, 4, 11]
def ib66 : List Nat := []
def mk66 : Marks := fun _ => ([], .nil, [])
set_option maxRecDepth 100000 in
theorem to_PartS (l : List DPart) (h1 : l.length ≤ 1048576) (hc : ∀ x ∈ l, Fn0 Tryz.prog 148 [(.agg (DPart.c x))] (.agg (DPart.c x))) : Fn0 Tryz.prog 66 [(sls 3 DPart.c l)] (sls 3 DPart.c l) := by
  refine fn0S 23 keep66 ib66 mk66 mix Tryz.func66 rfl (by kernel_rfl) (by simp) fun h => ?_
  simp -dsimp -implicitDefEqProofs only [go_sem, Tryz.f66, ↓reduceIte, keep66, ib66, mk66]
  refine fun _ => ⟨by omega, by omega, by omega, by omega, fun n hn => ?_⟩
  refine loopF (keep := keep66) (ib := ib66) (mk := mk66) mix (by kernel_rfl) (fun k : Nat => [(0, (sls 3 DPart.c l)), (3, .os n 3 0 l.length), (4, I k)]) (fun k => upd h n (.row 3 (fillUp DPart.c [.int .i64 0, .int .i64 0, .nilsl] l k))) (fun k => k ≤ l.length) (fun k => l.length - k) 0 (by simp [SatL, tget, Heap.le_refl, fillUp_zero]) ?_
  intro k hk
  rcases Nat.lt_or_ge k l.length with hlt | hge
  · have ea : l[k]? = some l[k] := List.getElem?_eq_getElem hlt
    simp -dsimp -implicitDefEqProofs only [go_sem, ↓reduceIte, keep66, ib66, mk66, Tryz.f66, ea, fillUp_get _ _ _ _ hlt, DPart.c_eq]
    refine fun _ => ⟨fun _ => ⟨hlt, ?_⟩, fun hn => absurd hlt hn⟩
    have hx := hc l[k] (List.getElem_mem hlt)
    simp only [DPart.c_eq] at hx
    refine HFnF.mk hx ?_
    simp -dsimp -implicitDefEqProofs only [go_sem, ↓reduceIte, keep66, ib66, mk66, Tryz.f66, fillUp_get _ _ _ _ hlt]
    refine ⟨hlt, k + 1, by rw [IntWalk.i64_in _ (by omega)]; rfl, ?_, by omega, by omega⟩
    exact le_fill hlt (by first | rfl | (simp only [List.map_cons, List.map_nil, DPart.c_eq]))
  · have hk' : k = l.length := by omega
    subst hk'
    simp -dsimp -implicitDefEqProofs only [go_sem, ↓reduceIte, keep66, ib66, mk66, Tryz.f66, Nat.lt_irrefl]
    rw [fillUp_all]
    exact fun _ => shift_row _ hn (Heap.le_refl _) _ (by simp)

def keep26 : List Nat := [0, 1, 2, 3]
def ib26 : List Nat := [1]
def mk26 : Marks := fun _ => ([], .nil, [])
set_option maxRecDepth 100000 in
theorem to_Service (x : DService) (hs : x.s ≤ 1048576) : Fn0 Tryz.prog 26 [.agg x.c] (.agg x.c) := by
  rw [DService.s_eq] at hs
  simp only [DService.c_eq]
  refine fn0S 25 keep26 ib26 mk26 mix Tryz.func26 rfl (by kernel_rfl) (by simp) fun h => ?_
  simp -dsimp -implicitDefEqProofs only [go_sem, Tryz.f26, ↓reduceIte, keep26, ib26, mk26]
  intro n2 h2 n3 h3
  have e1 : (n2 = n3) = False := eq_false fun e => h3.1 e.symm
  have e2 : (n3 = n2) = False := eq_false h3.1
  have hzfParts : (x.fParts).length + ((x.fParts).map DPart.s).sum = (szs DPart.s x.fParts) := rfl
  refine HFnF.mk (to_Job x.fJob (by omega)) ?_
  simp -dsimp -implicitDefEqProofs only [go_sem, ↓reduceIte, keep26, ib26, mk26, Tryz.f26, upd_upd, upd_get, e1, e2, DJob.c_eq]
  refine HFnF.mk (to_Int64S x.fStamps (by omega)) ?_
  simp -dsimp -implicitDefEqProofs only [go_sem, ↓reduceIte, keep26, ib26, mk26, Tryz.f26, upd_upd, upd_get, e1, e2]
  refine HFnF.mk (to_BoolS x.fKnown (by omega)) ?_
  simp -dsimp -implicitDefEqProofs only [go_sem, ↓reduceIte, keep26, ib26, mk26, Tryz.f26, upd_upd, upd_get, e1, e2]
  refine HFnF.mk (to_PartS x.fParts (by omega) (fun y hy => to_Part y (by have hq : (DPart.s y) ≤ ((x.fParts).map DPart.s).sum := sum_mem DPart.s hy; omega))) ?_
  simp -dsimp -implicitDefEqProofs only [go_sem, ↓reduceIte, keep26, ib26, mk26, Tryz.f26, upd_upd, upd_get, e1, e2]
  refine HFnF.mk (to_Int64S x.fOwners (by omega)) ?_
  simp -dsimp -implicitDefEqProofs only [go_sem, ↓reduceIte, keep26, ib26, mk26, Tryz.f26, upd_upd, upd_get, e1, e2]
  exact shift_le (by simp -dsimp -implicitDefEqProofs only [go_sem, h2, h3, e1, e2, upd_get])

open Go.Proofs
set_option linter.unusedVariables false
set_option linter.unusedSimpArgs false
mutual
def DExpr.o : DExpr → List OV → Prop
  | .mk fKind fNum fPick fCount fKids, e => ∃ y, e = [.v (.int .i64 fKind), .v (.int .i64 fNum), .v (.int .i64 fPick), .v (.int .i64 fCount), y] ∧ ((y = .nil 5 ∧ fKids = []) ∨ ∃ n es, y = .sl n 5 es ∧ DExpr.oR fKids es)
def DExpr.oR : List DExpr → List (List OV) → Prop
  | [], [] => True
  | x :: l, e :: es => x.o e ∧ DExpr.oR l es
  | _, _ => False
end
theorem DExpr.oR_eq : ∀ (l : List DExpr) (es : List (List OV)), DExpr.oR l es = OR DExpr.o l es
  | [], [] => rfl
  | x :: l, e :: es => by rw [DExpr.oR, OR, DExpr.oR_eq l es]
  | [], _ :: _ => rfl
  | _ :: _, [] => rfl
theorem DExpr.o_iff (x : DExpr) (e : List OV) : x.o e ↔ ∃ y4, e = [.v (.int .i64 x.fKind), .v (.int .i64 x.fNum), .v (.int .i64 x.fPick), .v (.int .i64 x.fCount), y4] ∧ OS DExpr.o 5 x.fKids y4 := by
  cases x
  simp only [DExpr.o, DExpr.oR_eq, OS]
  rfl
mutual
theorem DExpr.o_dat : ∀ {x : DExpr} {e : List OV}, x.o e → e.map OV.dat = x.c
  | .mk fKind fNum fPick fCount fKids, e, h => by
    rw [DExpr.o_iff] at h
    obtain ⟨y, rfl, h⟩ := h
    have hk : y.dat = .sl 5 (fKids.map DExpr.c) false := by
      rcases h with ⟨rfl, h0⟩ | ⟨n, es, rfl, h⟩
      · have h1 : fKids = [] := h0
        subst h1; rfl
      · simp only [OV.dat]
        rw [DExpr.o_datR h]
        rfl
    rw [DExpr.c_eq]
    simp only [List.map_cons, List.map_nil, OV.dat, hk]
    rfl
theorem DExpr.o_datR : ∀ {l : List DExpr} {es : List (List OV)}, OR DExpr.o l es → OV.datRows es = l.map DExpr.c
  | [], [], _ => rfl
  | x :: l, e :: es, h => by rw [OV.datRows, DExpr.o_datR h.2, OV.datRow_map, DExpr.o_dat h.1]; rfl
  | [], _ :: _, h => h.elim
  | _ :: _, [], h => h.elim
end
def DFunc.o (x : DFunc) (e : List OV) : Prop := ∃ y2, e = [.v (.str x.fName), .v (.int .i64 x.fParams), y2] ∧ OS DExpr.o 5 x.fOuts y2
theorem DFunc.o_dat {x : DFunc} {e : List OV} (h : x.o e) : e.map OV.dat = x.c := by
  obtain ⟨y2, rfl, o2⟩ := h
  have d2 := OS.dat (c := DExpr.c) (fun _ _ q => DExpr.o_dat q) o2
  rw [DFunc.c_eq]
  simp only [List.map_cons, List.map_nil, OV.dat, d2]
def DProgram.o (x : DProgram) (e : List OV) : Prop := ∃ y0, e = [y0] ∧ OS DFunc.o 3 x.fFuncs y0
theorem DProgram.o_dat {x : DProgram} {e : List OV} (h : x.o e) : e.map OV.dat = x.c := by
  obtain ⟨y0, rfl, o0⟩ := h
  have d0 := OS.dat (c := DFunc.c) (fun _ _ q => DFunc.o_dat q) o0
  rw [DProgram.c_eq]
  simp only [List.map_cons, List.map_nil, OV.dat, d0]
def DJob.o (x : DJob) (e : List OV) : Prop := ∃ y0 y3 y4, e = [y0, .v (.int .i64 x.fFunc), .v (.int .i64 x.fShared), y3, y4] ∧ OS DFunc.o 3 x.fProgram.fFuncs y0 ∧ OS (oP I) 1 x.fPoint y3 ∧ OS (oS (oP I) 1) 1 x.fTerms y4
theorem DJob.o_dat {x : DJob} {e : List OV} (h : x.o e) : e.map OV.dat = x.c := by
  obtain ⟨y0, y3, y4, rfl, o0, o3, o4⟩ := h
  have d0 := OS.dat (c := DFunc.c) (fun _ _ q => DFunc.o_dat q) o0
  have d3 := OS.dat (c := (fun n => [I n])) (fun _ _ q => oP_dat q) o3
  have d4 := OS.dat (c := (fun x => [sls 1 (fun n => [I n]) x])) (fun _ _ q => oS_dat (c := (fun n => [I n])) (fun _ _ q => oP_dat q) q) o4
  rw [DJob.c_eq]
  simp only [List.map_cons, List.map_nil, OV.dat, d0, d3, d4]
def DPart.o (x : DPart) (e : List OV) : Prop := ∃ y2, e = [.v (.int .i64 x.fCode), .v (.int .i64 x.fValue), y2] ∧ OS (oP I) 1 x.fGrad y2
theorem DPart.o_dat {x : DPart} {e : List OV} (h : x.o e) : e.map OV.dat = x.c := by
  obtain ⟨y2, rfl, o2⟩ := h
  have d2 := OS.dat (c := (fun n => [I n])) (fun _ _ q => oP_dat q) o2
  rw [DPart.c_eq]
  simp only [List.map_cons, List.map_nil, OV.dat, d2]
def DService.o (x : DService) (e : List OV) : Prop := ∃ y0 y3 y4 y5 y6 y7 y8, e = [y0, .v (.int .i64 x.fJob.fFunc), .v (.int .i64 x.fJob.fShared), y3, y4, y5, y6, y7, y8] ∧ OS DFunc.o 3 x.fJob.fProgram.fFuncs y0 ∧ OS (oP I) 1 x.fJob.fPoint y3 ∧ OS (oS (oP I) 1) 1 x.fJob.fTerms y4 ∧ OS (oP I) 1 x.fStamps y5 ∧ OS (oP HVal.bool) 1 x.fKnown y6 ∧ OS DPart.o 3 x.fParts y7 ∧ OS (oP I) 1 x.fOwners y8
theorem DService.o_dat {x : DService} {e : List OV} (h : x.o e) : e.map OV.dat = x.c := by
  obtain ⟨y0, y3, y4, y5, y6, y7, y8, rfl, o0, o3, o4, o5, o6, o7, o8⟩ := h
  have d0 := OS.dat (c := DFunc.c) (fun _ _ q => DFunc.o_dat q) o0
  have d3 := OS.dat (c := (fun n => [I n])) (fun _ _ q => oP_dat q) o3
  have d4 := OS.dat (c := (fun x => [sls 1 (fun n => [I n]) x])) (fun _ _ q => oS_dat (c := (fun n => [I n])) (fun _ _ q => oP_dat q) q) o4
  have d5 := OS.dat (c := (fun n => [I n])) (fun _ _ q => oP_dat q) o5
  have d6 := OS.dat (c := (fun b => [.bool b])) (fun _ _ q => oP_dat q) o6
  have d7 := OS.dat (c := DPart.c) (fun _ _ q => DPart.o_dat q) o7
  have d8 := OS.dat (c := (fun n => [I n])) (fun _ _ q => oP_dat q) o8
  rw [DService.c_eq]
  simp only [List.map_cons, List.map_nil, OV.dat, d0, d3, d4, d5, d6, d7, d8]
def DTerm.o (x : DTerm) (e : List OV) : Prop := ∃ y0, e = [y0, .v (.int .i64 x.fCoef)] ∧ OS (oP I) 1 x.fExps y0
theorem DTerm.o_dat {x : DTerm} {e : List OV} (h : x.o e) : e.map OV.dat = x.c := by
  obtain ⟨y0, rfl, o0⟩ := h
  have d0 := OS.dat (c := (fun n => [I n])) (fun _ _ q => oP_dat q) o0
  rw [DTerm.c_eq]
  simp only [List.map_cons, List.map_nil, OV.dat, d0]
def DPoly.o (x : DPoly) (e : List OV) : Prop := ∃ y1, e = [.v (.int .i64 x.fVars), y1] ∧ OS DTerm.o 2 x.fTerms y1
theorem DPoly.o_dat {x : DPoly} {e : List OV} (h : x.o e) : e.map OV.dat = x.c := by
  obtain ⟨y1, rfl, o1⟩ := h
  have d1 := OS.dat (c := DTerm.c) (fun _ _ q => DTerm.o_dat q) o1
  rw [DPoly.c_eq]
  simp only [List.map_cons, List.map_nil, OV.dat, d1]

open Go.Proofs
set_option linter.unusedVariables false
set_option linter.unusedSimpArgs false


open Go.Proofs
set_option linter.unusedVariables false
set_option linter.unusedSimpArgs false
def keep142 : List Nat := [0, 2, 4]
def ib142 : List Nat := [5]
def mk142 : Marks := fun _ => ([], .nil, [])
set_option maxRecDepth 100000 in
theorem cloneI (l : List Int) (hl : l.length ≤ 1048576) : FnN Tryz.prog 142 [sls 1 (fun n => [I n]) l] (QS (OS (oP I) 1 l)) := by
  refine fnNF 8 keep142 ib142 mk142 mix Tryz.func142 rfl (by kernel_rfl) (by simp) fun h => ?_
  simp (maxSteps := 1000000) -dsimp -implicitDefEqProofs only [go_sem, ↓reduceIte, keep142, ib142, mk142, Tryz.f142]
  repeat' (with_reducible first | intro _ | refine And.intro ?_ ?_)
  all_goals try (first | exact own_nil (by assumption) | exact own_emp (by assumption) | exact own_row (by assumption) | omega)
def keep133 : List Nat := [0, 2]
def ib133 : List Nat := [3]
def mk133 : Marks := fun _ => ([], .nil, [])
set_option maxRecDepth 100000 in
theorem l00Own (l : List Int) (hl : l.length ≤ 1048576) : FnN Tryz.prog 133 [sls 1 (fun n => [I n]) l] (QS (OS (oP I) 1 l)) := by
  refine fnNF 6 keep133 ib133 mk133 mix Tryz.func133 rfl (by kernel_rfl) (by simp) fun h => ?_
  simp (maxSteps := 1000000) -dsimp -implicitDefEqProofs only [go_sem, ↓reduceIte, keep133, ib133, mk133, Tryz.f133]
  repeat' (with_reducible first | intro _ | refine And.intro ?_ ?_)
  all_goals try (first | exact own_nil (by assumption) | exact own_emp (by assumption) | exact own_row (by assumption) | omega)
open Go.Proofs
set_option linter.unusedVariables false
set_option linter.unusedSimpArgs false
open Go.Proofs
set_option linter.unusedVariables false
set_option linter.unusedSimpArgs false
open Go.Proofs
set_option linter.unusedVariables false
set_option linter.unusedSimpArgs false

open Go.Proofs
set_option linter.unusedVariables false
set_option linter.unusedSimpArgs false
theorem tmodP (n : Int) : n.tmod 1000003 = n % 1000003 ∨ n.tmod 1000003 = n % 1000003 - 1000003 := by
  by_cases h : 0 ≤ n
  · exact .inl (Int.tmod_eq_emod_of_nonneg h)
  · have h1 : n.tmod 1000003 = -((-n) % 1000003) := by
      have h2 : n = -(-n) := by omega
      rw [h2, Int.neg_tmod, Int.tmod_eq_emod_of_nonneg (by omega), Int.neg_neg]
    rw [h1]; omega
def keep233 : List Nat := [0, 2]
def ib233 : List Nat := []
def mk233 : Marks := fun _ => ([], .nil, [])
theorem Residue (n : Int) : Fn0 Tryz.prog 233 [I n] (I (n % 1000003)) := by
  refine fn0F 7 keep233 ib233 mk233 mix Tryz.func233 rfl (by kernel_rfl) (by simp) fun h => ?_
  simp (maxSteps := 1000000) -dsimp -implicitDefEqProofs only [go_sem, ↓reduceIte, keep233, ib233, mk233, Tryz.f233]
  rcases tmodP n with h | h
  all_goals
    rw [h, IntWalk.i64_in _ (by omega), Int.tmod_eq_emod_of_nonneg (by omega)]
    omega
def keep165 : List Nat := [0, 2, 3, 7]
def ib165 : List Nat := []
def mk165 : Marks := fun _ => ([], .nil, [])
theorem specResidue (n : Int) : Fn0 Tryz.prog 165 [I n] (I (n % 1000003)) := by
  refine fn0F 11 keep165 ib165 mk165 mix Tryz.func165 rfl (by kernel_rfl) (by simp) fun h => ?_
  simp (maxSteps := 1000000) -dsimp -implicitDefEqProofs only [go_sem, ↓reduceIte, keep165, ib165, mk165, Tryz.f165]
  rcases tmodP n with h | h
  all_goals
    rw [h]
    refine ⟨fun q => ?_, fun q => ?_⟩
    all_goals first | omega | (rw [IntWalk.i64_in _ (by omega)]; omega)
def keep144 : List Nat := [0, 1, 4]
def ib144 : List Nat := []
def mk144 : Marks := fun _ => ([], .nil, [])
theorem Plus (a b : Int) : Fn0 Tryz.prog 144 [I a, I b] (I ((a + b) % 1000003)) := by
  refine fn0F 11 keep144 ib144 mk144 mix Tryz.func144 rfl (by kernel_rfl) (by simp) fun h => ?_
  simp (maxSteps := 1000000) -dsimp -implicitDefEqProofs only [go_sem, ↓reduceIte, keep144, ib144, mk144, Tryz.f144]
  first | refine HFnF.mk (Residue a) ?_ | refine CallSF.mk (Residue a) ?_ | refine HFnF.mkAt (Residue a) ?_ | refine CallSF.mk (FnAt.fn0 (Residue a)) ?_
  simp (maxSteps := 1000000) -dsimp -implicitDefEqProofs only [go_sem, ↓reduceIte, keep144, ib144, mk144, Tryz.f144]
  first | refine HFnF.mk (Residue b) ?_ | refine CallSF.mk (Residue b) ?_ | refine HFnF.mkAt (Residue b) ?_ | refine CallSF.mk (FnAt.fn0 (Residue b)) ?_
  simp (maxSteps := 1000000) -dsimp -implicitDefEqProofs only [go_sem, ↓reduceIte, keep144, ib144, mk144, Tryz.f144]
  rw [IntWalk.i64_in _ (by omega), Int.tmod_eq_emod_of_nonneg (by omega)]
  omega
def keep143 : List Nat := [0, 1, 4]
def ib143 : List Nat := []
def mk143 : Marks := fun _ => ([], .nil, [])
theorem specPlus (a b : Int) : Fn0 Tryz.prog 143 [I a, I b] (I ((a + b) % 1000003)) := by
  refine fn0F 11 keep143 ib143 mk143 mix Tryz.func143 rfl (by kernel_rfl) (by simp) fun h => ?_
  simp (maxSteps := 1000000) -dsimp -implicitDefEqProofs only [go_sem, ↓reduceIte, keep143, ib143, mk143, Tryz.f143]
  first | refine HFnF.mk (specResidue a) ?_ | refine CallSF.mk (specResidue a) ?_ | refine HFnF.mkAt (specResidue a) ?_ | refine CallSF.mk (FnAt.fn0 (specResidue a)) ?_
  simp (maxSteps := 1000000) -dsimp -implicitDefEqProofs only [go_sem, ↓reduceIte, keep143, ib143, mk143, Tryz.f143]
  first | refine HFnF.mk (specResidue b) ?_ | refine CallSF.mk (specResidue b) ?_ | refine HFnF.mkAt (specResidue b) ?_ | refine CallSF.mk (FnAt.fn0 (specResidue b)) ?_
  simp (maxSteps := 1000000) -dsimp -implicitDefEqProofs only [go_sem, ↓reduceIte, keep143, ib143, mk143, Tryz.f143]
  rw [IntWalk.i64_in _ (by omega), Int.tmod_eq_emod_of_nonneg (by omega)]
  omega
/-- The sums of parts, and the first code that is not OK. -/
def addL (a b : List Int) : List Int := List.zipWith (fun x y => (x + y) % 1000003) a b
theorem addL_len {a b : List Int} (h : b.length = a.length) : (addL a b).length = a.length := by simp [addL, h]
def keep90 : List Nat := [0, 1, 4, 5, 6, 11, 12, 13]
def ib90 : List Nat := []
def mk90 : Marks := fun id => match id with | 5 => ([13], (.op 0 (.op 1 (.op 2 (.op 3 (.op 4 (.op 5 (.op 6 (.op 7 (.op 8 (.op 9 (.op 10 (.op 11 (.op 12 (.op 13 .nil)))))))))))))), []) | _ => ([], .nil, [])
set_option maxRecDepth 100000 in
theorem added (a b : List Int) (hab : b.length = a.length) (hl : a.length ≤ 1048576) (ha : ∀ x ∈ a, 0 ≤ x ∧ x < 1000003) (hb : ∀ x ∈ b, 0 ≤ x ∧ x < 1000003) : FnN Tryz.prog 90 [sls 1 (fun n => [I n]) a, sls 1 (fun n => [I n]) b] (QS (OS (oP I) 1 (addL a b))) := by
  refine fnNF 30 keep90 ib90 mk90 mix Tryz.func90 rfl (by kernel_rfl) (by simp) fun h => ?_
  simp (maxSteps := 1000000) -dsimp -implicitDefEqProofs only [go_sem, ↓reduceIte, keep90, ib90, mk90, Tryz.f90]
  intro _
  refine ⟨Nat.zero_lt_one, Nat.le_refl _, by omega, by omega, fun n hn _ => ?_⟩
  have hc := addL_len hab
  rw [rowZero]
  refine loopRow (keep := keep90) (ib := ib90) (mk := mk90) mix (by kernel_rfl) (fun k : Nat => [(0, sls 1 (fun n => [I n]) a), (1, sls 1 (fun n => [I n]) b), (5, .os n 1 0 a.length), (11, I a.length), (12, I k)]) n (fun k => .row 1 (((upL (addL a b) k).map fun n => [I n]).map (List.map .v))) (fun k => k ≤ a.length) (fun k => a.length - k) 0 ⟨by simp [SatL, tget], by rw [upd_same, upL_zero, hc], Nat.zero_le _⟩ ?_
  intro k hk
  rcases Nat.lt_or_ge k a.length with hlt | hge
  · have ea : a[k]? = some a[k] := List.getElem?_eq_getElem hlt
    have eb : b[k]? = some b[k] := List.getElem?_eq_getElem (by omega)
    have eu := upL_get (c := addL a b) (k := k) (by omega)
    have el := upL_len (addL a b) (k := k) (by omega)
    simp (maxSteps := 1000000) -dsimp -implicitDefEqProofs only [go_sem, ↓reduceIte, keep90, ib90, mk90, Tryz.f90, upd_upd, hlt, ea, eb, eu, el, hc]
    have h1 := ha _ (List.getElem_mem hlt)
    have h2 := hb b[k] (List.getElem_mem (by omega))
    refine ⟨by omega, k + 1, by rw [IntWalk.i64_in _ (by omega)]; rfl, ?_, by omega, by omega⟩
    have hv : (addL a b)[k]'(by omega) = (a[k] + b[k]) % 1000003 := by simp [addL]
    rw [IntWalk.i64_in _ (by omega), Int.tmod_eq_emod_of_nonneg (by omega), ← upL_set (by omega), hv, ← rowSet I]
    exact Heap.le_refl _
  · have hk' : k = a.length := by omega
    subst hk'
    simp (maxSteps := 1000000) -dsimp -implicitDefEqProofs only [go_sem, ↓reduceIte, keep90, ib90, mk90, Tryz.f90, upd_upd, Nat.lt_irrefl]
    have hu : upL (addL a b) a.length = addL a b := by rw [← hc]; exact upL_all _
    rw [hu, show a.length = (addL a b).length from hc.symm]
    exact own_row hn
end Go.Hl

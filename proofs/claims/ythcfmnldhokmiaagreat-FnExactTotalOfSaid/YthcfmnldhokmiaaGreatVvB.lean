/-
  Contracts of functions and laws of the layer over the walk.
-/
import Derived.Test.YthcfmnldhokmiaaGreatVvA
import Derived.Test.YthcfmnldhokmiaaGreatHlD
namespace Go.Hl
open Go.Proofs
set_option linter.unusedVariables false
set_option linter.unusedSimpArgs false
def exprOK (p : DProgram) (e : DExpr) (vars funcs : Int) : Prop := (0 ≤ vars ∧ vars ≤ 412) ∧ (0 ≤ funcs ∧ funcs ≤ p.fFuncs.length) ∧ (e.s : Int) + 1 ≤ 400 ∧ (e.d : Int) ≤ 60 ∧ e.ok p funcs vars
noncomputable instance (p : DProgram) (e : DExpr) (vars funcs : Int) : Decidable (exprOK p e vars funcs) := Classical.propDecidable _
def funcOK (p : DProgram) (k : Nat) (f : DFunc) : Prop := IsNm f.fName ∧ (0 ≤ f.fParams ∧ f.fParams ≤ 12) ∧ (1 ≤ (f.fOuts.length : Int) ∧ (f.fOuts.length : Int) ≤ 12) ∧ (∀ g ∈ p.fFuncs.take k, g.fName ≠ f.fName) ∧ (szs DExpr.s f.fOuts : Int) ≤ 400 ∧ ∀ e ∈ f.fOuts, exprOK p e f.fParams k
noncomputable instance (p : DProgram) (k : Nat) (f : DFunc) : Decidable (funcOK p k f) := Classical.propDecidable _
def DProgram.ok (p : DProgram) : Prop := (p.fFuncs.length : Int) ≤ 16 ∧ ∀ (k : Nat) (f : DFunc), p.fFuncs[k]? = some f → funcOK p k f
noncomputable instance (p : DProgram) : Decidable p.ok := Classical.propDecidable _
def keep283 : List Nat := [0, 2]
def ib283 : List Nat := []
def mk283 : Marks := fun _ => ([], .nil, [])
theorem l02Vars (n : Int) : Fn0 Tryz.prog 283 [I n] (.bool (decide (0 ≤ n ∧ n ≤ 412))) := by
  refine fn0F 5 keep283 ib283 mk283 mix Tryz.func283 rfl (by kernel_rfl) (by simp) fun h => ?_
  simp (maxSteps := 1000000) -dsimp -implicitDefEqProofs only [go_sem, ↓reduceIte, keep283, ib283, mk283, Tryz.f283]
  first | refine HFnF.mk (l00In n 0 412) ?_ | refine CallSF.mk (l00In n 0 412) ?_ | refine HFnF.mkAt (l00In n 0 412) ?_ | refine CallSF.mk (FnAt.fn0 (l00In n 0 412)) ?_
  simp (maxSteps := 1000000) -dsimp -implicitDefEqProofs only [go_sem, ↓reduceIte, keep283, ib283, mk283, Tryz.f283]
def keep256 : List Nat := [0, 2]
def ib256 : List Nat := []
def mk256 : Marks := fun _ => ([], .nil, [])
theorem areVars (n : Int) : Fn0 Tryz.prog 256 [I n] (.bool (decide (0 ≤ n ∧ n ≤ 412))) := by
  refine fn0F 5 keep256 ib256 mk256 mix Tryz.func256 rfl (by kernel_rfl) (by simp) fun h => ?_
  simp (maxSteps := 1000000) -dsimp -implicitDefEqProofs only [go_sem, ↓reduceIte, keep256, ib256, mk256, Tryz.f256]
  first | refine HFnF.mk (within n 0 412) ?_ | refine CallSF.mk (within n 0 412) ?_ | refine HFnF.mkAt (within n 0 412) ?_ | refine CallSF.mk (FnAt.fn0 (within n 0 412)) ?_
  simp (maxSteps := 1000000) -dsimp -implicitDefEqProofs only [go_sem, ↓reduceIte, keep256, ib256, mk256, Tryz.f256]
theorem lft_nonneg {left : Int} {n : Nat} : 0 ≤ lft left n ↔ (n : Int) ≤ left := by
  unfold lft; split <;> omega
def keep249 : List Nat := [0, 1, 2, 3, 8]
def ib249 : List Nat := []
def mk249 : Marks := fun _ => ([], .nil, [])
set_option maxRecDepth 100000 in
theorem l02Expr (p : DProgram) (e : DExpr) (vars funcs : Int) (hs : e.s ≤ 4294966296) (hps : p.s ≤ 4294967296) : Fn0 Tryz.prog 249 [.ip 1 [p.c] 0 0, .ip 5 [e.c] 0 0, I vars, I funcs] (.bool (decide (exprOK p e vars funcs))) := by
  simp only [DProgram.c_eq]
  refine fn0F 37 keep249 ib249 mk249 mix Tryz.func249 rfl (by kernel_rfl) (by simp) fun h => ?_
  simp (maxSteps := 1000000) -dsimp -implicitDefEqProofs only [go_sem, ↓reduceIte, keep249, ib249, mk249, Tryz.f249]
  first | refine HFnF.mk (l02Vars vars) ?_ | refine CallSF.mk (l02Vars vars) ?_ | refine HFnF.mkAt (l02Vars vars) ?_ | refine CallSF.mk (FnAt.fn0 (l02Vars vars)) ?_
  simp (maxSteps := 1000000) -dsimp -implicitDefEqProofs only [go_sem, ↓reduceIte, keep249, ib249, mk249, Tryz.f249]
  repeat' (with_reducible first | intro _ | refine And.intro ?_ ?_)
  all_goals try (first | (simp [exprOK, *]; done) | omega | (grind [exprOK]) | (simp [exprOK]; omega))
  first | refine HFnF.mk (l00In funcs 0 p.fFuncs.length) ?_ | refine CallSF.mk (l00In funcs 0 p.fFuncs.length) ?_ | refine HFnF.mkAt (l00In funcs 0 p.fFuncs.length) ?_ | refine CallSF.mk (FnAt.fn0 (l00In funcs 0 p.fFuncs.length)) ?_
  simp (maxSteps := 1000000) -dsimp -implicitDefEqProofs only [go_sem, ↓reduceIte, keep249, ib249, mk249, Tryz.f249]
  repeat' (with_reducible first | intro _ | refine And.intro ?_ ?_)
  all_goals try (first | (simp [exprOK, *]; done) | omega | (grind [exprOK]) | (simp [exprOK]; omega))
  first | refine CallSF.mk ((l02Left e 400 (by omega) (by omega) (by omega)).sub (by repeat' (first | exact SubL.nil | refine SubL.cons ?_ ?_ | exact Sub.refl _ | (rw [DExpr.c_eq]; exact Sub.refl _) | exact Sub.ipAt rfl rfl rfl | exact Sub.ip (map_get (by omega)) (by simp) | exact Sub.ipAt (map_get (by omega)) rfl rfl | exact Sub.ip (by simp [*]) (by simp) | exact Sub.ipAt (by simp [*]) (by rfl) (by rfl)))) ?_ | refine HFnF.mk ((l02Left e 400 (by omega) (by omega) (by omega)).sub (by repeat' (first | exact SubL.nil | refine SubL.cons ?_ ?_ | exact Sub.refl _ | (rw [DExpr.c_eq]; exact Sub.refl _) | exact Sub.ipAt rfl rfl rfl | exact Sub.ip (map_get (by omega)) (by simp) | exact Sub.ipAt (map_get (by omega)) rfl rfl | exact Sub.ip (by simp [*]) (by simp) | exact Sub.ipAt (by simp [*]) (by rfl) (by rfl)))) ?_
  simp (maxSteps := 1000000) -dsimp -implicitDefEqProofs only [go_sem, ↓reduceIte, keep249, ib249, mk249, Tryz.f249]
  repeat' (with_reducible first | intro _ | refine And.intro ?_ ?_)
  · have hle : ((e.s + 1 : Nat) : Int) ≤ 400 := lft_nonneg.1 (by assumption)
    first | refine CallSF.mk ((l02Depth e (by omega)).sub (by repeat' (first | exact SubL.nil | refine SubL.cons ?_ ?_ | exact Sub.refl _ | (rw [DExpr.c_eq]; exact Sub.refl _) | exact Sub.ipAt rfl rfl rfl | exact Sub.ip (map_get (by omega)) (by simp) | exact Sub.ipAt (map_get (by omega)) rfl rfl | exact Sub.ip (by simp [*]) (by simp) | exact Sub.ipAt (by simp [*]) (by rfl) (by rfl)))) ?_ | refine HFnF.mk ((l02Depth e (by omega)).sub (by repeat' (first | exact SubL.nil | refine SubL.cons ?_ ?_ | exact Sub.refl _ | (rw [DExpr.c_eq]; exact Sub.refl _) | exact Sub.ipAt rfl rfl rfl | exact Sub.ip (map_get (by omega)) (by simp) | exact Sub.ipAt (map_get (by omega)) rfl rfl | exact Sub.ip (by simp [*]) (by simp) | exact Sub.ipAt (by simp [*]) (by rfl) (by rfl)))) ?_
    simp (maxSteps := 1000000) -dsimp -implicitDefEqProofs only [go_sem, ↓reduceIte, keep249, ib249, mk249, Tryz.f249]
    repeat' (with_reducible first | intro _ | refine And.intro ?_ ?_)
    · first | refine CallSF.mk ((l02Tree p e vars funcs (by omega) (by omega) (by omega) (by omega) hps).sub (by repeat' (first | exact SubL.nil | refine SubL.cons ?_ ?_ | exact Sub.refl _ | (rw [DExpr.c_eq]; exact Sub.refl _) | exact Sub.ipAt rfl rfl rfl | exact Sub.ip (map_get (by omega)) (by simp) | exact Sub.ipAt (map_get (by omega)) rfl rfl | exact Sub.ip (by simp [*]) (by simp) | exact Sub.ipAt (by simp [*]) (by rfl) (by rfl)))) ?_ | refine HFnF.mk ((l02Tree p e vars funcs (by omega) (by omega) (by omega) (by omega) hps).sub (by repeat' (first | exact SubL.nil | refine SubL.cons ?_ ?_ | exact Sub.refl _ | (rw [DExpr.c_eq]; exact Sub.refl _) | exact Sub.ipAt rfl rfl rfl | exact Sub.ip (map_get (by omega)) (by simp) | exact Sub.ipAt (map_get (by omega)) rfl rfl | exact Sub.ip (by simp [*]) (by simp) | exact Sub.ipAt (by simp [*]) (by rfl) (by rfl)))) ?_
      simp (maxSteps := 1000000) -dsimp -implicitDefEqProofs only [go_sem, ↓reduceIte, keep249, ib249, mk249, Tryz.f249]
      rw [decide_eq_decide]
      exact ⟨fun q => ⟨by omega, by omega, by omega, by omega, q⟩, fun q => q.2.2.2.2⟩
    · exact (decide_eq_false fun q => by have := q.2.2.2.1; omega).symm
  · rename_i hn
    exact (decide_eq_false fun q => hn (lft_nonneg.2 (by have := q.2.2.1; omega))).symm
def keep195 : List Nat := [0, 1, 2, 3, 4, 5, 8]
def ib195 : List Nat := [4, 5]
def mk195 : Marks := fun _ => ([], .nil, [])
set_option maxRecDepth 100000 in
theorem ValidExpr (p : DProgram) (e : DExpr) (vars funcs : Int) (hs : e.s ≤ 4294966296) (hps : p.s ≤ 4294967296) : Fn0 Tryz.prog 195 [.agg p.c, .agg e.c, I vars, I funcs] (.bool (decide (exprOK p e vars funcs))) := by
  have h1 := ExprSize e (by omega)
  have h2 := ExprDepth e (by omega)
  simp only [DExpr.c_eq] at h1 h2
  simp only [DProgram.c_eq, DExpr.c_eq]
  refine fn0F 36 keep195 ib195 mk195 mix Tryz.func195 rfl (by kernel_rfl) (by simp) fun h => ?_
  simp (maxSteps := 1000000) -dsimp -implicitDefEqProofs only [go_sem, ↓reduceIte, keep195, ib195, mk195, Tryz.f195]
  first | refine HFnF.mk (areVars vars) ?_ | refine CallSF.mk (areVars vars) ?_ | refine HFnF.mkAt (areVars vars) ?_ | refine CallSF.mk (FnAt.fn0 (areVars vars)) ?_
  simp (maxSteps := 1000000) -dsimp -implicitDefEqProofs only [go_sem, ↓reduceIte, keep195, ib195, mk195, Tryz.f195]
  repeat' (with_reducible first | intro _ | refine And.intro ?_ ?_)
  all_goals try (first | (simp [exprOK, *]; done) | omega | (grind [exprOK]) | (simp [exprOK]; omega))
  first | refine HFnF.mk (within funcs 0 p.fFuncs.length) ?_ | refine CallSF.mk (within funcs 0 p.fFuncs.length) ?_ | refine HFnF.mkAt (within funcs 0 p.fFuncs.length) ?_ | refine CallSF.mk (FnAt.fn0 (within funcs 0 p.fFuncs.length)) ?_
  simp (maxSteps := 1000000) -dsimp -implicitDefEqProofs only [go_sem, ↓reduceIte, keep195, ib195, mk195, Tryz.f195]
  repeat' (with_reducible first | intro _ | refine And.intro ?_ ?_)
  all_goals try (first | (simp [exprOK, *]; done) | omega | (grind [exprOK]) | (simp [exprOK]; omega))
  first | refine HFnF.mk (h1) ?_ | refine CallSF.mk (h1) ?_ | refine HFnF.mkAt (h1) ?_ | refine CallSF.mk (FnAt.fn0 (h1)) ?_
  simp (maxSteps := 1000000) -dsimp -implicitDefEqProofs only [go_sem, ↓reduceIte, keep195, ib195, mk195, Tryz.f195]
  repeat' (with_reducible first | intro _ | refine And.intro ?_ ?_)
  · first | refine HFnF.mk (h2) ?_ | refine CallSF.mk (h2) ?_ | refine HFnF.mkAt (h2) ?_ | refine CallSF.mk (FnAt.fn0 (h2)) ?_
    simp (maxSteps := 1000000) -dsimp -implicitDefEqProofs only [go_sem, ↓reduceIte, keep195, ib195, mk195, Tryz.f195]
    repeat' (with_reducible first | intro _ | refine And.intro ?_ ?_)
    · have h3 := isFormed p e vars funcs (by omega) (by omega) (by omega) (by omega) hps
      simp only [DExpr.c_eq] at h3
      first | refine HFnF.mk (h3) ?_ | refine CallSF.mk (h3) ?_ | refine HFnF.mkAt (h3) ?_ | refine CallSF.mk (FnAt.fn0 (h3)) ?_
      simp (maxSteps := 1000000) -dsimp -implicitDefEqProofs only [go_sem, ↓reduceIte, keep195, ib195, mk195, Tryz.f195]
      rw [decide_eq_decide]
      exact ⟨fun q => ⟨by omega, by omega, by omega, by omega, q⟩, fun q => q.2.2.2.2⟩
    · exact (decide_eq_false fun q => by have := q.2.2.2.1; omega).symm
  · exact (decide_eq_false fun q => by have := q.2.2.1; omega).symm
def keep182 : List Nat := [0, 1, 4, 5, 6, 7, 8, 37, 40, 55, 62, 90]
def ib182 : List Nat := []
def mk182 : Marks := fun id => match id with | 7 => ([], (.op 0 (.op 1 (.op 2 (.op 3 (.op 4 (.op 5 (.op 6 (.op 7 (.op 8 (.op 9 (.op 10 (.op 11 (.op 12 .nil))))))))))))), []) | 14 => ([], (.op 0 (.op 1 (.op 2 (.op 3 (.op 4 (.op 5 (.op 6 (.op 7 (.op 8 (.op 9 (.op 10 (.op 11 (.op 12 (.op 13 (.op 14 (.op 15 (.op 16 (.op 17 .nil)))))))))))))))))), []) | _ => ([], .nil, [])
set_option maxRecDepth 100000 in
theorem l02Func (p : DProgram) (k : Nat) (f : DFunc) (ef : p.fFuncs[k]? = some f) (hps : p.s ≤ 4194304) : Fn0 Tryz.prog 182 [.ip 1 [p.c] 0 0, I k] (.bool (decide (funcOK p k f))) := by
  have hk : k < p.fFuncs.length := (List.getElem?_eq_some_iff.1 ef).1
  have hfs := DProgram.func_s (List.mem_of_getElem? ef)
  have hl := p.len_s
  have hos := f.outs_s
  simp only [DProgram.c_eq]
  have no (q : ¬ (IsNm f.fName ∧ (0 ≤ f.fParams ∧ f.fParams ≤ 12) ∧ (1 ≤ (f.fOuts.length : Int) ∧ (f.fOuts.length : Int) ≤ 12))) : false = decide (funcOK p k f) := (decide_eq_false fun z => q ⟨z.1, z.2.1, z.2.2.1⟩).symm
  refine fn0F 91 keep182 ib182 mk182 mix Tryz.func182 rfl (by kernel_rfl) (by simp) fun h => ?_
  simp (maxSteps := 1000000) -dsimp -implicitDefEqProofs only [go_sem, ↓reduceIte, keep182, ib182, mk182, Tryz.f182, ef, DFunc.c_eq, Int.toNat_natCast]
  repeat' (with_reducible first | intro _ | refine And.intro ?_ ?_)
  all_goals try omega
  first | refine HFnF.mk (specIsName f.fName) ?_ | refine CallSF.mk (specIsName f.fName) ?_ | refine HFnF.mkAt (specIsName f.fName) ?_ | refine CallSF.mk (FnAt.fn0 (specIsName f.fName)) ?_
  simp (maxSteps := 1000000) -dsimp -implicitDefEqProofs only [go_sem, ↓reduceIte, keep182, ib182, mk182, Tryz.f182, ef, DFunc.c_eq]
  repeat' (with_reducible first | intro _ | refine And.intro ?_ ?_)
  · first | refine HFnF.mk (l00In f.fParams 0 12) ?_ | refine CallSF.mk (l00In f.fParams 0 12) ?_ | refine HFnF.mkAt (l00In f.fParams 0 12) ?_ | refine CallSF.mk (FnAt.fn0 (l00In f.fParams 0 12)) ?_
    simp (maxSteps := 1000000) -dsimp -implicitDefEqProofs only [go_sem, ↓reduceIte, keep182, ib182, mk182, Tryz.f182, ef, DFunc.c_eq]
    repeat' (with_reducible first | intro _ | refine And.intro ?_ ?_)
    · first | refine HFnF.mk (l00In f.fOuts.length 1 12) ?_ | refine CallSF.mk (l00In f.fOuts.length 1 12) ?_ | refine HFnF.mkAt (l00In f.fOuts.length 1 12) ?_ | refine CallSF.mk (FnAt.fn0 (l00In f.fOuts.length 1 12)) ?_
      simp (maxSteps := 1000000) -dsimp -implicitDefEqProofs only [go_sem, ↓reduceIte, keep182, ib182, mk182, Tryz.f182, ef, DFunc.c_eq]
      repeat' (with_reducible first | intro _ | refine And.intro ?_ ?_)
      · exact no fun z => by simp_all
      · rename_i q1 q2 q3
        refine loopF (keep := keep182) (ib := ib182) (mk := mk182) mix (by kernel_rfl) (fun j : Nat => [(0, .ip 1 [p.c] 0 0), (1, I k), (5, .ip 3 (p.fFuncs.map DFunc.c) k 0), (6, I j)]) (fun _ => h) (fun j => j ≤ k ∧ ∀ g ∈ p.fFuncs.take j, g.fName ≠ f.fName) (fun j => k - j) 0 (by refine ⟨by simp [SatL, tget, DProgram.c_eq], by repeat' (with_reducible first | exact Heap.le_refl _ | refine (le_upd (by first | assumption | exact And.right (by assumption) | exact upd_none.2 (by assumption))).2 ?_), by simp⟩) ?_
        intro j ⟨hj, hp⟩
        simp only [DProgram.c_eq]
        rcases Nat.lt_or_ge j k with hlt | hge
        · have eg : p.fFuncs[j]? = some p.fFuncs[j] := List.getElem?_eq_getElem (by omega)
          simp (maxSteps := 1000000) -dsimp -implicitDefEqProofs only [go_sem, ↓reduceIte, keep182, ib182, mk182, Tryz.f182, ef, eg, DFunc.c_eq, Int.toNat_natCast]
          repeat' (with_reducible first | intro _ | refine And.intro ?_ ?_)
          all_goals try omega
          · rename_i he
            refine (decide_eq_false fun z => z.2.2.2.1 p.fFuncs[j] ?_ he).symm
            exact List.mem_take_iff_getElem.2 ⟨j, by omega, rfl⟩
          · rename_i he
            refine ⟨j + 1, ?_⟩
            repeat' (with_reducible refine And.intro ?_ ?_)
            all_goals try (rw [IntWalk.i64_in _ (by omega)]; first | rfl | omega)
            all_goals try omega
            all_goals try (repeat' (with_reducible first | exact Heap.le_refl _ | refine (le_upd (by first | assumption | exact And.right (by assumption) | exact upd_none.2 (by assumption))).2 ?_))
            all_goals try (simp only [DProgram.c_eq]; done)
            exact all_step (P := fun g : DFunc => g.fName ≠ f.fName) (by omega) hp he
        · have hj' : j = k := by omega
          rw [hj'] at hp
          simp (maxSteps := 1000000) -dsimp -implicitDefEqProofs only [go_sem, ↓reduceIte, keep182, ib182, mk182, Tryz.f182, hj', Int.lt_irrefl]
          have part (i : Nat) (hi : i < f.fOuts.length) : i + ((f.fOuts.take i).map DExpr.s).sum + f.fOuts[i].s + 1 ≤ szs DExpr.s f.fOuts := by
            have h1 := sum_take_succ DExpr.s f.fOuts i hi
            have h2 := sum_take_le DExpr.s f.fOuts (i + 1)
            rw [szs_eq]; omega
          have hszs : szs DExpr.s f.fOuts ≤ f.s := by rw [f.s_eq]; omega
          refine loopF (keep := keep182) (ib := ib182) (mk := mk182) mix (by kernel_rfl) (fun i : Nat => [(0, .ip 1 [p.c] 0 0), (1, I k), (5, .ip 3 (p.fFuncs.map DFunc.c) k 0), (7, I (400 - (i + ((f.fOuts.take i).map DExpr.s).sum : Nat))), (8, I i)]) (fun _ => h) (fun i => i ≤ f.fOuts.length ∧ i + ((f.fOuts.take i).map DExpr.s).sum ≤ 400 ∧ ∀ e ∈ f.fOuts.take i, exprOK p e f.fParams k) (fun i => f.fOuts.length - i) 0 (by refine ⟨by simp [SatL, tget, DProgram.c_eq], by repeat' (with_reducible first | exact Heap.le_refl _ | refine (le_upd (by first | assumption | exact And.right (by assumption) | exact upd_none.2 (by assumption))).2 ?_), by simp⟩) ?_
          intro i ⟨hi, hsum, hall⟩
          simp only [DProgram.c_eq]
          rcases Nat.lt_or_ge i f.fOuts.length with hlt | hge
          · have h1 := sum_take_succ DExpr.s f.fOuts i hlt
            have hpt := part i hlt
            have hout := DFunc.out_s (List.getElem_mem hlt)
            simp (maxSteps := 1000000) -dsimp -implicitDefEqProofs only [go_sem, ↓reduceIte, keep182, ib182, mk182, Tryz.f182, ef, DFunc.c_eq, Int.toNat_natCast]
            repeat' (with_reducible first | intro _ | refine And.intro ?_ ?_)
            all_goals try omega
            first | refine CallSF.mk ((l02Left f.fOuts[i] (400 - (i + ((f.fOuts.take i).map DExpr.s).sum : Nat)) (by omega) (by omega) (by omega)).sub (by repeat' (first | exact SubL.nil | refine SubL.cons ?_ ?_ | exact Sub.refl _ | (rw [DExpr.c_eq]; exact Sub.refl _) | exact Sub.ipAt rfl rfl rfl | exact Sub.ip (map_get (by omega)) (by simp) | exact Sub.ipAt (map_get (by omega)) rfl rfl | exact Sub.ip (by simp [*]) (by simp) | exact Sub.ipAt (by simp [*]) (by rfl) (by rfl)))) ?_ | refine HFnF.mk ((l02Left f.fOuts[i] (400 - (i + ((f.fOuts.take i).map DExpr.s).sum : Nat)) (by omega) (by omega) (by omega)).sub (by repeat' (first | exact SubL.nil | refine SubL.cons ?_ ?_ | exact Sub.refl _ | (rw [DExpr.c_eq]; exact Sub.refl _) | exact Sub.ipAt rfl rfl rfl | exact Sub.ip (map_get (by omega)) (by simp) | exact Sub.ipAt (map_get (by omega)) rfl rfl | exact Sub.ip (by simp [*]) (by simp) | exact Sub.ipAt (by simp [*]) (by rfl) (by rfl)))) ?_
            simp (maxSteps := 1000000) -dsimp -implicitDefEqProofs only [go_sem, ↓reduceIte, keep182, ib182, mk182, Tryz.f182, ef, DFunc.c_eq]
            rcases lft_cases (400 - (i + ((f.fOuts.take i).map DExpr.s).sum : Nat)) (f.fOuts[i].s + 1) with ⟨e, hl1⟩ | ⟨e, hl1⟩
            · simp (maxSteps := 1000000) -dsimp -implicitDefEqProofs only [go_sem, ↓reduceIte, keep182, ib182, mk182, Tryz.f182, e]
              repeat' (with_reducible first | intro _ | refine And.intro ?_ ?_)
              all_goals try omega
              all_goals exact (decide_eq_false fun z => by have := z.2.2.2.2.1; omega).symm
            · simp (maxSteps := 1000000) -dsimp -implicitDefEqProofs only [go_sem, ↓reduceIte, keep182, ib182, mk182, Tryz.f182, e]
              repeat' (with_reducible first | intro _ | refine And.intro ?_ ?_)
              all_goals try omega
              first | refine CallSF.mk ((l02Expr p f.fOuts[i] f.fParams k (by omega) (by omega)).sub (by repeat' (first | exact SubL.nil | refine SubL.cons ?_ ?_ | exact Sub.refl _ | (rw [DExpr.c_eq]; exact Sub.refl _) | exact Sub.ipAt rfl rfl rfl | exact Sub.ip (map_get (by omega)) (by simp) | exact Sub.ipAt (map_get (by omega)) rfl rfl | exact Sub.ip (by simp [*]) (by simp) | exact Sub.ipAt (by simp [*]) (by rfl) (by rfl)))) ?_ | refine HFnF.mk ((l02Expr p f.fOuts[i] f.fParams k (by omega) (by omega)).sub (by repeat' (first | exact SubL.nil | refine SubL.cons ?_ ?_ | exact Sub.refl _ | (rw [DExpr.c_eq]; exact Sub.refl _) | exact Sub.ipAt rfl rfl rfl | exact Sub.ip (map_get (by omega)) (by simp) | exact Sub.ipAt (map_get (by omega)) rfl rfl | exact Sub.ip (by simp [*]) (by simp) | exact Sub.ipAt (by simp [*]) (by rfl) (by rfl)))) ?_
              simp (maxSteps := 1000000) -dsimp -implicitDefEqProofs only [go_sem, ↓reduceIte, keep182, ib182, mk182, Tryz.f182, ef, DFunc.c_eq]
              repeat' (with_reducible first | intro _ | refine And.intro ?_ ?_)
              · rename_i hn
                exact (decide_eq_false fun z => hn (z.2.2.2.2.2 _ (List.getElem_mem hlt))).symm
              · rename_i hn
                refine ⟨i + 1, ?_⟩
                repeat' (with_reducible refine And.intro ?_ ?_)
                all_goals try (rw [IntWalk.i64_in _ (by omega)]; first | rfl | omega)
                all_goals try omega
                all_goals try (repeat' (with_reducible first | exact Heap.le_refl _ | refine (le_upd (by first | assumption | exact And.right (by assumption) | exact upd_none.2 (by assumption))).2 ?_))
                all_goals try (simp only [DProgram.c_eq]; done)
                exact all_step (P := fun e => exprOK p e f.fParams k) hlt hall hn
          · have hi' : i = f.fOuts.length := by omega
            subst hi'
            rw [List.take_length] at hsum hall
            simp (maxSteps := 1000000) -dsimp -implicitDefEqProofs only [go_sem, ↓reduceIte, keep182, ib182, mk182, Tryz.f182, ef, DFunc.c_eq, Nat.lt_irrefl]
            exact fun _ => (decide_eq_true ⟨by assumption, q1, q3, hp, by rw [szs_eq]; omega, hall⟩).symm
    · exact no fun z => by simp_all
  · exact no fun z => by simp_all
def keep96 : List Nat := [0, 2, 3, 9, 16, 22]
def ib96 : List Nat := []
def mk96 : Marks := fun _ => ([], .nil, [])
set_option maxRecDepth 100000 in
theorem l02Ok (p : DProgram) (hps : p.s ≤ 4194304) : Fn0 Tryz.prog 96 [.ip 1 [p.c] 0 0] (.bool (decide p.ok)) := by
  simp only [DProgram.c_eq]
  refine fn0F 23 keep96 ib96 mk96 mix Tryz.func96 rfl (by kernel_rfl) (by simp) fun h => ?_
  simp (maxSteps := 1000000) -dsimp -implicitDefEqProofs only [go_sem, ↓reduceIte, keep96, ib96, mk96, Tryz.f96]
  repeat' (with_reducible first | intro _ | refine And.intro ?_ ?_)
  · exact (decide_eq_false fun z => by have := z.1; omega).symm
  refine loopF (keep := keep96) (ib := ib96) (mk := mk96) mix (by kernel_rfl) (fun k : Nat => [(0, .ip 1 [p.c] 0 0), (3, I k)]) (fun _ => h) (fun k => k ≤ p.fFuncs.length ∧ ∀ (j : Nat) (f : DFunc), j < k → p.fFuncs[j]? = some f → funcOK p j f) (fun k => p.fFuncs.length - k) 0 (by refine ⟨by simp [SatL, tget, DProgram.c_eq], by repeat' (with_reducible first | exact Heap.le_refl _ | refine (le_upd (by first | assumption | exact And.right (by assumption) | exact upd_none.2 (by assumption))).2 ?_), by simp⟩) ?_
  intro k ⟨hk, hp⟩
  simp only [DProgram.c_eq]
  rcases Nat.lt_or_ge k p.fFuncs.length with hlt | hge
  · have eg : p.fFuncs[k]? = some p.fFuncs[k] := List.getElem?_eq_getElem (by omega)
    simp (maxSteps := 1000000) -dsimp -implicitDefEqProofs only [go_sem, ↓reduceIte, keep96, ib96, mk96, Tryz.f96]
    repeat' (with_reducible first | intro _ | refine And.intro ?_ ?_)
    all_goals try omega
    first | refine CallSF.mk ((l02Func p k p.fFuncs[k] eg hps).sub (by repeat' (first | exact SubL.nil | refine SubL.cons ?_ ?_ | exact Sub.refl _ | (rw [DExpr.c_eq]; exact Sub.refl _) | exact Sub.ipAt rfl rfl rfl | exact Sub.ip (map_get (by omega)) (by simp) | exact Sub.ipAt (map_get (by omega)) rfl rfl | exact Sub.ip (by simp [*]) (by simp) | exact Sub.ipAt (by simp [*]) (by rfl) (by rfl)))) ?_ | refine HFnF.mk ((l02Func p k p.fFuncs[k] eg hps).sub (by repeat' (first | exact SubL.nil | refine SubL.cons ?_ ?_ | exact Sub.refl _ | (rw [DExpr.c_eq]; exact Sub.refl _) | exact Sub.ipAt rfl rfl rfl | exact Sub.ip (map_get (by omega)) (by simp) | exact Sub.ipAt (map_get (by omega)) rfl rfl | exact Sub.ip (by simp [*]) (by simp) | exact Sub.ipAt (by simp [*]) (by rfl) (by rfl)))) ?_
    simp (maxSteps := 1000000) -dsimp -implicitDefEqProofs only [go_sem, ↓reduceIte, keep96, ib96, mk96, Tryz.f96]
    repeat' (with_reducible first | intro _ | refine And.intro ?_ ?_)
    · rename_i hn
      exact (decide_eq_false fun z => hn (z.2 k _ eg)).symm
    · rename_i hn
      refine ⟨k + 1, ?_⟩
      repeat' (with_reducible refine And.intro ?_ ?_)
      all_goals try (rw [IntWalk.i64_in _ (by omega)]; first | rfl | omega)
      all_goals try omega
      all_goals try (repeat' (with_reducible first | exact Heap.le_refl _ | refine (le_upd (by first | assumption | exact And.right (by assumption) | exact upd_none.2 (by assumption))).2 ?_))
      all_goals try (simp only [DProgram.c_eq]; done)
      intro j f hj ej
      rcases Nat.lt_succ_iff_lt_or_eq.1 hj with h1 | rfl
      · exact hp j f h1 ej
      · rw [eg] at ej; obtain rfl := Option.some.inj ej; exact hn
  · have hk' : k = p.fFuncs.length := by omega
    subst hk'
    simp (maxSteps := 1000000) -dsimp -implicitDefEqProofs only [go_sem, ↓reduceIte, keep96, ib96, mk96, Tryz.f96, Nat.lt_irrefl]
    exact fun _ => (decide_eq_true ⟨by omega, fun j f ej => hp j f (List.getElem?_eq_some_iff.1 ej).1 ej⟩).symm
open Go.Proofs
set_option linter.unusedVariables false
set_option linter.unusedSimpArgs false
def keep255 : List Nat := [0, 1, 4, 5, 7, 8, 9, 16]
def ib255 : List Nat := []
def mk255 : Marks := fun _ => ([], .nil, [])
set_option maxRecDepth 100000 in
theorem idxF_FuncS (a : List DFunc) (p : DFunc → Bool) (g : FuncId) (cap : List HVal) {h0 : Heap} (hc : ∀ x ∈ a, FnAt Tryz.prog g ([(.agg (DFunc.c x))] ++ cap) (.bool (p x)) h0) : FnAt Tryz.prog 255 [(sls 3 DFunc.c a), .fn (.func g) [] cap] (I (idxOf p a)) h0 := by
  refine fnAtF 19 keep255 ib255 mk255 mix Tryz.func255 rfl (by kernel_rfl) (by simp) fun h hle => ?_
  simp -dsimp -implicitDefEqProofs only [go_sem, ↓reduceIte, keep255, ib255, mk255, Tryz.f255, Tryz.f255]
  intro _
  refine loopF (keep := keep255) (ib := ib255) (mk := mk255) mix (by kernel_rfl) (fun k : Nat => [(0, (sls 3 DFunc.c a)), (1, .fn (.func g) [] cap), (7, I a.length), (8, I k)]) (fun _ => h) (fun k => k ≤ a.length ∧ ∀ x ∈ a.take k, p x = false) (fun k => a.length - k) 0 (by simp [SatL, tget, Heap.le_refl]) ?_
  intro k ⟨hk, hp⟩
  rcases Nat.lt_or_ge k a.length with hlt | hge
  · have ea : a[k]? = some a[k] := List.getElem?_eq_getElem hlt
    simp -dsimp -implicitDefEqProofs only [go_sem, ↓reduceIte, keep255, ib255, mk255, Tryz.f255, Tryz.f255, ea, DFunc.c_eq]
    repeat' (with_reducible first | intro _ | refine And.intro ?_ ?_)
    all_goals try omega
    have hx := hc a[k] (List.getElem_mem hlt)
    simp only [DFunc.c_eq] at hx
    refine HFnF.mkAt (hx.mono hle) ?_
    cases hpk : p a[k] with
    | true =>
      simp -dsimp -implicitDefEqProofs only [go_sem, ↓reduceIte, keep255, ib255, mk255, Tryz.f255, Tryz.f255]
      repeat' (with_reducible first | intro _ | refine And.intro ?_ ?_)
      all_goals first | exact (idxOf_some hlt hp hpk).symm | rfl | (rw [idxOf_some hlt hp hpk])
    | false =>
      simp -dsimp -implicitDefEqProofs only [go_sem, ↓reduceIte, keep255, ib255, mk255, Tryz.f255, Tryz.f255]
      refine ⟨k + 1, ?_⟩
      repeat' (with_reducible refine And.intro ?_ ?_)
      all_goals try (rw [IntWalk.i64_in _ (by omega)]; first | rfl | omega)
      all_goals try omega
      exact all_step (P := fun x => p x = false) hlt hp hpk
  · have hk' : k = a.length := by omega
    subst hk'
    rw [List.take_length] at hp
    simp -dsimp -implicitDefEqProofs only [go_sem, ↓reduceIte, keep255, ib255, mk255, Tryz.f255, Tryz.f255, Nat.lt_irrefl]
    all_goals first | exact (idxOf_none hp).symm | rw [idxOf_none hp]
def keep193 : List Nat := [0, 1, 4]
def ib193 : List Nat := []
def mk193 : Marks := fun _ => ([], .nil, [])
set_option maxRecDepth 100000 in
theorem hasF_FuncS (a : List DFunc) (p : DFunc → Bool) (g : FuncId) (cap : List HVal) {h0 : Heap} (hc : ∀ x ∈ a, FnAt Tryz.prog g ([(.agg (DFunc.c x))] ++ cap) (.bool (p x)) h0) : FnAt Tryz.prog 193 [(sls 3 DFunc.c a), .fn (.func g) [] cap] (.bool (a.any p)) h0 := by
  refine fnAtF 9 keep193 ib193 mk193 mix Tryz.func193 rfl (by kernel_rfl) (by simp) fun h hle => ?_
  simp -dsimp -implicitDefEqProofs only [go_sem, ↓reduceIte, keep193, ib193, mk193, Tryz.f193, Tryz.f193]
  refine HFnF.mkAt ((idxF_FuncS a p g cap hc).mono hle) ?_
  simp -dsimp -implicitDefEqProofs only [go_sem, ↓reduceIte, keep193, ib193, mk193, Tryz.f193, Tryz.f193]
  all_goals first | done | exact idxOf_nonneg | rw [idxOf_nonneg]

def keep194 : List Nat := [0, 1, 2, 3]
def ib194 : List Nat := [2]
def mk194 : Marks := fun _ => ([], .nil, [])
set_option maxRecDepth 100000 in
theorem ValidProgram1 (g f : DFunc) (n : Nat) {h0 : Heap} (hn : h0 n = some (.row 3 [f.c.map .v])) : FnAt Tryz.prog 194 [.agg g.c, .op n 3 0 0] (.bool (decide (g.fName = f.fName))) h0 := by
  simp only [DFunc.c_eq]
  have hg (h : Heap) (hle : h0.le h) := Heap.le_get hle hn
  refine fnAtF 9 keep194 ib194 mk194 mix Tryz.func194 rfl (by kernel_rfl) (by simp) fun h hle => ?_
  simp (maxSteps := 1000000) -dsimp -implicitDefEqProofs only [go_sem, ↓reduceIte, keep194, ib194, mk194, Tryz.f194]
  have hn' := hg h hle
  simp only [DFunc.c_eq] at hn'
  simp (maxSteps := 1000000) -dsimp -implicitDefEqProofs only [go_sem, ↓reduceIte, keep194, ib194, mk194, Tryz.f194, hn']
def keep106 : List Nat := [0, 1, 2, 3, 4, 5, 7, 11, 13, 14, 15, 16, 31, 42, 44, 45, 46, 47, 56, 63]
def ib106 : List Nat := [1]
def mk106 : Marks := fun _ => ([], .nil, [])
set_option maxRecDepth 100000 in
theorem ValidProgram (p : DProgram) (hps : p.s ≤ 4194304) : Fn0 Tryz.prog 106 [.agg p.c] (.bool (decide p.ok)) := by
  simp only [DProgram.c_eq]
  refine fn0F 65 keep106 ib106 mk106 mix Tryz.func106 rfl (by kernel_rfl) (by simp) fun h => ?_
  simp (maxSteps := 1000000) -dsimp -implicitDefEqProofs only [go_sem, ↓reduceIte, keep106, ib106, mk106, Tryz.f106]
  repeat' (with_reducible first | intro _ | refine And.intro ?_ ?_)
  · exact (decide_eq_false fun z => by have := z.1; omega).symm
  refine loopF (keep := keep106) (ib := ib106) (mk := mk106) mix (by kernel_rfl) (fun k : Nat => [(1, .ip 1 [p.c] 0 0), (13, sls 3 DFunc.c p.fFuncs), (14, I p.fFuncs.length), (15, I k)]) (fun _ => h) (fun k => k ≤ p.fFuncs.length ∧ ∀ (j : Nat) (f : DFunc), j < k → p.fFuncs[j]? = some f → funcOK p j f) (fun k => p.fFuncs.length - k) 0 (by refine ⟨by simp [SatL, tget, DProgram.c_eq], by repeat' (with_reducible first | exact Heap.le_refl _ | refine (le_upd (by first | assumption | exact And.right (by assumption) | exact upd_none.2 (by assumption))).2 ?_), by simp⟩) ?_
  intro k ⟨hk, hp⟩
  simp only [DProgram.c_eq]
  rcases Nat.lt_or_ge k p.fFuncs.length with hlt | hge
  · obtain ⟨f, eg⟩ : ∃ f, p.fFuncs[k]? = some f := ⟨_, List.getElem?_eq_getElem hlt⟩
    have hfs := DProgram.func_s (List.mem_of_getElem? eg)
    have hos := f.outs_s
    have no (q : ¬ funcOK p k f) : false = decide p.ok := (decide_eq_false fun z => q (z.2 k f eg)).symm
    simp (maxSteps := 1000000) -dsimp -implicitDefEqProofs only [go_sem, ↓reduceIte, keep106, ib106, mk106, Tryz.f106, eg, DFunc.c_eq, upd_upd]
    repeat' (with_reducible first | intro _ | refine And.intro ?_ ?_)
    all_goals try omega
    rename_i n hn
    first | refine HFnF.mk (IsName f.fName) ?_ | refine CallSF.mk (IsName f.fName) ?_ | refine HFnF.mkAt (IsName f.fName) ?_ | refine CallSF.mk (FnAt.fn0 (IsName f.fName)) ?_
    simp (maxSteps := 1000000) -dsimp -implicitDefEqProofs only [go_sem, ↓reduceIte, keep106, ib106, mk106, Tryz.f106, upd_get, upd_upd]
    repeat' (with_reducible first | intro _ | refine And.intro ?_ ?_)
    all_goals try (repeat' (with_reducible first | exact Heap.le_refl _ | refine (le_upd (by first | assumption | exact And.right (by assumption) | exact upd_none.2 (by assumption))).2 ?_))
    all_goals try omega
    all_goals try (rename_i hnm; exact no fun z => hnm z.1)
    rename_i hnm
    rw [← List.map_take]
    refine HFnF.mkAt (hasF_FuncS (p.fFuncs.take k) (fun g => decide (g.fName = f.fName)) 194 [.op n 3 0 0] fun g _ => ValidProgram1 g f n (by simp [upd_get, DFunc.c_eq])) ?_
    simp (maxSteps := 1000000) -dsimp -implicitDefEqProofs only [go_sem, ↓reduceIte, keep106, ib106, mk106, Tryz.f106, upd_get, upd_upd]
    repeat' (with_reducible first | intro _ | refine And.intro ?_ ?_)
    all_goals try (repeat' (with_reducible first | exact Heap.le_refl _ | refine (le_upd (by first | assumption | exact And.right (by assumption) | exact upd_none.2 (by assumption))).2 ?_))
    · rename_i q
      refine no fun z => ?_
      obtain ⟨g, hg1, hg2⟩ := List.any_eq_true.1 q
      exact z.2.2.2.1 g hg1 (by simpa using hg2)
    rename_i hnd
    have hnd' : ∀ g ∈ p.fFuncs.take k, g.fName ≠ f.fName := fun g hg => by
      have := List.any_eq_false.1 hnd g hg
      simpa using this
    first | refine HFnF.mk (within f.fParams 0 12) ?_ | refine CallSF.mk (within f.fParams 0 12) ?_ | refine HFnF.mkAt (within f.fParams 0 12) ?_ | refine CallSF.mk (FnAt.fn0 (within f.fParams 0 12)) ?_
    simp (maxSteps := 1000000) -dsimp -implicitDefEqProofs only [go_sem, ↓reduceIte, keep106, ib106, mk106, Tryz.f106, upd_get, upd_upd]
    repeat' (with_reducible first | intro _ | refine And.intro ?_ ?_)
    all_goals try (repeat' (with_reducible first | exact Heap.le_refl _ | refine (le_upd (by first | assumption | exact And.right (by assumption) | exact upd_none.2 (by assumption))).2 ?_))
    · first | refine HFnF.mk (within f.fOuts.length 1 12) ?_ | refine CallSF.mk (within f.fOuts.length 1 12) ?_ | refine HFnF.mkAt (within f.fOuts.length 1 12) ?_ | refine CallSF.mk (FnAt.fn0 (within f.fOuts.length 1 12)) ?_
      simp (maxSteps := 1000000) -dsimp -implicitDefEqProofs only [go_sem, ↓reduceIte, keep106, ib106, mk106, Tryz.f106, upd_get, upd_upd]
      repeat' (with_reducible first | intro _ | refine And.intro ?_ ?_)
      all_goals try (repeat' (with_reducible first | exact Heap.le_refl _ | refine (le_upd (by first | assumption | exact And.right (by assumption) | exact upd_none.2 (by assumption))).2 ?_))
      · rename_i q
        exact no fun z => q z.2.2.1
      · rename_i q1 q2 q3 q4
        have part (i : Nat) (hi : i < f.fOuts.length) : i + ((f.fOuts.take i).map DExpr.s).sum + f.fOuts[i].s + 1 ≤ szs DExpr.s f.fOuts := by
          have h1 := sum_take_succ DExpr.s f.fOuts i hi
          have h2 := sum_take_le DExpr.s f.fOuts (i + 1)
          rw [szs_eq]; omega
        have hszs : szs DExpr.s f.fOuts ≤ f.s := by rw [f.s_eq]; omega
        refine loopF (keep := keep106) (ib := ib106) (mk := mk106) mix (by kernel_rfl) (fun i : Nat => [(1, .ip 1 [p.c] 0 0), (3, I k), (4, .op n 3 0 0), (5, I ((i + ((f.fOuts.take i).map DExpr.s).sum : Nat) : Int)), (13, sls 3 DFunc.c p.fFuncs), (14, I p.fFuncs.length), (15, I k), (44, sls 5 DExpr.c f.fOuts), (45, I f.fOuts.length), (46, I i)]) (fun _ => upd h n (.row 3 [f.c.map .v])) (fun i => i ≤ f.fOuts.length ∧ ∀ e ∈ f.fOuts.take i, exprOK p e f.fParams k) (fun i => f.fOuts.length - i) 0 (by refine ⟨by simp [SatL, tget, DProgram.c_eq], by simp [DFunc.c_eq, Heap.le_refl], by simp⟩) ?_
        intro i ⟨hi, hall⟩
        simp only [DProgram.c_eq, DFunc.c_eq, List.map_cons, List.map_nil]
        rcases Nat.lt_or_ge i f.fOuts.length with hlt2 | hge2
        · have h1 := sum_take_succ DExpr.s f.fOuts i hlt2
          have hpt := part i hlt2
          have hout := DFunc.out_s (List.getElem_mem hlt2)
          have ee : f.fOuts[i]? = some f.fOuts[i] := List.getElem?_eq_getElem hlt2
          have hv := ValidExpr p f.fOuts[i] f.fParams k (by omega) (by omega)
          have hz := ExprSize f.fOuts[i] (by omega)
          simp only [DExpr.c_eq, DProgram.c_eq] at hv hz
          simp (maxSteps := 1000000) -dsimp -implicitDefEqProofs only [go_sem, ↓reduceIte, keep106, ib106, mk106, Tryz.f106, ee, DExpr.c_eq, upd_upd]
          repeat' (with_reducible first | intro _ | refine And.intro ?_ ?_)
          all_goals try omega
          rename_i m hm
          have hmn : (n = m) = False := eq_false fun e => hm.1 e.symm
          have hnm2 : (m = n) = False := eq_false hm.1
          simp (maxSteps := 1000000) -dsimp -implicitDefEqProofs only [go_sem, ↓reduceIte, keep106, ib106, mk106, Tryz.f106, upd_get, hmn, hnm2]
          first | refine HFnF.mk (hv) ?_ | refine CallSF.mk (hv) ?_ | refine HFnF.mkAt (hv) ?_ | refine CallSF.mk (FnAt.fn0 (hv)) ?_
          simp (maxSteps := 1000000) -dsimp -implicitDefEqProofs only [go_sem, ↓reduceIte, keep106, ib106, mk106, Tryz.f106, upd_get, hmn, hnm2]
          repeat' (with_reducible first | intro _ | refine And.intro ?_ ?_)
          · rename_i hne
            exact no fun z => hne (z.2.2.2.2.2 _ (List.getElem_mem hlt2))
          · all_goals try (repeat' (with_reducible first | exact Heap.le_refl _ | refine (le_upd (by first | assumption | exact And.right (by assumption) | exact upd_none.2 (by assumption))).2 ?_))
          · rename_i hne
            first | refine HFnF.mk (hz) ?_ | refine CallSF.mk (hz) ?_ | refine HFnF.mkAt (hz) ?_ | refine CallSF.mk (FnAt.fn0 (hz)) ?_
            simp (maxSteps := 1000000) -dsimp -implicitDefEqProofs only [go_sem, ↓reduceIte, keep106, ib106, mk106, Tryz.f106, upd_get, hmn, hnm2]
            refine ⟨i + 1, ?_⟩
            repeat' (with_reducible refine And.intro ?_ ?_)
            all_goals try (rw [IntWalk.i64_in _ (by omega)]; first | rfl | omega)
            all_goals try omega
            all_goals try (repeat' (with_reducible first | exact Heap.le_refl _ | refine (le_upd (by first | assumption | exact And.right (by assumption) | exact upd_none.2 (by assumption))).2 ?_))
            all_goals try (simp only [DProgram.c_eq]; done)
            exact all_step (P := fun e => exprOK p e f.fParams k) hlt2 hall hne
        · have hi' : i = f.fOuts.length := by omega
          subst hi'
          rw [List.take_length] at hall ⊢
          simp (maxSteps := 1000000) -dsimp -implicitDefEqProofs only [go_sem, ↓reduceIte, keep106, ib106, mk106, Tryz.f106, Nat.lt_irrefl]
          have hss : szs DExpr.s f.fOuts = f.fOuts.length + (f.fOuts.map DExpr.s).sum := szs_eq _ _
          repeat' (with_reducible first | intro _ | refine And.intro ?_ ?_)
          all_goals try (repeat' (with_reducible first | exact Heap.le_refl _ | refine (le_upd (by first | assumption | exact And.right (by assumption) | exact upd_none.2 (by assumption))).2 ?_))
          · rename_i q
            exact no fun z => by have := z.2.2.2.2.1; omega
          · rename_i q
            have hfk : funcOK p k f := ⟨hnm, q1, q3, hnd', by omega, hall⟩
            refine ⟨k + 1, ?_⟩
            repeat' (with_reducible refine And.intro ?_ ?_)
            all_goals try (rw [IntWalk.i64_in _ (by omega)]; first | rfl | omega)
            all_goals try omega
            all_goals try (repeat' (with_reducible first | exact Heap.le_refl _ | refine (le_upd (by first | assumption | exact And.right (by assumption) | exact upd_none.2 (by assumption))).2 ?_))
            intro j f' hj ej
            rcases Nat.lt_succ_iff_lt_or_eq.1 hj with h1 | rfl
            · exact hp j f' h1 ej
            · rw [eg] at ej; obtain rfl := Option.some.inj ej; exact hfk
    · rename_i q
      exact no fun z => q z.2.1
  · have hk' : k = p.fFuncs.length := by omega
    subst hk'
    simp (maxSteps := 1000000) -dsimp -implicitDefEqProofs only [go_sem, ↓reduceIte, keep106, ib106, mk106, Tryz.f106, Nat.lt_irrefl]
    exact (decide_eq_true ⟨by omega, fun j f ej => hp j f (List.getElem?_eq_some_iff.1 ej).1 ej⟩).symm
open Go.Proofs
set_option linter.unusedVariables false
set_option linter.unusedSimpArgs false
def keep134 : List Nat := [0, 1, 2, 4, 5, 9]
def ib134 : List Nat := [2]
def mk134 : Marks := fun _ => ([], .nil, [])
set_option maxRecDepth 100000 in
theorem isFunc (p : DProgram) (f : Int) (hps : p.s ≤ 4194304) : Fn0 Tryz.prog 134 [.agg p.c, I f] (I (if p.ok then if 0 ≤ f ∧ f ≤ (p.fFuncs.length : Int) - 1 then 0 else 2 else 1)) := by
  have hv := ValidProgram p hps
  simp only [DProgram.c_eq] at hv ⊢
  refine fn0F 17 keep134 ib134 mk134 mix Tryz.func134 rfl (by kernel_rfl) (by simp) fun h => ?_
  simp (maxSteps := 1000000) -dsimp -implicitDefEqProofs only [go_sem, ↓reduceIte, keep134, ib134, mk134, Tryz.f134]
  first | refine HFnF.mk (hv) ?_ | refine CallSF.mk (hv) ?_ | refine HFnF.mkAt (hv) ?_ | refine CallSF.mk (FnAt.fn0 (hv)) ?_
  simp (maxSteps := 1000000) -dsimp -implicitDefEqProofs only [go_sem, ↓reduceIte, keep134, ib134, mk134, Tryz.f134]
  repeat' (with_reducible first | intro _ | refine And.intro ?_ ?_)
  · rename_i hn
    rw [if_neg hn]
  · rename_i hn _
    rw [if_pos hn]
    all_goals try simp (disch := omega) only [IntWalk.i64_in]
    first | refine HFnF.mk (within f 0 (p.fFuncs.length - 1)) ?_ | refine CallSF.mk (within f 0 (p.fFuncs.length - 1)) ?_ | refine HFnF.mkAt (within f 0 (p.fFuncs.length - 1)) ?_ | refine CallSF.mk (FnAt.fn0 (within f 0 (p.fFuncs.length - 1))) ?_
    simp (maxSteps := 1000000) -dsimp -implicitDefEqProofs only [go_sem, ↓reduceIte, keep134, ib134, mk134, Tryz.f134]
    repeat' (with_reducible first | intro _ | refine And.intro ?_ ?_)
    · rename_i q
      rw [if_neg q]
    · rename_i q
      rw [if_pos q]
def DJob.okF (j : DJob) (f : DFunc) : Prop := (0 ≤ j.fShared ∧ j.fShared ≤ f.fParams) ∧ ((j.fPoint.length : Int) = j.fShared ∧ Nums j.fPoint) ∧ (j.fTerms.length : Int) ≤ 10 ∧ ∀ t ∈ j.fTerms, (t.length : Int) = f.fParams - j.fShared ∧ Nums t
def DJob.ok (j : DJob) : Prop := j.fProgram.ok ∧ (0 ≤ j.fFunc ∧ j.fFunc ≤ (j.fProgram.fFuncs.length : Int) - 1) ∧ ∀ f, j.fProgram.fFuncs[j.fFunc.toNat]? = some f → j.okF f
noncomputable instance (j : DJob) : Decidable j.ok := Classical.propDecidable _
def keep53 : List Nat := [0, 2, 3, 4, 24, 71, 78, 106]
def ib53 : List Nat := []
def mk53 : Marks := fun id => match id with | 1 => ([], (.op 0 (.op 1 (.op 2 (.op 3 (.op 4 (.op 5 (.op 6 (.op 7 (.op 8 (.op 9 (.op 10 (.op 11 (.op 12 (.op 13 (.op 14 (.op 15 (.op 16 (.op 17 (.op 18 (.op 19 .nil)))))))))))))))))))), []) | 3 => ([], (.op 0 (.op 1 (.op 2 (.op 3 (.op 4 (.op 5 (.op 6 (.op 7 (.op 8 (.op 9 (.op 10 (.op 11 (.op 12 .nil))))))))))))), []) | 4 => ([], (.op 0 (.op 1 (.op 2 (.op 3 (.op 4 (.op 5 (.op 6 (.op 7 (.op 8 (.op 9 (.op 10 (.op 11 (.op 12 (.op 13 (.op 14 (.op 15 (.op 16 (.op 17 (.op 18 (.op 19 (.op 20 (.op 21 (.op 22 (.op 23 (.op 24 (.op 25 (.op 26 (.op 27 (.op 28 (.op 29 (.op 30 (.op 31 (.op 32 (.op 33 (.op 34 .nil))))))))))))))))))))))))))))))))))), []) | 9 => ([], (.op 0 (.op 1 (.op 2 (.op 3 (.op 4 (.op 5 (.op 6 (.op 7 (.op 8 (.op 9 (.op 10 (.op 11 (.op 12 (.op 13 (.op 14 (.op 15 (.op 16 (.op 17 (.op 18 (.op 19 (.op 20 (.op 21 (.op 22 (.op 23 (.op 24 (.op 25 .nil)))))))))))))))))))))))))), []) | _ => ([], .nil, [])
set_option maxRecDepth 100000 in
theorem l08Job (j : DJob) (hps : j.fProgram.s ≤ 4194304) : Fn0 Tryz.prog 53 [.ip 5 [j.c] 0 0] (.bool (decide j.ok)) := by
  have hl := j.fProgram.len_s
  have e1 : IntKind.i64.wrap ((j.fProgram.fFuncs.length : Int) - 1) = j.fProgram.fFuncs.length - 1 := IntWalk.i64_in _ (by omega)
  simp only [DJob.c_eq]
  refine fn0F 107 keep53 ib53 mk53 mix Tryz.func53 rfl (by kernel_rfl) (by simp) fun h => ?_
  simp (maxSteps := 1000000) -dsimp -implicitDefEqProofs only [go_sem, ↓reduceIte, keep53, ib53, mk53, Tryz.f53, e1]
  first | refine CallSF.mk ((l02Ok j.fProgram hps).sub (by repeat' (first | exact SubL.nil | refine SubL.cons ?_ ?_ | exact Sub.refl _ | (rw [DExpr.c_eq]; exact Sub.refl _) | exact Sub.ipAt rfl rfl rfl | exact Sub.ip (map_get (by omega)) (by simp) | exact Sub.ipAt (map_get (by omega)) rfl rfl | exact Sub.ip (by simp [*]) (by simp) | exact Sub.ipAt (by simp [*]) (by rfl) (by rfl)))) ?_ | refine HFnF.mk ((l02Ok j.fProgram hps).sub (by repeat' (first | exact SubL.nil | refine SubL.cons ?_ ?_ | exact Sub.refl _ | (rw [DExpr.c_eq]; exact Sub.refl _) | exact Sub.ipAt rfl rfl rfl | exact Sub.ip (map_get (by omega)) (by simp) | exact Sub.ipAt (map_get (by omega)) rfl rfl | exact Sub.ip (by simp [*]) (by simp) | exact Sub.ipAt (by simp [*]) (by rfl) (by rfl)))) ?_
  simp (maxSteps := 1000000) -dsimp -implicitDefEqProofs only [go_sem, ↓reduceIte, keep53, ib53, mk53, Tryz.f53, e1]
  repeat' (with_reducible first | intro _ | refine And.intro ?_ ?_)
  · rename_i hp
    first | refine HFnF.mk (l00In j.fFunc 0 (j.fProgram.fFuncs.length - 1)) ?_ | refine CallSF.mk (l00In j.fFunc 0 (j.fProgram.fFuncs.length - 1)) ?_ | refine HFnF.mkAt (l00In j.fFunc 0 (j.fProgram.fFuncs.length - 1)) ?_ | refine CallSF.mk (FnAt.fn0 (l00In j.fFunc 0 (j.fProgram.fFuncs.length - 1))) ?_
    simp (maxSteps := 1000000) -dsimp -implicitDefEqProofs only [go_sem, ↓reduceIte, keep53, ib53, mk53, Tryz.f53, e1]
    repeat' (with_reducible first | intro _ | refine And.intro ?_ ?_)
    · rename_i hr
      exact (decide_eq_false fun z => hr z.2.1).symm
    all_goals try omega
    rename_i hr
    obtain ⟨f, ef⟩ : ∃ f, j.fProgram.fFuncs[j.fFunc.toNat]? = some f := ⟨_, List.getElem?_eq_getElem (by omega)⟩
    have hfo := hp.2 _ f ef
    have hj : j.ok ↔ j.okF f := ⟨fun z => z.2.2 f ef, fun z => ⟨hp, hr, fun g eg => by rw [ef] at eg; obtain rfl := Option.some.inj eg; exact z⟩⟩
    have hp1 := hfo.2.1
    simp (maxSteps := 1000000) -dsimp -implicitDefEqProofs only [go_sem, ↓reduceIte, keep53, ib53, mk53, Tryz.f53, ef, DFunc.c_eq]
    first | refine HFnF.mk (l00In j.fShared 0 f.fParams) ?_ | refine CallSF.mk (l00In j.fShared 0 f.fParams) ?_ | refine HFnF.mkAt (l00In j.fShared 0 f.fParams) ?_ | refine CallSF.mk (FnAt.fn0 (l00In j.fShared 0 f.fParams)) ?_
    simp (maxSteps := 1000000) -dsimp -implicitDefEqProofs only [go_sem, ↓reduceIte, keep53, ib53, mk53, Tryz.f53]
    repeat' (with_reducible first | intro _ | refine And.intro ?_ ?_)
    · rename_i hsh hlen
      first | refine HFnF.mk (l01Numbers j.fPoint) ?_ | refine CallSF.mk (l01Numbers j.fPoint) ?_ | refine HFnF.mkAt (l01Numbers j.fPoint) ?_ | refine CallSF.mk (FnAt.fn0 (l01Numbers j.fPoint)) ?_
      simp (maxSteps := 1000000) -dsimp -implicitDefEqProofs only [go_sem, ↓reduceIte, keep53, ib53, mk53, Tryz.f53]
      repeat' (with_reducible first | intro _ | refine And.intro ?_ ?_)
      · exact (decide_eq_false fun z => by have := (hj.1 z).2.2.1; omega).symm
      · have e4 : IntKind.i64.wrap (f.fParams - j.fShared) = f.fParams - j.fShared := IntWalk.i64_in _ (by omega)
        refine loopF (keep := keep53) (ib := ib53) (mk := mk53) mix (by kernel_rfl) (fun k : Nat => [(0, .ip 5 [j.c] 0 0), (3, I f.fParams), (4, I k)]) (fun _ => h) (fun k => k ≤ j.fTerms.length ∧ ∀ t ∈ j.fTerms.take k, (t.length : Int) = f.fParams - j.fShared ∧ Nums t) (fun k => j.fTerms.length - k) 0 (by refine ⟨by simp [SatL, tget, DJob.c_eq], by repeat' (with_reducible first | exact Heap.le_refl _ | refine (le_upd (by first | assumption | exact And.right (by assumption) | exact upd_none.2 (by assumption))).2 ?_), by simp⟩) ?_
        intro k ⟨hk, hall⟩
        simp only [DJob.c_eq]
        rcases Nat.lt_or_ge k j.fTerms.length with hlt | hge
        · have ea : j.fTerms[k]? = some j.fTerms[k] := List.getElem?_eq_getElem hlt
          have no (q : ¬ ((j.fTerms[k].length : Int) = f.fParams - j.fShared ∧ Nums j.fTerms[k])) : false = decide j.ok := (decide_eq_false fun z => q ((hj.1 z).2.2.2 _ (List.getElem_mem hlt))).symm
          simp (maxSteps := 1000000) -dsimp -implicitDefEqProofs only [go_sem, ↓reduceIte, keep53, ib53, mk53, Tryz.f53, ea, e4]
          repeat' (with_reducible first | intro _ | refine And.intro ?_ ?_)
          all_goals try omega
          · first | refine HFnF.mk (l01Numbers j.fTerms[k]) ?_ | refine CallSF.mk (l01Numbers j.fTerms[k]) ?_ | refine HFnF.mkAt (l01Numbers j.fTerms[k]) ?_ | refine CallSF.mk (FnAt.fn0 (l01Numbers j.fTerms[k])) ?_
            simp (maxSteps := 1000000) -dsimp -implicitDefEqProofs only [go_sem, ↓reduceIte, keep53, ib53, mk53, Tryz.f53]
            repeat' (with_reducible first | intro _ | refine And.intro ?_ ?_)
            · rename_i q4 q5
              exact no fun z => q5 z.2
            · rename_i q4 q5
              refine ⟨k + 1, ?_⟩
              repeat' (with_reducible refine And.intro ?_ ?_)
              all_goals try (rw [IntWalk.i64_in _ (by omega)]; first | rfl | omega)
              all_goals try omega
              all_goals try (repeat' (with_reducible first | exact Heap.le_refl _ | refine (le_upd (by first | assumption | exact And.right (by assumption) | exact upd_none.2 (by assumption))).2 ?_))
              all_goals try (simp only [DJob.c_eq]; done)
              exact all_step (P := fun t : List Int => (t.length : Int) = f.fParams - j.fShared ∧ Nums t) hlt hall ⟨q4, q5⟩
          · rename_i q4
            exact no fun z => q4 z.1
        · have hk' : k = j.fTerms.length := by omega
          subst hk'
          rw [List.take_length] at hall
          simp (maxSteps := 1000000) -dsimp -implicitDefEqProofs only [go_sem, ↓reduceIte, keep53, ib53, mk53, Tryz.f53, Nat.lt_irrefl]
          exact fun _ => (decide_eq_true (hj.2 ⟨hsh, ⟨by assumption, by assumption⟩, by omega, hall⟩)).symm
      · rename_i q2
        exact (decide_eq_false fun z => q2 (hj.1 z).2.1.2).symm
    · rename_i q
      exact (decide_eq_false fun z => q (hj.1 z).2.1.1).symm
    · rename_i q
      exact (decide_eq_false fun z => q (hj.1 z).1).symm
  · rename_i hp
    exact (decide_eq_false fun z => hp z.1).symm
def keep137 : List Nat := [0, 1, 3]
def ib137 : List Nat := []
def mk137 : Marks := fun _ => ([], .nil, [])
set_option maxRecDepth 100000 in
theorem ValidJob1 (l : List Int) (c : Int) (n : Nat) {h0 : Heap} (hn : h0 n = some (.row 1 [[.v (I c)]])) : FnAt Tryz.prog 137 [sls 1 (fun n => [I n]) l, .op n 1 0 0] (.bool (!decide ((l.length : Int) = c ∧ Nums l))) h0 := by
  have hg (h : Heap) (hle : h0.le h) := Heap.le_get hle hn
  refine fnAtF 8 keep137 ib137 mk137 mix Tryz.func137 rfl (by kernel_rfl) (by simp) fun h hle => ?_
  simp (maxSteps := 1000000) -dsimp -implicitDefEqProofs only [go_sem, ↓reduceIte, keep137, ib137, mk137, Tryz.f137]
  have hn' := hg h hle
  simp (maxSteps := 1000000) -dsimp -implicitDefEqProofs only [go_sem, ↓reduceIte, keep137, ib137, mk137, Tryz.f137, hn']
  first | refine HFnF.mk (areNumbers l c) ?_ | refine CallSF.mk (areNumbers l c) ?_ | refine HFnF.mkAt (areNumbers l c) ?_ | refine CallSF.mk (FnAt.fn0 (areNumbers l c)) ?_
  simp (maxSteps := 1000000) -dsimp -implicitDefEqProofs only [go_sem, ↓reduceIte, keep137, ib137, mk137, Tryz.f137]
def keep229 : List Nat := [0, 1, 4, 5, 7, 8, 9, 16]
def ib229 : List Nat := []
def mk229 : Marks := fun _ => ([], .nil, [])
set_option maxRecDepth 100000 in
theorem idxF_Int64SS (a : List (List Int)) (p : (List Int) → Bool) (g : FuncId) (cap : List HVal) {h0 : Heap} (hc : ∀ x ∈ a, FnAt Tryz.prog g ([(sls 1 (fun n => [I n]) x)] ++ cap) (.bool (p x)) h0) : FnAt Tryz.prog 229 [(sls 1 (fun x => [sls 1 (fun n => [I n]) x]) a), .fn (.func g) [] cap] (I (idxOf p a)) h0 := by
  refine fnAtF 19 keep229 ib229 mk229 mix Tryz.func229 rfl (by kernel_rfl) (by simp) fun h hle => ?_
  simp -dsimp -implicitDefEqProofs only [go_sem, ↓reduceIte, keep229, ib229, mk229, Tryz.f229, Tryz.f229]
  intro _
  refine loopF (keep := keep229) (ib := ib229) (mk := mk229) mix (by kernel_rfl) (fun k : Nat => [(0, (sls 1 (fun x => [sls 1 (fun n => [I n]) x]) a)), (1, .fn (.func g) [] cap), (7, I a.length), (8, I k)]) (fun _ => h) (fun k => k ≤ a.length ∧ ∀ x ∈ a.take k, p x = false) (fun k => a.length - k) 0 (by simp [SatL, tget, Heap.le_refl]) ?_
  intro k ⟨hk, hp⟩
  rcases Nat.lt_or_ge k a.length with hlt | hge
  · have ea : a[k]? = some a[k] := List.getElem?_eq_getElem hlt
    simp -dsimp -implicitDefEqProofs only [go_sem, ↓reduceIte, keep229, ib229, mk229, Tryz.f229, Tryz.f229, ea]
    repeat' (with_reducible first | intro _ | refine And.intro ?_ ?_)
    all_goals try omega
    have hx := hc a[k] (List.getElem_mem hlt)
    refine HFnF.mkAt (hx.mono hle) ?_
    cases hpk : p a[k] with
    | true =>
      simp -dsimp -implicitDefEqProofs only [go_sem, ↓reduceIte, keep229, ib229, mk229, Tryz.f229, Tryz.f229]
      repeat' (with_reducible first | intro _ | refine And.intro ?_ ?_)
      all_goals first | exact (idxOf_some hlt hp hpk).symm | rfl | (rw [idxOf_some hlt hp hpk])
    | false =>
      simp -dsimp -implicitDefEqProofs only [go_sem, ↓reduceIte, keep229, ib229, mk229, Tryz.f229, Tryz.f229]
      refine ⟨k + 1, ?_⟩
      repeat' (with_reducible refine And.intro ?_ ?_)
      all_goals try (rw [IntWalk.i64_in _ (by omega)]; first | rfl | omega)
      all_goals try omega
      exact all_step (P := fun x => p x = false) hlt hp hpk
  · have hk' : k = a.length := by omega
    subst hk'
    rw [List.take_length] at hp
    simp -dsimp -implicitDefEqProofs only [go_sem, ↓reduceIte, keep229, ib229, mk229, Tryz.f229, Tryz.f229, Nat.lt_irrefl]
    all_goals first | exact (idxOf_none hp).symm | rw [idxOf_none hp]
def keep136 : List Nat := [0, 1, 4]
def ib136 : List Nat := []
def mk136 : Marks := fun _ => ([], .nil, [])
set_option maxRecDepth 100000 in
theorem hasF_Int64SS (a : List (List Int)) (p : (List Int) → Bool) (g : FuncId) (cap : List HVal) {h0 : Heap} (hc : ∀ x ∈ a, FnAt Tryz.prog g ([(sls 1 (fun n => [I n]) x)] ++ cap) (.bool (p x)) h0) : FnAt Tryz.prog 136 [(sls 1 (fun x => [sls 1 (fun n => [I n]) x]) a), .fn (.func g) [] cap] (.bool (a.any p)) h0 := by
  refine fnAtF 9 keep136 ib136 mk136 mix Tryz.func136 rfl (by kernel_rfl) (by simp) fun h hle => ?_
  simp -dsimp -implicitDefEqProofs only [go_sem, ↓reduceIte, keep136, ib136, mk136, Tryz.f136, Tryz.f136]
  refine HFnF.mkAt ((idxF_Int64SS a p g cap hc).mono hle) ?_
  simp -dsimp -implicitDefEqProofs only [go_sem, ↓reduceIte, keep136, ib136, mk136, Tryz.f136, Tryz.f136]
  all_goals first | done | exact idxOf_nonneg | rw [idxOf_nonneg]

def keep56 : List Nat := [0, 1, 2, 3, 31]
def ib56 : List Nat := [1]
def mk56 : Marks := fun id => match id with | 1 => ([], (.op 0 (.op 1 (.op 2 (.op 3 (.op 4 (.op 5 (.op 6 (.op 7 (.op 8 (.op 9 (.op 10 (.op 11 (.op 12 (.op 13 (.op 14 (.op 15 (.op 16 (.op 17 (.op 18 (.op 19 (.op 20 (.op 21 (.op 22 (.op 23 (.op 24 (.op 25 (.op 26 (.op 27 .nil)))))))))))))))))))))))))))), []) | 3 => ([11, 12], (.op 0 (.op 1 (.op 2 (.op 3 (.op 4 (.op 5 (.op 6 (.op 7 (.op 8 (.op 9 (.op 10 (.op 11 (.op 12 .nil))))))))))))), []) | _ => ([], .nil, [])
set_option maxRecDepth 100000 in
theorem ValidJob (j : DJob) (hps : j.fProgram.s ≤ 4194304) : Fn0 Tryz.prog 56 [.agg j.c] (.bool (decide j.ok)) := by
  have hif := isFunc j.fProgram j.fFunc hps
  have hl := j.fProgram.len_s
  simp only [DJob.c_eq, DProgram.c_eq] at hif ⊢
  by_cases hp : j.fProgram.ok ∧ (0 ≤ j.fFunc ∧ j.fFunc ≤ (j.fProgram.fFuncs.length : Int) - 1)
  · obtain ⟨hp, hr⟩ := hp
    rw [if_pos hp, if_pos hr] at hif
    obtain ⟨f, ef⟩ : ∃ f, j.fProgram.fFuncs[j.fFunc.toNat]? = some f := ⟨_, List.getElem?_eq_getElem (by omega)⟩
    have hfo := hp.2 _ f ef
    have hj : j.ok ↔ j.okF f := ⟨fun z => z.2.2 f ef, fun z => ⟨hp, hr, fun g eg => by rw [ef] at eg; obtain rfl := Option.some.inj eg; exact z⟩⟩
    have hp1 := hfo.2.1
    refine fn0F 54 keep56 ib56 mk56 mix Tryz.func56 rfl (by kernel_rfl) (by simp) fun h => ?_
    simp (maxSteps := 1000000) -dsimp -implicitDefEqProofs only [go_sem, ↓reduceIte, keep56, ib56, mk56, Tryz.f56]
    first | refine HFnF.mk (hif) ?_ | refine CallSF.mk (hif) ?_ | refine HFnF.mkAt (hif) ?_ | refine CallSF.mk (FnAt.fn0 (hif)) ?_
    simp (maxSteps := 1000000) -dsimp -implicitDefEqProofs only [go_sem, ↓reduceIte, keep56, ib56, mk56, Tryz.f56, ef, DFunc.c_eq]
    repeat' (with_reducible first | intro _ | refine And.intro ?_ ?_)
    all_goals try omega
    first | refine HFnF.mk (within j.fShared 0 f.fParams) ?_ | refine CallSF.mk (within j.fShared 0 f.fParams) ?_ | refine HFnF.mkAt (within j.fShared 0 f.fParams) ?_ | refine CallSF.mk (FnAt.fn0 (within j.fShared 0 f.fParams)) ?_
    simp (maxSteps := 1000000) -dsimp -implicitDefEqProofs only [go_sem, ↓reduceIte, keep56, ib56, mk56, Tryz.f56, ef, DFunc.c_eq]
    repeat' (with_reducible first | intro _ | refine And.intro ?_ ?_)
    · first | refine HFnF.mk (areNumbers j.fPoint j.fShared) ?_ | refine CallSF.mk (areNumbers j.fPoint j.fShared) ?_ | refine HFnF.mkAt (areNumbers j.fPoint j.fShared) ?_ | refine CallSF.mk (FnAt.fn0 (areNumbers j.fPoint j.fShared)) ?_
      simp (maxSteps := 1000000) -dsimp -implicitDefEqProofs only [go_sem, ↓reduceIte, keep56, ib56, mk56, Tryz.f56, ef, DFunc.c_eq]
      repeat' (with_reducible first | intro _ | refine And.intro ?_ ?_)
      all_goals try omega
      · rename_i q
        exact (decide_eq_false fun z => q (hj.1 z).2.1).symm
      · rename_i n hn q1 q2
        rw [IntWalk.i64_in _ (by omega)]
        refine HFnF.mkAt (hasF_Int64SS j.fTerms (fun t => !decide ((t.length : Int) = f.fParams - j.fShared ∧ Nums t)) 137 [.op n 1 0 0] fun t _ => ValidJob1 t (f.fParams - j.fShared) n (by simp [upd_get])) ?_
        simp (maxSteps := 1000000) -dsimp -implicitDefEqProofs only [go_sem, ↓reduceIte, keep56, ib56, mk56, Tryz.f56]
        repeat' (with_reducible first | intro _ | refine And.intro ?_ ?_)
        all_goals try (repeat' (with_reducible first | exact Heap.le_refl _ | refine (le_upd (by first | assumption | exact And.right (by assumption) | exact upd_none.2 (by assumption))).2 ?_))
        rw [any_not, decide_eq_decide, hj]
        exact ⟨fun q => ⟨by assumption, by assumption, by omega, q⟩, fun q => q.2.2.2⟩
      · rename_i q
        exact (decide_eq_false fun z => q (by have := (hj.1 z).2.2.1; omega)).symm
      · all_goals try (repeat' (with_reducible first | exact Heap.le_refl _ | refine (le_upd (by first | assumption | exact And.right (by assumption) | exact upd_none.2 (by assumption))).2 ?_))
    · rename_i q
      exact (decide_eq_false fun z => q (hj.1 z).1).symm
  · have hne : ¬ (if j.fProgram.ok then if 0 ≤ j.fFunc ∧ j.fFunc ≤ (j.fProgram.fFuncs.length : Int) - 1 then 0 else 2 else 1 : Int) = 0 := by
      intro q
      split at q
      · split at q
        · rename_i a b
          exact hp ⟨a, b⟩
        · cases q
      · cases q
    refine fn0F 54 keep56 ib56 mk56 mix Tryz.func56 rfl (by kernel_rfl) (by simp) fun h => ?_
    simp (maxSteps := 1000000) -dsimp -implicitDefEqProofs only [go_sem, ↓reduceIte, keep56, ib56, mk56, Tryz.f56]
    first | refine HFnF.mk (hif) ?_ | refine CallSF.mk (hif) ?_ | refine HFnF.mkAt (hif) ?_ | refine CallSF.mk (FnAt.fn0 (hif)) ?_
    simp (maxSteps := 1000000) -dsimp -implicitDefEqProofs only [go_sem, ↓reduceIte, keep56, ib56, mk56, Tryz.f56]
    repeat' (with_reducible first | intro _ | refine And.intro ?_ ?_)
    all_goals try (exact absurd (by assumption) hne)
    exact (decide_eq_false fun z => hp ⟨z.1, z.2.1⟩).symm
open Go.Proofs
set_option linter.unusedVariables false
set_option linter.unusedSimpArgs false
def pointOK (j : DJob) (l : List Int) : Prop := (l.length : Int) = j.fShared ∧ Nums l
def partOK (j : DJob) (p : DPart) : Prop := if p.fCode = 0 then Num p.fValue ∧ pointOK j p.fGrad else (p.fCode = 6 ∨ p.fCode = 7) ∧ p.fValue = 0 ∧ p.fGrad = []
noncomputable instance (j : DJob) (p : DPart) : Decidable (partOK j p) := Classical.propDecidable _
def svcAt (j : DJob) (st ow : Int) (kn : Bool) (p : DPart) : Prop := (0 ≤ st ∧ st ≤ 50) ∧ (-1 ≤ ow ∧ ow ≤ 3) ∧ (kn = true → ow = -1 ∧ partOK j p) ∧ (kn = false → p.fCode = 0 ∧ p.fValue = 0 ∧ p.fGrad = [])
def DService.ok (s : DService) : Prop := s.fJob.ok ∧ (s.fStamps.length = s.fJob.fTerms.length ∧ s.fKnown.length = s.fJob.fTerms.length ∧ s.fParts.length = s.fJob.fTerms.length ∧ s.fOwners.length = s.fJob.fTerms.length) ∧
  ∀ (k : Nat) (st ow : Int) (kn : Bool) (p : DPart), s.fStamps[k]? = some st → s.fOwners[k]? = some ow → s.fKnown[k]? = some kn → s.fParts[k]? = some p → svcAt s.fJob st ow kn p
noncomputable instance (s : DService) : Decidable s.ok := Classical.propDecidable _
open Go.Proofs
set_option linter.unusedVariables false
set_option linter.unusedSimpArgs false
open Go.Proofs
set_option linter.unusedVariables false
set_option linter.unusedSimpArgs false


def keep240 : List Nat := [0, 2, 3, 4, 11]
def ib240 : List Nat := []
def mk240 : Marks := fun _ => ([], .nil, [])
set_option maxRecDepth 100000 in
theorem to_ExprS (l : List DExpr) (h1 : l.length ≤ 1048576) (hc : ∀ x ∈ l, Fn0 Tryz.prog 280 [(.agg (DExpr.c x))] (.agg (DExpr.c x))) : Fn0 Tryz.prog 240 [(sls 5 DExpr.c l)] (sls 5 DExpr.c l) := by
  refine fn0S 23 keep240 ib240 mk240 mix Tryz.func240 rfl (by kernel_rfl) (by simp) fun h => ?_
  simp -dsimp -implicitDefEqProofs only [go_sem, Tryz.f240, ↓reduceIte, keep240, ib240, mk240]
  refine fun _ => ⟨by omega, by omega, by omega, by omega, fun n hn => ?_⟩
  refine loopF (keep := keep240) (ib := ib240) (mk := mk240) mix (by kernel_rfl) (fun k : Nat => [(0, (sls 5 DExpr.c l)), (3, .os n 5 0 l.length), (4, I k)]) (fun k => upd h n (.row 5 (fillUp DExpr.c [.int .i64 0, .int .i64 0, .int .i64 0, .int .i64 0, .nilsl] l k))) (fun k => k ≤ l.length) (fun k => l.length - k) 0 (by simp [SatL, tget, Heap.le_refl, fillUp_zero]) ?_
  intro k hk
  rcases Nat.lt_or_ge k l.length with hlt | hge
  · have ea : l[k]? = some l[k] := List.getElem?_eq_getElem hlt
    simp -dsimp -implicitDefEqProofs only [go_sem, ↓reduceIte, keep240, ib240, mk240, Tryz.f240, ea, fillUp_get _ _ _ _ hlt, DExpr.c_eq]
    refine fun _ => ⟨fun _ => ⟨hlt, ?_⟩, fun hn => absurd hlt hn⟩
    have hx := hc l[k] (List.getElem_mem hlt)
    simp only [DExpr.c_eq] at hx
    refine HFnF.mk hx ?_
    simp -dsimp -implicitDefEqProofs only [go_sem, ↓reduceIte, keep240, ib240, mk240, Tryz.f240, fillUp_get _ _ _ _ hlt]
    refine ⟨hlt, k + 1, by rw [IntWalk.i64_in _ (by omega)]; rfl, ?_, by omega, by omega⟩
    exact le_fill hlt (by first | rfl | (simp only [List.map_cons, List.map_nil, DExpr.c_eq]))
  · have hk' : k = l.length := by omega
    subst hk'
    simp -dsimp -implicitDefEqProofs only [go_sem, ↓reduceIte, keep240, ib240, mk240, Tryz.f240, Nat.lt_irrefl]
    rw [fillUp_all]
    exact fun _ => shift_row _ hn (Heap.le_refl _) _ (by simp)

def keep280 : List Nat := [0, 1, 2, 3]
def ib280 : List Nat := [1]
def mk280 : Marks := fun _ => ([], .nil, [])
set_option maxRecDepth 100000 in
theorem to_Expr_step (x : DExpr) (hs : x.s ≤ 1048576) (hk : Fn0 Tryz.prog 240 [(sls 5 DExpr.c x.fKids)] (sls 5 DExpr.c x.fKids)) : Fn0 Tryz.prog 280 [.agg x.c] (.agg x.c) := by
  rw [DExpr.s_eq] at hs
  simp only [DExpr.c_eq]
  refine fn0S 21 keep280 ib280 mk280 mix Tryz.func280 rfl (by kernel_rfl) (by simp) fun h => ?_
  simp -dsimp -implicitDefEqProofs only [go_sem, Tryz.f280, ↓reduceIte, keep280, ib280, mk280]
  intro n2 h2 n3 h3
  have e1 : (n2 = n3) = False := eq_false fun e => h3.1 e.symm
  have e2 : (n3 = n2) = False := eq_false h3.1
  have hzfKids : (x.fKids).length + ((x.fKids).map DExpr.s).sum = (szs DExpr.s x.fKids) := rfl
  refine HFnF.mk hk ?_
  simp -dsimp -implicitDefEqProofs only [go_sem, ↓reduceIte, keep280, ib280, mk280, Tryz.f280, upd_upd, upd_get, e1, e2]
  exact shift_le (by simp -dsimp -implicitDefEqProofs only [go_sem, h2, h3, e1, e2, upd_get])
theorem to_Expr (x : DExpr) (hs : x.s ≤ 1048576) : Fn0 Tryz.prog 280 [.agg x.c] (.agg x.c) :=
  to_Expr_step x hs (to_ExprS x.fKids (by rw [DExpr.s_eq] at hs; rw [szs_eq] at hs; omega) fun y hy => to_Expr y (by rw [DExpr.s_eq] at hs; have := sum_mem DExpr.s hy; rw [szs_eq] at hs; omega))
termination_by SizeOf.sizeOf x
decreasing_by exact DExpr.kid_lt hy

def keep167 : List Nat := [0, 1, 2, 3]
def ib167 : List Nat := [1]
def mk167 : Marks := fun _ => ([], .nil, [])
set_option maxRecDepth 100000 in
theorem to_Func (x : DFunc) (hs : x.s ≤ 1048576) : Fn0 Tryz.prog 167 [.agg x.c] (.agg x.c) := by
  rw [DFunc.s_eq] at hs
  simp only [DFunc.c_eq]
  refine fn0S 15 keep167 ib167 mk167 mix Tryz.func167 rfl (by kernel_rfl) (by simp) fun h => ?_
  simp -dsimp -implicitDefEqProofs only [go_sem, Tryz.f167, ↓reduceIte, keep167, ib167, mk167]
  intro n2 h2 n3 h3
  have e1 : (n2 = n3) = False := eq_false fun e => h3.1 e.symm
  have e2 : (n3 = n2) = False := eq_false h3.1
  have hzfOuts : (x.fOuts).length + ((x.fOuts).map DExpr.s).sum = (szs DExpr.s x.fOuts) := rfl
  refine HFnF.mk (to_ExprS x.fOuts (by omega) (fun y hy => to_Expr y (by have hq : (DExpr.s y) ≤ ((x.fOuts).map DExpr.s).sum := sum_mem DExpr.s hy; omega))) ?_
  simp -dsimp -implicitDefEqProofs only [go_sem, ↓reduceIte, keep167, ib167, mk167, Tryz.f167, upd_upd, upd_get, e1, e2]
  exact shift_le (by simp -dsimp -implicitDefEqProofs only [go_sem, h2, h3, e1, e2, upd_get])

def keep85 : List Nat := [0, 2, 3, 4, 11]
def ib85 : List Nat := []
def mk85 : Marks := fun _ => ([], .nil, [])
set_option maxRecDepth 100000 in
theorem to_FuncS (l : List DFunc) (h1 : l.length ≤ 1048576) (hc : ∀ x ∈ l, Fn0 Tryz.prog 167 [(.agg (DFunc.c x))] (.agg (DFunc.c x))) : Fn0 Tryz.prog 85 [(sls 3 DFunc.c l)] (sls 3 DFunc.c l) := by
  refine fn0S 23 keep85 ib85 mk85 mix Tryz.func85 rfl (by kernel_rfl) (by simp) fun h => ?_
  simp -dsimp -implicitDefEqProofs only [go_sem, Tryz.f85, ↓reduceIte, keep85, ib85, mk85]
  refine fun _ => ⟨by omega, by omega, by omega, by omega, fun n hn => ?_⟩
  refine loopF (keep := keep85) (ib := ib85) (mk := mk85) mix (by kernel_rfl) (fun k : Nat => [(0, (sls 3 DFunc.c l)), (3, .os n 3 0 l.length), (4, I k)]) (fun k => upd h n (.row 3 (fillUp DFunc.c [.str [], .int .i64 0, .nilsl] l k))) (fun k => k ≤ l.length) (fun k => l.length - k) 0 (by simp [SatL, tget, Heap.le_refl, fillUp_zero]) ?_
  intro k hk
  rcases Nat.lt_or_ge k l.length with hlt | hge
  · have ea : l[k]? = some l[k] := List.getElem?_eq_getElem hlt
    simp -dsimp -implicitDefEqProofs only [go_sem, ↓reduceIte, keep85, ib85, mk85, Tryz.f85, ea, fillUp_get _ _ _ _ hlt, DFunc.c_eq]
    refine fun _ => ⟨fun _ => ⟨hlt, ?_⟩, fun hn => absurd hlt hn⟩
    have hx := hc l[k] (List.getElem_mem hlt)
    simp only [DFunc.c_eq] at hx
    refine HFnF.mk hx ?_
    simp -dsimp -implicitDefEqProofs only [go_sem, ↓reduceIte, keep85, ib85, mk85, Tryz.f85, fillUp_get _ _ _ _ hlt]
    refine ⟨hlt, k + 1, by rw [IntWalk.i64_in _ (by omega)]; rfl, ?_, by omega, by omega⟩
    exact le_fill hlt (by first | rfl | (simp only [List.map_cons, List.map_nil, DFunc.c_eq]))
  · have hk' : k = l.length := by omega
    subst hk'
    simp -dsimp -implicitDefEqProofs only [go_sem, ↓reduceIte, keep85, ib85, mk85, Tryz.f85, Nat.lt_irrefl]
    rw [fillUp_all]
    exact fun _ => shift_row _ hn (Heap.le_refl _) _ (by simp)

def keep34 : List Nat := [0, 1, 2, 3]
def ib34 : List Nat := [1]
def mk34 : Marks := fun _ => ([], .nil, [])
set_option maxRecDepth 100000 in
theorem to_Program (x : DProgram) (hs : x.s ≤ 1048576) : Fn0 Tryz.prog 34 [.agg x.c] (.agg x.c) := by
  rw [DProgram.s_eq] at hs
  simp only [DProgram.c_eq]
  refine fn0S 9 keep34 ib34 mk34 mix Tryz.func34 rfl (by kernel_rfl) (by simp) fun h => ?_
  simp -dsimp -implicitDefEqProofs only [go_sem, Tryz.f34, ↓reduceIte, keep34, ib34, mk34]
  intro n2 h2 n3 h3
  have e1 : (n2 = n3) = False := eq_false fun e => h3.1 e.symm
  have e2 : (n3 = n2) = False := eq_false h3.1
  have hzfFuncs : (x.fFuncs).length + ((x.fFuncs).map DFunc.s).sum = (szs DFunc.s x.fFuncs) := rfl
  refine HFnF.mk (to_FuncS x.fFuncs (by omega) (fun y hy => to_Func y (by have hq : (DFunc.s y) ≤ ((x.fFuncs).map DFunc.s).sum := sum_mem DFunc.s hy; omega))) ?_
  simp -dsimp -implicitDefEqProofs only [go_sem, ↓reduceIte, keep34, ib34, mk34, Tryz.f34, upd_upd, upd_get, e1, e2]
  exact shift_le (by simp -dsimp -implicitDefEqProofs only [go_sem, h2, h3, e1, e2, upd_get])

def keep30 : List Nat := [0, 2, 3, 4, 11]
def ib30 : List Nat := []
def mk30 : Marks := fun _ => ([], .nil, [])
set_option maxRecDepth 100000 in
theorem to_Int64S (l : List Int) (h1 : l.length ≤ 1048576) : Fn0 Tryz.prog 30 [(sls 1 (fun n => [I n]) l)] (sls 1 (fun n => [I n]) l) := by
  refine fn0S 22 keep30 ib30 mk30 mix Tryz.func30 rfl (by kernel_rfl) (by simp) fun h => ?_
  simp -dsimp -implicitDefEqProofs only [go_sem, Tryz.f30, ↓reduceIte, keep30, ib30, mk30]
  refine fun _ => ⟨by omega, by omega, by omega, by omega, fun n hn => ?_⟩
  refine loopF (keep := keep30) (ib := ib30) (mk := mk30) mix (by kernel_rfl) (fun k : Nat => [(0, (sls 1 (fun n => [I n]) l)), (3, .os n 1 0 l.length), (4, I k)]) (fun k => upd h n (.row 1 (fillUp (fun n => [I n]) [.int .i64 0] l k))) (fun k => k ≤ l.length) (fun k => l.length - k) 0 (by simp [SatL, tget, Heap.le_refl, fillUp_zero]) ?_
  intro k hk
  rcases Nat.lt_or_ge k l.length with hlt | hge
  · have ea : l[k]? = some l[k] := List.getElem?_eq_getElem hlt
    simp -dsimp -implicitDefEqProofs only [go_sem, ↓reduceIte, keep30, ib30, mk30, Tryz.f30, ea, fillUp_get _ _ _ _ hlt]
    refine fun _ => ⟨fun _ => ⟨hlt, hlt, k + 1, by rw [IntWalk.i64_in _ (by omega)]; rfl, ?_, by omega, by omega⟩, fun hn => absurd hlt hn⟩
    exact le_fill hlt rfl
  · have hk' : k = l.length := by omega
    subst hk'
    simp -dsimp -implicitDefEqProofs only [go_sem, ↓reduceIte, keep30, ib30, mk30, Tryz.f30, Nat.lt_irrefl]
    rw [fillUp_all]
    exact fun _ => shift_row _ hn (Heap.le_refl _) _ (by simp)

def keep50 : List Nat := [0, 2, 3, 4, 11]
def ib50 : List Nat := []
def mk50 : Marks := fun _ => ([], .nil, [])
set_option maxRecDepth 100000 in
theorem to_Int64SS (l : List (List Int)) (h1 : l.length ≤ 1048576) (hc : ∀ x ∈ l, Fn0 Tryz.prog 30 [(sls 1 (fun n => [I n]) x)] (sls 1 (fun n => [I n]) x)) : Fn0 Tryz.prog 50 [(sls 1 (fun x => [sls 1 (fun n => [I n]) x]) l)] (sls 1 (fun x => [sls 1 (fun n => [I n]) x]) l) := by
  refine fn0S 23 keep50 ib50 mk50 mix Tryz.func50 rfl (by kernel_rfl) (by simp) fun h => ?_
  simp -dsimp -implicitDefEqProofs only [go_sem, Tryz.f50, ↓reduceIte, keep50, ib50, mk50]
  refine fun _ => ⟨by omega, by omega, by omega, by omega, fun n hn => ?_⟩
  refine loopF (keep := keep50) (ib := ib50) (mk := mk50) mix (by kernel_rfl) (fun k : Nat => [(0, (sls 1 (fun x => [sls 1 (fun n => [I n]) x]) l)), (3, .os n 1 0 l.length), (4, I k)]) (fun k => upd h n (.row 1 (fillUp (fun x => [sls 1 (fun n => [I n]) x]) [.nilsl] l k))) (fun k => k ≤ l.length) (fun k => l.length - k) 0 (by simp [SatL, tget, Heap.le_refl, fillUp_zero]) ?_
  intro k hk
  rcases Nat.lt_or_ge k l.length with hlt | hge
  · have ea : l[k]? = some l[k] := List.getElem?_eq_getElem hlt
    simp -dsimp -implicitDefEqProofs only [go_sem, ↓reduceIte, keep50, ib50, mk50, Tryz.f50, ea, fillUp_get _ _ _ _ hlt]
    refine fun _ => ⟨fun _ => ⟨hlt, ?_⟩, fun hn => absurd hlt hn⟩
    have hx := hc l[k] (List.getElem_mem hlt)
    refine HFnF.mk hx ?_
    simp -dsimp -implicitDefEqProofs only [go_sem, ↓reduceIte, keep50, ib50, mk50, Tryz.f50, fillUp_get _ _ _ _ hlt]
    refine ⟨hlt, k + 1, by rw [IntWalk.i64_in _ (by omega)]; rfl, ?_, by omega, by omega⟩
    exact le_fill hlt (by first | rfl | (simp only [List.map_cons, List.map_nil]))
  · have hk' : k = l.length := by omega
    subst hk'
    simp -dsimp -implicitDefEqProofs only [go_sem, ↓reduceIte, keep50, ib50, mk50, Tryz.f50, Nat.lt_irrefl]
    rw [fillUp_all]
    exact fun _ => shift_row _ hn (Heap.le_refl _) _ (by simp)

def keep12 : List Nat := [0, 1, 2, 3]
def ib12 : List Nat := [1]
def mk12 : Marks := fun _ => ([], .nil, [])
set_option maxRecDepth 100000 in
theorem to_Job (x : DJob) (hs : x.s ≤ 1048576) : Fn0 Tryz.prog 12 [.agg x.c] (.agg x.c) := by
  rw [DJob.s_eq] at hs
  simp only [DJob.c_eq]
  refine fn0S 23 keep12 ib12 mk12 mix Tryz.func12 rfl (by kernel_rfl) (by simp) fun h => ?_
  simp -dsimp -implicitDefEqProofs only [go_sem, Tryz.f12, ↓reduceIte, keep12, ib12, mk12]
  intro n2 h2 n3 h3
  have e1 : (n2 = n3) = False := eq_false fun e => h3.1 e.symm
  have e2 : (n3 = n2) = False := eq_false h3.1
  have hzfTerms : (x.fTerms).length + ((x.fTerms).map (fun x : List Int => x.length)).sum = (szs (fun x : List Int => x.length) x.fTerms) := rfl
  refine HFnF.mk (to_Program x.fProgram (by omega)) ?_
  simp -dsimp -implicitDefEqProofs only [go_sem, ↓reduceIte, keep12, ib12, mk12, Tryz.f12, upd_upd, upd_get, e1, e2, DProgram.c_eq]
  refine HFnF.mk (to_Int64S x.fPoint (by omega)) ?_
  simp -dsimp -implicitDefEqProofs only [go_sem, ↓reduceIte, keep12, ib12, mk12, Tryz.f12, upd_upd, upd_get, e1, e2]
  refine HFnF.mk (to_Int64SS x.fTerms (by omega) (fun y hy => to_Int64S y (by have hq : y.length ≤ ((x.fTerms).map (fun x : List Int => x.length)).sum := sum_mem (fun x : List Int => x.length) hy; omega))) ?_
  simp -dsimp -implicitDefEqProofs only [go_sem, ↓reduceIte, keep12, ib12, mk12, Tryz.f12, upd_upd, upd_get, e1, e2]
  exact shift_le (by simp -dsimp -implicitDefEqProofs only [go_sem, h2, h3, e1, e2, upd_get])


open Go.Proofs
set_option linter.unusedVariables false
set_option linter.unusedSimpArgs false
mutual
def DExpr.o : DExpr → List OV → Prop
  | .mk fKind fNum fPick fCount fKids, e => ∃ y, e = [.v (.int .i64 fKind), .v (.int .i64 fNum), .v (.int .i64 fPick), .v (.int .i64 fCount), y] ∧ ((y = .nil 5 ∧ fKids = []) ∨ ∃ n es, y = .sl n 5 es ∧ DExpr.oR fKids es)
def DExpr.oR : List DExpr → List (List OV) → Prop
  | [], [] => True
  | x :: l, e :: es => x.o e ∧ DExpr.oR l es
  | _, _ => False
end
theorem DExpr.oR_eq : ∀ (l : List DExpr) (es : List (List OV)), DExpr.oR l es = OR DExpr.o l es
  | [], [] => rfl
  | x :: l, e :: es => by rw [DExpr.oR, OR, DExpr.oR_eq l es]
  | [], _ :: _ => rfl
  | _ :: _, [] => rfl
theorem DExpr.o_iff (x : DExpr) (e : List OV) : x.o e ↔ ∃ y4, e = [.v (.int .i64 x.fKind), .v (.int .i64 x.fNum), .v (.int .i64 x.fPick), .v (.int .i64 x.fCount), y4] ∧ OS DExpr.o 5 x.fKids y4 := by
  cases x
  simp only [DExpr.o, DExpr.oR_eq, OS]
  rfl
mutual
theorem DExpr.o_dat : ∀ {x : DExpr} {e : List OV}, x.o e → e.map OV.dat = x.c
  | .mk fKind fNum fPick fCount fKids, e, h => by
    rw [DExpr.o_iff] at h
    obtain ⟨y, rfl, h⟩ := h
    have hk : y.dat = .sl 5 (fKids.map DExpr.c) false := by
      rcases h with ⟨rfl, h0⟩ | ⟨n, es, rfl, h⟩
      · have h1 : fKids = [] := h0
        subst h1; rfl
      · simp only [OV.dat]
        rw [DExpr.o_datR h]
        rfl
    rw [DExpr.c_eq]
    simp only [List.map_cons, List.map_nil, OV.dat, hk]
    rfl
theorem DExpr.o_datR : ∀ {l : List DExpr} {es : List (List OV)}, OR DExpr.o l es → OV.datRows es = l.map DExpr.c
  | [], [], _ => rfl
  | x :: l, e :: es, h => by rw [OV.datRows, DExpr.o_datR h.2, OV.datRow_map, DExpr.o_dat h.1]; rfl
  | [], _ :: _, h => h.elim
  | _ :: _, [], h => h.elim
end
def DFunc.o (x : DFunc) (e : List OV) : Prop := ∃ y2, e = [.v (.str x.fName), .v (.int .i64 x.fParams), y2] ∧ OS DExpr.o 5 x.fOuts y2
theorem DFunc.o_dat {x : DFunc} {e : List OV} (h : x.o e) : e.map OV.dat = x.c := by
  obtain ⟨y2, rfl, o2⟩ := h
  have d2 := OS.dat (c := DExpr.c) (fun _ _ q => DExpr.o_dat q) o2
  rw [DFunc.c_eq]
  simp only [List.map_cons, List.map_nil, OV.dat, d2]
def DProgram.o (x : DProgram) (e : List OV) : Prop := ∃ y0, e = [y0] ∧ OS DFunc.o 3 x.fFuncs y0
theorem DProgram.o_dat {x : DProgram} {e : List OV} (h : x.o e) : e.map OV.dat = x.c := by
  obtain ⟨y0, rfl, o0⟩ := h
  have d0 := OS.dat (c := DFunc.c) (fun _ _ q => DFunc.o_dat q) o0
  rw [DProgram.c_eq]
  simp only [List.map_cons, List.map_nil, OV.dat, d0]
def DJob.o (x : DJob) (e : List OV) : Prop := ∃ y0 y3 y4, e = [y0, .v (.int .i64 x.fFunc), .v (.int .i64 x.fShared), y3, y4] ∧ OS DFunc.o 3 x.fProgram.fFuncs y0 ∧ OS (oP I) 1 x.fPoint y3 ∧ OS (oS (oP I) 1) 1 x.fTerms y4
theorem DJob.o_dat {x : DJob} {e : List OV} (h : x.o e) : e.map OV.dat = x.c := by
  obtain ⟨y0, y3, y4, rfl, o0, o3, o4⟩ := h
  have d0 := OS.dat (c := DFunc.c) (fun _ _ q => DFunc.o_dat q) o0
  have d3 := OS.dat (c := (fun n => [I n])) (fun _ _ q => oP_dat q) o3
  have d4 := OS.dat (c := (fun x => [sls 1 (fun n => [I n]) x])) (fun _ _ q => oS_dat (c := (fun n => [I n])) (fun _ _ q => oP_dat q) q) o4
  rw [DJob.c_eq]
  simp only [List.map_cons, List.map_nil, OV.dat, d0, d3, d4]
def DPart.o (x : DPart) (e : List OV) : Prop := ∃ y2, e = [.v (.int .i64 x.fCode), .v (.int .i64 x.fValue), y2] ∧ OS (oP I) 1 x.fGrad y2
theorem DPart.o_dat {x : DPart} {e : List OV} (h : x.o e) : e.map OV.dat = x.c := by
  obtain ⟨y2, rfl, o2⟩ := h
  have d2 := OS.dat (c := (fun n => [I n])) (fun _ _ q => oP_dat q) o2
  rw [DPart.c_eq]
  simp only [List.map_cons, List.map_nil, OV.dat, d2]
def DService.o (x : DService) (e : List OV) : Prop := ∃ y0 y3 y4 y5 y6 y7 y8, e = [y0, .v (.int .i64 x.fJob.fFunc), .v (.int .i64 x.fJob.fShared), y3, y4, y5, y6, y7, y8] ∧ OS DFunc.o 3 x.fJob.fProgram.fFuncs y0 ∧ OS (oP I) 1 x.fJob.fPoint y3 ∧ OS (oS (oP I) 1) 1 x.fJob.fTerms y4 ∧ OS (oP I) 1 x.fStamps y5 ∧ OS (oP HVal.bool) 1 x.fKnown y6 ∧ OS DPart.o 3 x.fParts y7 ∧ OS (oP I) 1 x.fOwners y8
theorem DService.o_dat {x : DService} {e : List OV} (h : x.o e) : e.map OV.dat = x.c := by
  obtain ⟨y0, y3, y4, y5, y6, y7, y8, rfl, o0, o3, o4, o5, o6, o7, o8⟩ := h
  have d0 := OS.dat (c := DFunc.c) (fun _ _ q => DFunc.o_dat q) o0
  have d3 := OS.dat (c := (fun n => [I n])) (fun _ _ q => oP_dat q) o3
  have d4 := OS.dat (c := (fun x => [sls 1 (fun n => [I n]) x])) (fun _ _ q => oS_dat (c := (fun n => [I n])) (fun _ _ q => oP_dat q) q) o4
  have d5 := OS.dat (c := (fun n => [I n])) (fun _ _ q => oP_dat q) o5
  have d6 := OS.dat (c := (fun b => [.bool b])) (fun _ _ q => oP_dat q) o6
  have d7 := OS.dat (c := DPart.c) (fun _ _ q => DPart.o_dat q) o7
  have d8 := OS.dat (c := (fun n => [I n])) (fun _ _ q => oP_dat q) o8
  rw [DService.c_eq]
  simp only [List.map_cons, List.map_nil, OV.dat, d0, d3, d4, d5, d6, d7, d8]
def DTerm.o (x : DTerm) (e : List OV) : Prop := ∃ y0, e = [y0, .v (.int .i64 x.fCoef)] ∧ OS (oP I) 1 x.fExps y0
theorem DTerm.o_dat {x : DTerm} {e : List OV} (h : x.o e) : e.map OV.dat = x.c := by
  obtain ⟨y0, rfl, o0⟩ := h
  have d0 := OS.dat (c := (fun n => [I n])) (fun _ _ q => oP_dat q) o0
  rw [DTerm.c_eq]
  simp only [List.map_cons, List.map_nil, OV.dat, d0]
def DPoly.o (x : DPoly) (e : List OV) : Prop := ∃ y1, e = [.v (.int .i64 x.fVars), y1] ∧ OS DTerm.o 2 x.fTerms y1
theorem DPoly.o_dat {x : DPoly} {e : List OV} (h : x.o e) : e.map OV.dat = x.c := by
  obtain ⟨y1, rfl, o1⟩ := h
  have d1 := OS.dat (c := DTerm.c) (fun _ _ q => DTerm.o_dat q) o1
  rw [DPoly.c_eq]
  simp only [List.map_cons, List.map_nil, OV.dat, d1]

theorem DExpr.o_ct (x : DExpr) (e : List OV) (h : x.o e) : OV.ctRow e ≤ 16 * (1 + x.s) := by
  rw [DExpr.o_iff] at h
  obtain ⟨y4, rfl, o4⟩ := h
  have d4 := OS.cts (s := DExpr.s) o4 (fun z hz e q => DExpr.o_ct z e q)
  have s0 := DExpr.s_eq x
  clear o4
  simp only [OV.ctRow, OV.ct_v]
  refine Nat.le_trans (Nat.add_le_add (Nat.le_refl 1) (Nat.add_le_add (Nat.le_refl 1) (Nat.add_le_add (Nat.le_refl 1) (Nat.add_le_add (Nat.le_refl 1) (Nat.add_le_add d4 (Nat.le_refl 0)))))) ?_
  clear d4
  try generalize (szs DExpr.s x.fKids) = z4 at *
  omega
termination_by SizeOf.sizeOf x
decreasing_by exact DExpr.kid_lt hz
theorem DExpr.o_top (x : DExpr) (e : List OV) (h : x.o e) : OV.ctTop e ≤ 16 * (1 + x.s) := by
  have h1 := DExpr.o_ct x e h
  have h2 : ∀ e : List OV, OV.ctTop e ≤ OV.ctRow e := fun e => by
    induction e with
    | nil => simp [OV.ctTop]
    | cons a e ih => rw [OV.ctTop, OV.ctRow]; cases a <;> simp [OV.ctT] <;> omega
  exact Nat.le_trans (h2 e) h1
theorem DFunc.o_ct (x : DFunc) (e : List OV) (h : x.o e) : OV.ctRow e ≤ 16 * (1 + x.s) := by
  obtain ⟨y2, rfl, o2⟩ := h
  have d2 := OS.cts (s := DExpr.s) o2 (fun z hz e q => DExpr.o_ct z e q)
  have s0 := DFunc.s_eq x
  clear o2
  simp only [OV.ctRow, OV.ct_v]
  refine Nat.le_trans (Nat.add_le_add (Nat.le_refl 1) (Nat.add_le_add (Nat.le_refl 1) (Nat.add_le_add d2 (Nat.le_refl 0)))) ?_
  clear d2
  try generalize (szs DExpr.s x.fOuts) = z2 at *
  omega
theorem DFunc.o_top (x : DFunc) (e : List OV) (h : x.o e) : OV.ctTop e ≤ 16 * (1 + x.s) := by
  have h1 := DFunc.o_ct x e h
  have h2 : ∀ e : List OV, OV.ctTop e ≤ OV.ctRow e := fun e => by
    induction e with
    | nil => simp [OV.ctTop]
    | cons a e ih => rw [OV.ctTop, OV.ctRow]; cases a <;> simp [OV.ctT] <;> omega
  exact Nat.le_trans (h2 e) h1
theorem DProgram.o_ct (x : DProgram) (e : List OV) (h : x.o e) : OV.ctRow e ≤ 16 * (1 + x.s) := by
  obtain ⟨y0, rfl, o0⟩ := h
  have d0 := OS.cts (s := DFunc.s) o0 (fun z hz e q => DFunc.o_ct z e q)
  have s0 := DProgram.s_eq x
  clear o0
  simp only [OV.ctRow, OV.ct_v]
  refine Nat.le_trans (Nat.add_le_add d0 (Nat.le_refl 0)) ?_
  clear d0
  try generalize (szs DFunc.s x.fFuncs) = z0 at *
  omega
theorem DProgram.o_top (x : DProgram) (e : List OV) (h : x.o e) : OV.ctTop e ≤ 16 * (1 + x.s) := by
  have h1 := DProgram.o_ct x e h
  have h2 : ∀ e : List OV, OV.ctTop e ≤ OV.ctRow e := fun e => by
    induction e with
    | nil => simp [OV.ctTop]
    | cons a e ih => rw [OV.ctTop, OV.ctRow]; cases a <;> simp [OV.ctT] <;> omega
  exact Nat.le_trans (h2 e) h1
theorem DJob.o_ct (x : DJob) (e : List OV) (h : x.o e) : OV.ctRow e ≤ 16 * (1 + x.s) := by
  obtain ⟨y0, y3, y4, rfl, o0, o3, o4⟩ := h
  have d0 := OS.cts (s := DFunc.s) o0 (fun z hz e q => DFunc.o_ct z e q)
  have d3 := o3.ctP
  have d4 := OS.cts (s := (fun x : List Int => x.length)) o4 (fun z hz e q => oS_ctP q)
  have s0 := DJob.s_eq x
  have s1 := DProgram.s_eq (x.fProgram)
  clear o0 o3 o4
  simp only [OV.ctRow, OV.ct_v]
  refine Nat.le_trans (Nat.add_le_add d0 (Nat.add_le_add (Nat.le_refl 1) (Nat.add_le_add (Nat.le_refl 1) (Nat.add_le_add d3 (Nat.add_le_add d4 (Nat.le_refl 0)))))) ?_
  clear d0
  clear d3
  clear d4
  try generalize (szs DFunc.s x.fProgram.fFuncs) = z0 at *
  try generalize x.fPoint.length = z3 at *
  try generalize (szs (fun x : List Int => x.length) x.fTerms) = z4 at *
  omega
theorem DJob.o_top (x : DJob) (e : List OV) (h : x.o e) : OV.ctTop e ≤ 16 * (1 + x.s) := by
  have h1 := DJob.o_ct x e h
  have h2 : ∀ e : List OV, OV.ctTop e ≤ OV.ctRow e := fun e => by
    induction e with
    | nil => simp [OV.ctTop]
    | cons a e ih => rw [OV.ctTop, OV.ctRow]; cases a <;> simp [OV.ctT] <;> omega
  exact Nat.le_trans (h2 e) h1
theorem DPart.o_ct (x : DPart) (e : List OV) (h : x.o e) : OV.ctRow e ≤ 16 * (1 + x.s) := by
  obtain ⟨y2, rfl, o2⟩ := h
  have d2 := o2.ctP
  have s0 := DPart.s_eq x
  clear o2
  simp only [OV.ctRow, OV.ct_v]
  refine Nat.le_trans (Nat.add_le_add (Nat.le_refl 1) (Nat.add_le_add (Nat.le_refl 1) (Nat.add_le_add d2 (Nat.le_refl 0)))) ?_
  clear d2
  try generalize x.fGrad.length = z2 at *
  omega
theorem DPart.o_top (x : DPart) (e : List OV) (h : x.o e) : OV.ctTop e ≤ 16 * (1 + x.s) := by
  have h1 := DPart.o_ct x e h
  have h2 : ∀ e : List OV, OV.ctTop e ≤ OV.ctRow e := fun e => by
    induction e with
    | nil => simp [OV.ctTop]
    | cons a e ih => rw [OV.ctTop, OV.ctRow]; cases a <;> simp [OV.ctT] <;> omega
  exact Nat.le_trans (h2 e) h1
theorem DService.o_ct (x : DService) (e : List OV) (h : x.o e) : OV.ctRow e ≤ 16 * (1 + x.s) := by
  obtain ⟨y0, y3, y4, y5, y6, y7, y8, rfl, o0, o3, o4, o5, o6, o7, o8⟩ := h
  have d0 := OS.cts (s := DFunc.s) o0 (fun z hz e q => DFunc.o_ct z e q)
  have d3 := o3.ctP
  have d4 := OS.cts (s := (fun x : List Int => x.length)) o4 (fun z hz e q => oS_ctP q)
  have d5 := o5.ctP
  have d6 := o6.ctP
  have d7 := OS.cts (s := DPart.s) o7 (fun z hz e q => DPart.o_ct z e q)
  have d8 := o8.ctP
  have s0 := DService.s_eq x
  have s1 := DJob.s_eq (x.fJob)
  have s2 := DProgram.s_eq (x.fJob.fProgram)
  clear o0 o3 o4 o5 o6 o7 o8
  simp only [OV.ctRow, OV.ct_v]
  refine Nat.le_trans (Nat.add_le_add d0 (Nat.add_le_add (Nat.le_refl 1) (Nat.add_le_add (Nat.le_refl 1) (Nat.add_le_add d3 (Nat.add_le_add d4 (Nat.add_le_add d5 (Nat.add_le_add d6 (Nat.add_le_add d7 (Nat.add_le_add d8 (Nat.le_refl 0)))))))))) ?_
  clear d0
  clear d3
  clear d4
  clear d5
  clear d6
  clear d7
  clear d8
  try generalize (szs DFunc.s x.fJob.fProgram.fFuncs) = z0 at *
  try generalize x.fJob.fPoint.length = z3 at *
  try generalize (szs (fun x : List Int => x.length) x.fJob.fTerms) = z4 at *
  try generalize x.fStamps.length = z5 at *
  try generalize x.fKnown.length = z6 at *
  try generalize (szs DPart.s x.fParts) = z7 at *
  try generalize x.fOwners.length = z8 at *
  omega
theorem DService.o_top (x : DService) (e : List OV) (h : x.o e) : OV.ctTop e ≤ 16 * (1 + x.s) := by
  have h1 := DService.o_ct x e h
  have h2 : ∀ e : List OV, OV.ctTop e ≤ OV.ctRow e := fun e => by
    induction e with
    | nil => simp [OV.ctTop]
    | cons a e ih => rw [OV.ctTop, OV.ctRow]; cases a <;> simp [OV.ctT] <;> omega
  exact Nat.le_trans (h2 e) h1
theorem DTerm.o_ct (x : DTerm) (e : List OV) (h : x.o e) : OV.ctRow e ≤ 16 * (1 + x.s) := by
  obtain ⟨y0, rfl, o0⟩ := h
  have d0 := o0.ctP
  have s0 := DTerm.s_eq x
  clear o0
  simp only [OV.ctRow, OV.ct_v]
  refine Nat.le_trans (Nat.add_le_add d0 (Nat.add_le_add (Nat.le_refl 1) (Nat.le_refl 0))) ?_
  clear d0
  try generalize x.fExps.length = z0 at *
  omega
theorem DTerm.o_top (x : DTerm) (e : List OV) (h : x.o e) : OV.ctTop e ≤ 16 * (1 + x.s) := by
  have h1 := DTerm.o_ct x e h
  have h2 : ∀ e : List OV, OV.ctTop e ≤ OV.ctRow e := fun e => by
    induction e with
    | nil => simp [OV.ctTop]
    | cons a e ih => rw [OV.ctTop, OV.ctRow]; cases a <;> simp [OV.ctT] <;> omega
  exact Nat.le_trans (h2 e) h1
theorem DPoly.o_ct (x : DPoly) (e : List OV) (h : x.o e) : OV.ctRow e ≤ 16 * (1 + x.s) := by
  obtain ⟨y1, rfl, o1⟩ := h
  have d1 := OS.cts (s := DTerm.s) o1 (fun z hz e q => DTerm.o_ct z e q)
  have s0 := DPoly.s_eq x
  clear o1
  simp only [OV.ctRow, OV.ct_v]
  refine Nat.le_trans (Nat.add_le_add (Nat.le_refl 1) (Nat.add_le_add d1 (Nat.le_refl 0))) ?_
  clear d1
  try generalize (szs DTerm.s x.fTerms) = z1 at *
  omega
theorem DPoly.o_top (x : DPoly) (e : List OV) (h : x.o e) : OV.ctTop e ≤ 16 * (1 + x.s) := by
  have h1 := DPoly.o_ct x e h
  have h2 : ∀ e : List OV, OV.ctTop e ≤ OV.ctRow e := fun e => by
    induction e with
    | nil => simp [OV.ctTop]
    | cons a e ih => rw [OV.ctTop, OV.ctRow]; cases a <;> simp [OV.ctT] <;> omega
  exact Nat.le_trans (h2 e) h1

open Go.Proofs
set_option linter.unusedVariables false
set_option linter.unusedSimpArgs false


set_option maxRecDepth 100000 in
theorem toO_ExprS (l : List DExpr) (h1 : l.length ≤ 1048576) (hc : ∀ x ∈ l, FnN Tryz.prog 280 [(.agg (DExpr.c x))] (QA x.o)) : FnN Tryz.prog 240 [(sls 5 DExpr.c l)] (QS (OS DExpr.o 5 l)) := by
  refine fnNF 23 keep240 ib240 mk240 mix Tryz.func240 rfl (by kernel_rfl) (by simp) fun h => ?_
  simp (maxSteps := 1000000) -dsimp -implicitDefEqProofs only [go_sem, ↓reduceIte, keep240, ib240, mk240, Tryz.f240]
  refine fun _ => ⟨by omega, by omega, by omega, by omega, fun n hn => ?_⟩
  refine loopF (keep := keep240) (ib := ib240) (mk := mk240) mix (by kernel_rfl) (fun x : Nat × List (List OV) × Heap => [(0, (sls 5 DExpr.c l)), (3, .os n 5 0 l.length), (4, I x.1)]) (fun x => upd x.2.2 n (.row 5 (OV.cells x.2.1 ++ (List.replicate (l.length - x.1) [.int .i64 0, .int .i64 0, .int .i64 0, .int .i64 0, .nilsl]).map (List.map .v)))) (fun x => x.1 ≤ l.length ∧ OR DExpr.o (l.take x.1) x.2.1 ∧ New h (OV.rowsRows x.2.1) x.2.2 ∧ x.2.2 n = none) (fun x => l.length - x.1) (0, [], h) (by
    exact ⟨by simp [SatL, tget], Heap.le_refl _, Nat.zero_le _, trivial, New.nil h, hn⟩) ?_
  rintro ⟨k, es, g⟩ ⟨hk, hor, hnew, hgn⟩
  have hlen : es.length = k := by have := hor.length; simp at this; omega
  rcases Nat.lt_or_ge k l.length with hlt | hge
  · have ea : l[k]? = some l[k] := List.getElem?_eq_getElem hlt
    have eg : ∀ m, m = l.length - k → (OV.cells es ++ (List.replicate m [.int .i64 0, .int .i64 0, .int .i64 0, .int .i64 0, .nilsl]).map (List.map Cell.v))[k]? = some ([.int .i64 0, .int .i64 0, .int .i64 0, .int .i64 0, .nilsl].map .v) := fun m hm => fill_get hlen (by omega)
    simp (maxSteps := 1000000) -dsimp -implicitDefEqProofs only [go_sem, ↓reduceIte, keep240, ib240, mk240, Tryz.f240, ea, DExpr.c_eq]
    refine fun _ => ⟨fun _ => ⟨hlt, ?_⟩, fun hn => absurd hlt hn⟩
    have hx := hc l[k] (List.getElem_mem hlt)
    simp only [DExpr.c_eq] at hx
    refine HFnF.nw1 hx hgn ?_
    rintro r l1 g1 ⟨e0, he0, rfl, rfl⟩ hn1 w1
    have he1 := he0
    rw [DExpr.o_iff] at he1
    obtain ⟨y_4, rfl, o_4⟩ := he1
    simp (maxSteps := 1000000) -dsimp -implicitDefEqProofs only [go_sem, ↓reduceIte, keep240, ib240, mk240, Tryz.f240, eg _ rfl, upd_upd, OV.map_val, OV.map_val_nil, OV.val_v, o_4.flat]
    refine ⟨hlt, (k + 1, es ++ [[.v (.int .i64 l[k].fKind), .v (.int .i64 l[k].fNum), .v (.int .i64 l[k].fPick), .v (.int .i64 l[k].fCount), y_4]], g1), ?_⟩
    simp only
    have hf := fill_set (z := [.int .i64 0, .int .i64 0, .int .i64 0, .int .i64 0, .nilsl]) [.v (.int .i64 l[k].fKind), .v (.int .i64 l[k].fNum), .v (.int .i64 l[k].fPick), .v (.int .i64 l[k].fCount), y_4] hlen (m := l.length - k) (by omega) [Cell.v (.int .i64 l[k].fKind), Cell.v (.int .i64 l[k].fNum), Cell.v (.int .i64 l[k].fPick), Cell.v (.int .i64 l[k].fCount), Cell.v y_4.val] rfl
    rw [hf, show l.length - k - 1 = l.length - (k + 1) by omega]
    refine ⟨by rw [IntWalk.i64_in _ (by omega)]; rfl, Heap.le_refl _, ⟨by omega, ?_, ?_, w1⟩, by omega⟩
    · rw [List.take_succ_eq_append_getElem hlt]
      exact OR.append hor ⟨he0, trivial⟩
    · rw [rowsRows_snoc]
      exact hnew.append hn1
  · have hk' : k = l.length := by omega
    subst hk'
    simp (maxSteps := 1000000) -dsimp -implicitDefEqProofs only [go_sem, ↓reduceIte, keep240, ib240, mk240, Tryz.f240, Nat.lt_irrefl]
    refine fun _ => ⟨_, _, _, shift_self _ _, ⟨.sl n 5 es, OS.mk (by simpa using hor), by simp [OV.val, hlen, tget], rfl⟩, ?_⟩
    rw [OV.sl_rows]
    simpa using hnew.row hgn

set_option maxRecDepth 100000 in
theorem toO_Expr_step (x : DExpr) (hs : x.s ≤ 1048576) (hk : FnN Tryz.prog 240 [(sls 5 DExpr.c x.fKids)] (QS (OS DExpr.o 5 x.fKids))) : FnN Tryz.prog 280 [.agg x.c] (QA x.o) := by
  rw [DExpr.s_eq] at hs
  simp only [DExpr.c_eq]
  refine fnNF 21 keep280 ib280 mk280 mix Tryz.func280 rfl (by kernel_rfl) (by simp) fun h => ?_
  simp (maxSteps := 1000000) -dsimp -implicitDefEqProofs only [go_sem, ↓reduceIte, keep280, ib280, mk280, Tryz.f280, upd_upd]
  intro n2 a0 n3 b0
  have e1 : (n2 = n3) = False := eq_false fun e => b0.1 e.symm
  have e2 : (n3 = n2) = False := eq_false b0.1
  have w0 := New.nil h
  have hb0 := b0.2
  have hzfKids : (x.fKids).length + ((x.fKids).map DExpr.s).sum = (szs DExpr.s x.fKids) := rfl
  refine HFnF.nw2 hk a0 ⟨b0.1, hb0⟩ ?_
  rintro r l1 g1 ⟨y1, o1, rfl, rfl⟩ w1 a1 hb1
  simp (maxSteps := 1000000) -dsimp -implicitDefEqProofs only [go_sem, ↓reduceIte, keep280, ib280, mk280, Tryz.f280, upd_upd, upd_get, e1, e2, OV.map_val, OV.map_val_nil, OV.val_v, o1.flat, o1.one]
  have w1t := w0.append w1
  refine ⟨_, g1, _, Shift.of (Sub.refl _) ?_, ⟨[.v (.int .i64 x.fKind), .v (.int .i64 x.fNum), .v (.int .i64 x.fPick), .v (.int .i64 x.fCount), y1], ?_, rfl, rfl⟩, ?_⟩
  · exact le_base1 a1 (le_base1 hb1 (le_base1 a1 (Heap.le_refl _)))
  · rw [DExpr.o_iff]; exact ⟨y1, rfl, o1⟩
  · simpa only [OV.row_cons, OV.row_nil, OV.v_rows, List.nil_append, List.append_nil, List.append_assoc] using w1t
theorem toO_Expr (x : DExpr) (hs : x.s ≤ 1048576) : FnN Tryz.prog 280 [.agg x.c] (QA x.o) :=
  toO_Expr_step x hs (toO_ExprS x.fKids (by rw [DExpr.s_eq] at hs; rw [szs_eq] at hs; omega) fun y hy => toO_Expr y (by rw [DExpr.s_eq] at hs; have := sum_mem DExpr.s hy; rw [szs_eq] at hs; omega))
termination_by SizeOf.sizeOf x
decreasing_by exact DExpr.kid_lt hy

set_option maxRecDepth 100000 in
theorem toO_Func (x : DFunc) (hs : x.s ≤ 1048576) : FnN Tryz.prog 167 [.agg x.c] (QA x.o) := by
  rw [DFunc.s_eq] at hs
  simp only [DFunc.c_eq]
  refine fnNF 15 keep167 ib167 mk167 mix Tryz.func167 rfl (by kernel_rfl) (by simp) fun h => ?_
  simp (maxSteps := 1000000) -dsimp -implicitDefEqProofs only [go_sem, ↓reduceIte, keep167, ib167, mk167, Tryz.f167, upd_upd]
  intro n2 a0 n3 b0
  have e1 : (n2 = n3) = False := eq_false fun e => b0.1 e.symm
  have e2 : (n3 = n2) = False := eq_false b0.1
  have w0 := New.nil h
  have hb0 := b0.2
  have hzfOuts : (x.fOuts).length + ((x.fOuts).map DExpr.s).sum = (szs DExpr.s x.fOuts) := rfl
  refine HFnF.nw2 (toO_ExprS x.fOuts (by omega) (fun y hy => toO_Expr y (by have hq : (DExpr.s y) ≤ ((x.fOuts).map DExpr.s).sum := sum_mem DExpr.s hy; omega))) a0 ⟨b0.1, hb0⟩ ?_
  rintro r l1 g1 ⟨y1, o1, rfl, rfl⟩ w1 a1 hb1
  simp (maxSteps := 1000000) -dsimp -implicitDefEqProofs only [go_sem, ↓reduceIte, keep167, ib167, mk167, Tryz.f167, upd_upd, upd_get, e1, e2, OV.map_val, OV.map_val_nil, OV.val_v, o1.flat, o1.one]
  have w1t := w0.append w1
  refine ⟨_, g1, _, Shift.of (Sub.refl _) ?_, ⟨[.v (.str x.fName), .v (.int .i64 x.fParams), y1], ?_, rfl, rfl⟩, ?_⟩
  · exact le_base1 a1 (le_base1 hb1 (le_base1 a1 (Heap.le_refl _)))
  · exact ⟨y1, rfl, o1⟩
  · simpa only [OV.row_cons, OV.row_nil, OV.v_rows, List.nil_append, List.append_nil, List.append_assoc] using w1t

set_option maxRecDepth 100000 in
theorem toO_FuncS (l : List DFunc) (h1 : l.length ≤ 1048576) (hc : ∀ x ∈ l, FnN Tryz.prog 167 [(.agg (DFunc.c x))] (QA x.o)) : FnN Tryz.prog 85 [(sls 3 DFunc.c l)] (QS (OS DFunc.o 3 l)) := by
  refine fnNF 23 keep85 ib85 mk85 mix Tryz.func85 rfl (by kernel_rfl) (by simp) fun h => ?_
  simp (maxSteps := 1000000) -dsimp -implicitDefEqProofs only [go_sem, ↓reduceIte, keep85, ib85, mk85, Tryz.f85]
  refine fun _ => ⟨by omega, by omega, by omega, by omega, fun n hn => ?_⟩
  refine loopF (keep := keep85) (ib := ib85) (mk := mk85) mix (by kernel_rfl) (fun x : Nat × List (List OV) × Heap => [(0, (sls 3 DFunc.c l)), (3, .os n 3 0 l.length), (4, I x.1)]) (fun x => upd x.2.2 n (.row 3 (OV.cells x.2.1 ++ (List.replicate (l.length - x.1) [.str [], .int .i64 0, .nilsl]).map (List.map .v)))) (fun x => x.1 ≤ l.length ∧ OR DFunc.o (l.take x.1) x.2.1 ∧ New h (OV.rowsRows x.2.1) x.2.2 ∧ x.2.2 n = none) (fun x => l.length - x.1) (0, [], h) (by
    exact ⟨by simp [SatL, tget], Heap.le_refl _, Nat.zero_le _, trivial, New.nil h, hn⟩) ?_
  rintro ⟨k, es, g⟩ ⟨hk, hor, hnew, hgn⟩
  have hlen : es.length = k := by have := hor.length; simp at this; omega
  rcases Nat.lt_or_ge k l.length with hlt | hge
  · have ea : l[k]? = some l[k] := List.getElem?_eq_getElem hlt
    have eg : ∀ m, m = l.length - k → (OV.cells es ++ (List.replicate m [.str [], .int .i64 0, .nilsl]).map (List.map Cell.v))[k]? = some ([.str [], .int .i64 0, .nilsl].map .v) := fun m hm => fill_get hlen (by omega)
    simp (maxSteps := 1000000) -dsimp -implicitDefEqProofs only [go_sem, ↓reduceIte, keep85, ib85, mk85, Tryz.f85, ea, DFunc.c_eq]
    refine fun _ => ⟨fun _ => ⟨hlt, ?_⟩, fun hn => absurd hlt hn⟩
    have hx := hc l[k] (List.getElem_mem hlt)
    simp only [DFunc.c_eq] at hx
    refine HFnF.nw1 hx hgn ?_
    rintro r l1 g1 ⟨e0, he0, rfl, rfl⟩ hn1 w1
    have he1 := he0
    obtain ⟨y_2, rfl, o_2⟩ := he1
    simp (maxSteps := 1000000) -dsimp -implicitDefEqProofs only [go_sem, ↓reduceIte, keep85, ib85, mk85, Tryz.f85, eg _ rfl, upd_upd, OV.map_val, OV.map_val_nil, OV.val_v, o_2.flat]
    refine ⟨hlt, (k + 1, es ++ [[.v (.str l[k].fName), .v (.int .i64 l[k].fParams), y_2]], g1), ?_⟩
    simp only
    have hf := fill_set (z := [.str [], .int .i64 0, .nilsl]) [.v (.str l[k].fName), .v (.int .i64 l[k].fParams), y_2] hlen (m := l.length - k) (by omega) [Cell.v (.str l[k].fName), Cell.v (.int .i64 l[k].fParams), Cell.v y_2.val] rfl
    rw [hf, show l.length - k - 1 = l.length - (k + 1) by omega]
    refine ⟨by rw [IntWalk.i64_in _ (by omega)]; rfl, Heap.le_refl _, ⟨by omega, ?_, ?_, w1⟩, by omega⟩
    · rw [List.take_succ_eq_append_getElem hlt]
      exact OR.append hor ⟨he0, trivial⟩
    · rw [rowsRows_snoc]
      exact hnew.append hn1
  · have hk' : k = l.length := by omega
    subst hk'
    simp (maxSteps := 1000000) -dsimp -implicitDefEqProofs only [go_sem, ↓reduceIte, keep85, ib85, mk85, Tryz.f85, Nat.lt_irrefl]
    refine fun _ => ⟨_, _, _, shift_self _ _, ⟨.sl n 3 es, OS.mk (by simpa using hor), by simp [OV.val, hlen, tget], rfl⟩, ?_⟩
    rw [OV.sl_rows]
    simpa using hnew.row hgn

set_option maxRecDepth 100000 in
theorem toO_Program (x : DProgram) (hs : x.s ≤ 1048576) : FnN Tryz.prog 34 [.agg x.c] (QA x.o) := by
  rw [DProgram.s_eq] at hs
  simp only [DProgram.c_eq]
  refine fnNF 9 keep34 ib34 mk34 mix Tryz.func34 rfl (by kernel_rfl) (by simp) fun h => ?_
  simp (maxSteps := 1000000) -dsimp -implicitDefEqProofs only [go_sem, ↓reduceIte, keep34, ib34, mk34, Tryz.f34, upd_upd]
  intro n2 a0 n3 b0
  have e1 : (n2 = n3) = False := eq_false fun e => b0.1 e.symm
  have e2 : (n3 = n2) = False := eq_false b0.1
  have w0 := New.nil h
  have hb0 := b0.2
  have hzfFuncs : (x.fFuncs).length + ((x.fFuncs).map DFunc.s).sum = (szs DFunc.s x.fFuncs) := rfl
  refine HFnF.nw2 (toO_FuncS x.fFuncs (by omega) (fun y hy => toO_Func y (by have hq : (DFunc.s y) ≤ ((x.fFuncs).map DFunc.s).sum := sum_mem DFunc.s hy; omega))) a0 ⟨b0.1, hb0⟩ ?_
  rintro r l1 g1 ⟨y1, o1, rfl, rfl⟩ w1 a1 hb1
  simp (maxSteps := 1000000) -dsimp -implicitDefEqProofs only [go_sem, ↓reduceIte, keep34, ib34, mk34, Tryz.f34, upd_upd, upd_get, e1, e2, OV.map_val, OV.map_val_nil, OV.val_v, o1.flat, o1.one]
  have w1t := w0.append w1
  refine ⟨_, g1, _, Shift.of (Sub.refl _) ?_, ⟨[y1], ?_, rfl, rfl⟩, ?_⟩
  · exact le_base1 a1 (le_base1 hb1 (le_base1 a1 (Heap.le_refl _)))
  · exact ⟨y1, rfl, o1⟩
  · simpa only [OV.row_cons, OV.row_nil, OV.v_rows, List.nil_append, List.append_nil, List.append_assoc] using w1t

set_option maxRecDepth 100000 in
theorem toO_Int64S (l : List Int) (h1 : l.length ≤ 1048576) : FnN Tryz.prog 30 [(sls 1 (fun n => [I n]) l)] (QS (OS (oP I) 1 l)) := by
  refine fnNF 22 keep30 ib30 mk30 mix Tryz.func30 rfl (by kernel_rfl) (by simp) fun h => ?_
  simp (maxSteps := 1000000) -dsimp -implicitDefEqProofs only [go_sem, ↓reduceIte, keep30, ib30, mk30, Tryz.f30]
  refine fun _ => ⟨by omega, by omega, by omega, by omega, fun n hn => ?_⟩
  refine loopF (keep := keep30) (ib := ib30) (mk := mk30) mix (by kernel_rfl) (fun k : Nat => [(0, (sls 1 (fun n => [I n]) l)), (3, .os n 1 0 l.length), (4, I k)]) (fun k => upd h n (.row 1 (fillUp (fun n => [I n]) [.int .i64 0] l k))) (fun k => k ≤ l.length) (fun k => l.length - k) 0 (by simp [SatL, tget, Heap.le_refl, fillUp_zero]) ?_
  intro k hk
  rcases Nat.lt_or_ge k l.length with hlt | hge
  · have ea : l[k]? = some l[k] := List.getElem?_eq_getElem hlt
    simp (maxSteps := 1000000) -dsimp -implicitDefEqProofs only [go_sem, ↓reduceIte, keep30, ib30, mk30, Tryz.f30, ea, fillUp_get _ _ _ _ hlt]
    refine fun _ => ⟨fun _ => ⟨hlt, hlt, k + 1, by rw [IntWalk.i64_in _ (by omega)]; rfl, ?_, by omega, by omega⟩, fun hn => absurd hlt hn⟩
    exact le_fill hlt rfl
  · have hk' : k = l.length := by omega
    subst hk'
    simp (maxSteps := 1000000) -dsimp -implicitDefEqProofs only [go_sem, ↓reduceIte, keep30, ib30, mk30, Tryz.f30, Nat.lt_irrefl]
    rw [fillUp_all]
    refine fun _ => ⟨_, _, _, shift_self _ _, ⟨.sl n 1 (l.map fun x => [.v (I x)]), OS.mk (OR_map l), by simp [OV.val, tget], rfl⟩, ?_⟩
    rw [OV.sl_rows, rows_map, cells_map]
    exact New.one hn

set_option maxRecDepth 100000 in
theorem toO_Int64SS (l : List (List Int)) (h1 : l.length ≤ 1048576) (hc : ∀ x ∈ l, FnN Tryz.prog 30 [(sls 1 (fun n => [I n]) x)] (QS (OS (oP I) 1 x))) : FnN Tryz.prog 50 [(sls 1 (fun x => [sls 1 (fun n => [I n]) x]) l)] (QS (OS (oS (oP I) 1) 1 l)) := by
  refine fnNF 23 keep50 ib50 mk50 mix Tryz.func50 rfl (by kernel_rfl) (by simp) fun h => ?_
  simp (maxSteps := 1000000) -dsimp -implicitDefEqProofs only [go_sem, ↓reduceIte, keep50, ib50, mk50, Tryz.f50]
  refine fun _ => ⟨by omega, by omega, by omega, by omega, fun n hn => ?_⟩
  refine loopF (keep := keep50) (ib := ib50) (mk := mk50) mix (by kernel_rfl) (fun x : Nat × List (List OV) × Heap => [(0, (sls 1 (fun x => [sls 1 (fun n => [I n]) x]) l)), (3, .os n 1 0 l.length), (4, I x.1)]) (fun x => upd x.2.2 n (.row 1 (OV.cells x.2.1 ++ (List.replicate (l.length - x.1) [.nilsl]).map (List.map .v)))) (fun x => x.1 ≤ l.length ∧ OR (oS (oP I) 1) (l.take x.1) x.2.1 ∧ New h (OV.rowsRows x.2.1) x.2.2 ∧ x.2.2 n = none) (fun x => l.length - x.1) (0, [], h) (by
    exact ⟨by simp [SatL, tget], Heap.le_refl _, Nat.zero_le _, trivial, New.nil h, hn⟩) ?_
  rintro ⟨k, es, g⟩ ⟨hk, hor, hnew, hgn⟩
  have hlen : es.length = k := by have := hor.length; simp at this; omega
  rcases Nat.lt_or_ge k l.length with hlt | hge
  · have ea : l[k]? = some l[k] := List.getElem?_eq_getElem hlt
    have eg : ∀ m, m = l.length - k → (OV.cells es ++ (List.replicate m [.nilsl]).map (List.map Cell.v))[k]? = some ([.nilsl].map .v) := fun m hm => fill_get hlen (by omega)
    simp (maxSteps := 1000000) -dsimp -implicitDefEqProofs only [go_sem, ↓reduceIte, keep50, ib50, mk50, Tryz.f50, ea]
    refine fun _ => ⟨fun _ => ⟨hlt, ?_⟩, fun hn => absurd hlt hn⟩
    have hx := hc l[k] (List.getElem_mem hlt)
    refine HFnF.nw1 hx hgn ?_
    rintro r l1 g1 ⟨y0, o0, rfl, rfl⟩ hn1 w1
    have he0 : (oS (oP I) 1) l[k] [y0] := ⟨y0, rfl, o0⟩
    simp (maxSteps := 1000000) -dsimp -implicitDefEqProofs only [go_sem, ↓reduceIte, keep50, ib50, mk50, Tryz.f50, eg _ rfl, upd_upd, o0.flat, o0.one]
    refine ⟨hlt, (k + 1, es ++ [[y0]], g1), ?_⟩
    simp only
    have hf := fill_set (z := [.nilsl]) [y0] hlen (m := l.length - k) (by omega) [Cell.v y0.val] rfl
    rw [hf, show l.length - k - 1 = l.length - (k + 1) by omega]
    refine ⟨by rw [IntWalk.i64_in _ (by omega)]; rfl, Heap.le_refl _, ⟨by omega, ?_, ?_, w1⟩, by omega⟩
    · rw [List.take_succ_eq_append_getElem hlt]
      exact OR.append hor ⟨he0, trivial⟩
    · rw [rowsRows_snoc]
      have := hnew.append hn1
      simpa only [OV.row_cons, OV.row_nil, List.append_nil] using this
  · have hk' : k = l.length := by omega
    subst hk'
    simp (maxSteps := 1000000) -dsimp -implicitDefEqProofs only [go_sem, ↓reduceIte, keep50, ib50, mk50, Tryz.f50, Nat.lt_irrefl]
    refine fun _ => ⟨_, _, _, shift_self _ _, ⟨.sl n 1 es, OS.mk (by simpa using hor), by simp [OV.val, hlen, tget], rfl⟩, ?_⟩
    rw [OV.sl_rows]
    simpa using hnew.row hgn

set_option maxRecDepth 100000 in
theorem toO_Job (x : DJob) (hs : x.s ≤ 1048576) : FnN Tryz.prog 12 [.agg x.c] (QA x.o) := by
  rw [DJob.s_eq] at hs
  simp only [DJob.c_eq]
  refine fnNF 23 keep12 ib12 mk12 mix Tryz.func12 rfl (by kernel_rfl) (by simp) fun h => ?_
  simp (maxSteps := 1000000) -dsimp -implicitDefEqProofs only [go_sem, ↓reduceIte, keep12, ib12, mk12, Tryz.f12, upd_upd]
  intro n2 a0 n3 b0
  have e1 : (n2 = n3) = False := eq_false fun e => b0.1 e.symm
  have e2 : (n3 = n2) = False := eq_false b0.1
  have w0 := New.nil h
  have hb0 := b0.2
  have hzfTerms : (x.fTerms).length + ((x.fTerms).map (fun x : List Int => x.length)).sum = (szs (fun x : List Int => x.length) x.fTerms) := rfl
  refine HFnF.nw2 (toO_Program x.fProgram (by omega)) a0 ⟨b0.1, hb0⟩ ?_
  rintro r l1 g1 ⟨e1_, o1, rfl, rfl⟩ w1 a1 hb1
  have oo1 := o1
  obtain ⟨y1_0, rfl, o1_0⟩ := oo1
  simp (maxSteps := 1000000) -dsimp -implicitDefEqProofs only [go_sem, ↓reduceIte, keep12, ib12, mk12, Tryz.f12, upd_upd, upd_get, e1, e2, OV.map_val, OV.map_val_nil, OV.val_v, o1_0.flat, o1_0.one]
  have w1t := w0.append w1
  refine HFnF.nw2 (toO_Int64S x.fPoint (by omega)) a1 ⟨b0.1, hb1⟩ ?_
  rintro r l2 g2 ⟨y2, o2, rfl, rfl⟩ w2 a2 hb2
  simp (maxSteps := 1000000) -dsimp -implicitDefEqProofs only [go_sem, ↓reduceIte, keep12, ib12, mk12, Tryz.f12, upd_upd, upd_get, e1, e2, OV.map_val, OV.map_val_nil, OV.val_v, o1_0.flat, o1_0.one, o2.flat, o2.one]
  have w2t := w1t.append w2
  refine HFnF.nw2 (toO_Int64SS x.fTerms (by omega) (fun y hy => toO_Int64S y (by have hq : y.length ≤ ((x.fTerms).map (fun x : List Int => x.length)).sum := sum_mem (fun x : List Int => x.length) hy; omega))) a2 ⟨b0.1, hb2⟩ ?_
  rintro r l3 g3 ⟨y3, o3, rfl, rfl⟩ w3 a3 hb3
  simp (maxSteps := 1000000) -dsimp -implicitDefEqProofs only [go_sem, ↓reduceIte, keep12, ib12, mk12, Tryz.f12, upd_upd, upd_get, e1, e2, OV.map_val, OV.map_val_nil, OV.val_v, o1_0.flat, o1_0.one, o2.flat, o2.one, o3.flat, o3.one]
  have w3t := w2t.append w3
  refine ⟨_, g3, _, Shift.of (Sub.refl _) ?_, ⟨[y1_0, .v (.int .i64 x.fFunc), .v (.int .i64 x.fShared), y2, y3], ?_, rfl, rfl⟩, ?_⟩
  · exact le_base1 a3 (le_base1 hb3 (le_base1 a3 (Heap.le_refl _)))
  · exact ⟨y1_0, y2, y3, rfl, o1_0, o2, o3⟩
  · simpa only [OV.row_cons, OV.row_nil, OV.v_rows, List.nil_append, List.append_nil, List.append_assoc] using w3t


open Go.Proofs
set_option linter.unusedVariables false
set_option linter.unusedSimpArgs false
def keep142 : List Nat := [0, 2, 4]
def ib142 : List Nat := [5]
def mk142 : Marks := fun _ => ([], .nil, [])
set_option maxRecDepth 100000 in
theorem cloneI (l : List Int) (hl : l.length ≤ 1048576) : FnN Tryz.prog 142 [sls 1 (fun n => [I n]) l] (QS (OS (oP I) 1 l)) := by
  refine fnNF 8 keep142 ib142 mk142 mix Tryz.func142 rfl (by kernel_rfl) (by simp) fun h => ?_
  simp (maxSteps := 1000000) -dsimp -implicitDefEqProofs only [go_sem, ↓reduceIte, keep142, ib142, mk142, Tryz.f142]
  repeat' (with_reducible first | intro _ | refine And.intro ?_ ?_)
  all_goals try (first | exact own_nil (by assumption) | exact own_emp (by assumption) | exact own_row (by assumption) | omega)
def keep133 : List Nat := [0, 2]
def ib133 : List Nat := [3]
def mk133 : Marks := fun _ => ([], .nil, [])
set_option maxRecDepth 100000 in
theorem l00Own (l : List Int) (hl : l.length ≤ 1048576) : FnN Tryz.prog 133 [sls 1 (fun n => [I n]) l] (QS (OS (oP I) 1 l)) := by
  refine fnNF 6 keep133 ib133 mk133 mix Tryz.func133 rfl (by kernel_rfl) (by simp) fun h => ?_
  simp (maxSteps := 1000000) -dsimp -implicitDefEqProofs only [go_sem, ↓reduceIte, keep133, ib133, mk133, Tryz.f133]
  repeat' (with_reducible first | intro _ | refine And.intro ?_ ?_)
  all_goals try (first | exact own_nil (by assumption) | exact own_emp (by assumption) | exact own_row (by assumption) | omega)
open Go.Proofs
set_option linter.unusedVariables false
set_option linter.unusedSimpArgs false
open Go.Proofs
set_option linter.unusedVariables false
set_option linter.unusedSimpArgs false
open Go.Proofs
set_option linter.unusedVariables false
set_option linter.unusedSimpArgs false

end Go.Hl

/-
  Contracts of functions and laws of the layer over the walk.
-/
import Derived.Test.YthcfmnldhokmiaaGreatVvA
import Derived.Test.YthcfmnldhokmiaaGreatHlD
namespace Go.Hl
open Go.Proofs
set_option linter.unusedVariables false
set_option linter.unusedSimpArgs false
def exprOK (p : DProgram) (e : DExpr) (vars funcs : Int) : Prop := (0 ≤ vars ∧ vars ≤ 412) ∧ (0 ≤ funcs ∧ funcs ≤ p.fFuncs.length) ∧ (e.s : Int) + 1 ≤ 400 ∧ (e.d : Int) ≤ 60 ∧ e.ok p funcs vars
noncomputable instance (p : DProgram) (e : DExpr) (vars funcs : Int) : Decidable (exprOK p e vars funcs) := Classical.propDecidable _
def funcOK (p : DProgram) (k : Nat) (f : DFunc) : Prop := IsNm f.fName ∧ (0 ≤ f.fParams ∧ f.fParams ≤ 12) ∧ (1 ≤ (f.fOuts.length : Int) ∧ (f.fOuts.length : Int) ≤ 12) ∧ (∀ g ∈ p.fFuncs.take k, g.fName ≠ f.fName) ∧ (szs DExpr.s f.fOuts : Int) ≤ 400 ∧ ∀ e ∈ f.fOuts, exprOK p e f.fParams k
noncomputable instance (p : DProgram) (k : Nat) (f : DFunc) : Decidable (funcOK p k f) := Classical.propDecidable _
def DProgram.ok (p : DProgram) : Prop := (p.fFuncs.length : Int) ≤ 16 ∧ ∀ (k : Nat) (f : DFunc), p.fFuncs[k]? = some f → funcOK p k f
noncomputable instance (p : DProgram) : Decidable p.ok := Classical.propDecidable _
def keep283 : List Nat := [0, 2]
def ib283 : List Nat := []
def mk283 : Marks := fun _ => ([], .nil, [])
theorem l02Vars (n : Int) : Fn0 Tryz.prog 283 [I n] (.bool (decide (0 ≤ n ∧ n ≤ 412))) := by
  refine fn0F 5 keep283 ib283 mk283 mix Tryz.func283 rfl (by kernel_rfl) (by simp) fun h => ?_
  simp (maxSteps := 1000000) -dsimp -implicitDefEqProofs only [go_sem, ↓reduceIte, keep283, ib283, mk283, Tryz.f283]
  first | refine HFnF.mk (l00In n 0 412) ?_ | refine CallSF.mk (l00In n 0 412) ?_ | refine HFnF.mkAt (l00In n 0 412) ?_ | refine CallSF.mk (FnAt.fn0 (l00In n 0 412)) ?_
  simp (maxSteps := 1000000) -dsimp -implicitDefEqProofs only [go_sem, ↓reduceIte, keep283, ib283, mk283, Tryz.f283]
def keep256 : List Nat := [0, 2]
def ib256 : List Nat := []
def mk256 : Marks := fun _ => ([], .nil, [])
theorem areVars (n : Int) : Fn0 Tryz.prog 256 [I n] (.bool (decide (0 ≤ n ∧ n ≤ 412))) := by
  refine fn0F 5 keep256 ib256 mk256 mix Tryz.func256 rfl (by kernel_rfl) (by simp) fun h => ?_
  simp (maxSteps := 1000000) -dsimp -implicitDefEqProofs only [go_sem, ↓reduceIte, keep256, ib256, mk256, Tryz.f256]
  first | refine HFnF.mk (within n 0 412) ?_ | refine CallSF.mk (within n 0 412) ?_ | refine HFnF.mkAt (within n 0 412) ?_ | refine CallSF.mk (FnAt.fn0 (within n 0 412)) ?_
  simp (maxSteps := 1000000) -dsimp -implicitDefEqProofs only [go_sem, ↓reduceIte, keep256, ib256, mk256, Tryz.f256]
theorem lft_nonneg {left : Int} {n : Nat} : 0 ≤ lft left n ↔ (n : Int) ≤ left := by
  unfold lft; split <;> omega
def keep249 : List Nat := [0, 1, 2, 3, 8]
def ib249 : List Nat := []
def mk249 : Marks := fun _ => ([], .nil, [])
set_option maxRecDepth 100000 in
theorem l02Expr (p : DProgram) (e : DExpr) (vars funcs : Int) (hs : e.s ≤ 4294966296) (hps : p.s ≤ 4294967296) : Fn0 Tryz.prog 249 [.ip 1 [p.c] 0 0, .ip 5 [e.c] 0 0, I vars, I funcs] (.bool (decide (exprOK p e vars funcs))) := by
  simp only [DProgram.c_eq]
  refine fn0F 37 keep249 ib249 mk249 mix Tryz.func249 rfl (by kernel_rfl) (by simp) fun h => ?_
  simp (maxSteps := 1000000) -dsimp -implicitDefEqProofs only [go_sem, ↓reduceIte, keep249, ib249, mk249, Tryz.f249]
  first | refine HFnF.mk (l02Vars vars) ?_ | refine CallSF.mk (l02Vars vars) ?_ | refine HFnF.mkAt (l02Vars vars) ?_ | refine CallSF.mk (FnAt.fn0 (l02Vars vars)) ?_
  simp (maxSteps := 1000000) -dsimp -implicitDefEqProofs only [go_sem, ↓reduceIte, keep249, ib249, mk249, Tryz.f249]
  repeat' (with_reducible first | intro _ | refine And.intro ?_ ?_)
  all_goals try (first | (simp [exprOK, *]; done) | omega | (grind [exprOK]) | (simp [exprOK]; omega))
  first | refine HFnF.mk (l00In funcs 0 p.fFuncs.length) ?_ | refine CallSF.mk (l00In funcs 0 p.fFuncs.length) ?_ | refine HFnF.mkAt (l00In funcs 0 p.fFuncs.length) ?_ | refine CallSF.mk (FnAt.fn0 (l00In funcs 0 p.fFuncs.length)) ?_
  simp (maxSteps := 1000000) -dsimp -implicitDefEqProofs only [go_sem, ↓reduceIte, keep249, ib249, mk249, Tryz.f249]
  repeat' (with_reducible first | intro _ | refine And.intro ?_ ?_)
  all_goals try (first | (simp [exprOK, *]; done) | omega | (grind [exprOK]) | (simp [exprOK]; omega))
  first | refine CallSF.mk ((l02Left e 400 (by omega) (by omega) (by omega)).sub (by repeat' (first | exact SubL.nil | refine SubL.cons ?_ ?_ | exact Sub.refl _ | (rw [DExpr.c_eq]; exact Sub.refl _) | exact Sub.ipAt rfl rfl rfl | exact Sub.ip (map_get (by omega)) (by simp) | exact Sub.ipAt (map_get (by omega)) rfl rfl | exact Sub.ip (by simp [*]) (by simp) | exact Sub.ipAt (by simp [*]) (by rfl) (by rfl)))) ?_ | refine HFnF.mk ((l02Left e 400 (by omega) (by omega) (by omega)).sub (by repeat' (first | exact SubL.nil | refine SubL.cons ?_ ?_ | exact Sub.refl _ | (rw [DExpr.c_eq]; exact Sub.refl _) | exact Sub.ipAt rfl rfl rfl | exact Sub.ip (map_get (by omega)) (by simp) | exact Sub.ipAt (map_get (by omega)) rfl rfl | exact Sub.ip (by simp [*]) (by simp) | exact Sub.ipAt (by simp [*]) (by rfl) (by rfl)))) ?_
  simp (maxSteps := 1000000) -dsimp -implicitDefEqProofs only [go_sem, ↓reduceIte, keep249, ib249, mk249, Tryz.f249]
  repeat' (with_reducible first | intro _ | refine And.intro ?_ ?_)
  · have hle : ((e.s + 1 : Nat) : Int) ≤ 400 := lft_nonneg.1 (by assumption)
    first | refine CallSF.mk ((l02Depth e (by omega)).sub (by repeat' (first | exact SubL.nil | refine SubL.cons ?_ ?_ | exact Sub.refl _ | (rw [DExpr.c_eq]; exact Sub.refl _) | exact Sub.ipAt rfl rfl rfl | exact Sub.ip (map_get (by omega)) (by simp) | exact Sub.ipAt (map_get (by omega)) rfl rfl | exact Sub.ip (by simp [*]) (by simp) | exact Sub.ipAt (by simp [*]) (by rfl) (by rfl)))) ?_ | refine HFnF.mk ((l02Depth e (by omega)).sub (by repeat' (first | exact SubL.nil | refine SubL.cons ?_ ?_ | exact Sub.refl _ | (rw [DExpr.c_eq]; exact Sub.refl _) | exact Sub.ipAt rfl rfl rfl | exact Sub.ip (map_get (by omega)) (by simp) | exact Sub.ipAt (map_get (by omega)) rfl rfl | exact Sub.ip (by simp [*]) (by simp) | exact Sub.ipAt (by simp [*]) (by rfl) (by rfl)))) ?_
    simp (maxSteps := 1000000) -dsimp -implicitDefEqProofs only [go_sem, ↓reduceIte, keep249, ib249, mk249, Tryz.f249]
    repeat' (with_reducible first | intro _ | refine And.intro ?_ ?_)
    · first | refine CallSF.mk ((l02Tree p e vars funcs (by omega) (by omega) (by omega) (by omega) hps).sub (by repeat' (first | exact SubL.nil | refine SubL.cons ?_ ?_ | exact Sub.refl _ | (rw [DExpr.c_eq]; exact Sub.refl _) | exact Sub.ipAt rfl rfl rfl | exact Sub.ip (map_get (by omega)) (by simp) | exact Sub.ipAt (map_get (by omega)) rfl rfl | exact Sub.ip (by simp [*]) (by simp) | exact Sub.ipAt (by simp [*]) (by rfl) (by rfl)))) ?_ | refine HFnF.mk ((l02Tree p e vars funcs (by omega) (by omega) (by omega) (by omega) hps).sub (by repeat' (first | exact SubL.nil | refine SubL.cons ?_ ?_ | exact Sub.refl _ | (rw [DExpr.c_eq]; exact Sub.refl _) | exact Sub.ipAt rfl rfl rfl | exact Sub.ip (map_get (by omega)) (by simp) | exact Sub.ipAt (map_get (by omega)) rfl rfl | exact Sub.ip (by simp [*]) (by simp) | exact Sub.ipAt (by simp [*]) (by rfl) (by rfl)))) ?_
      simp (maxSteps := 1000000) -dsimp -implicitDefEqProofs only [go_sem, ↓reduceIte, keep249, ib249, mk249, Tryz.f249]
      rw [decide_eq_decide]
      exact ⟨fun q => ⟨by omega, by omega, by omega, by omega, q⟩, fun q => q.2.2.2.2⟩
    · exact (decide_eq_false fun q => by have := q.2.2.2.1; omega).symm
  · rename_i hn
    exact (decide_eq_false fun q => hn (lft_nonneg.2 (by have := q.2.2.1; omega))).symm
def keep195 : List Nat := [0, 1, 2, 3, 4, 5, 8]
def ib195 : List Nat := [4, 5]
def mk195 : Marks := fun _ => ([], .nil, [])
set_option maxRecDepth 100000 in
theorem ValidExpr (p : DProgram) (e : DExpr) (vars funcs : Int) (hs : e.s ≤ 4294966296) (hps : p.s ≤ 4294967296) : Fn0 Tryz.prog 195 [.agg p.c, .agg e.c, I vars, I funcs] (.bool (decide (exprOK p e vars funcs))) := by
  have h1 := ExprSize e (by omega)
  have h2 := ExprDepth e (by omega)
  simp only [DExpr.c_eq] at h1 h2
  simp only [DProgram.c_eq, DExpr.c_eq]
  refine fn0F 36 keep195 ib195 mk195 mix Tryz.func195 rfl (by kernel_rfl) (by simp) fun h => ?_
  simp (maxSteps := 1000000) -dsimp -implicitDefEqProofs only [go_sem, ↓reduceIte, keep195, ib195, mk195, Tryz.f195]
  first | refine HFnF.mk (areVars vars) ?_ | refine CallSF.mk (areVars vars) ?_ | refine HFnF.mkAt (areVars vars) ?_ | refine CallSF.mk (FnAt.fn0 (areVars vars)) ?_
  simp (maxSteps := 1000000) -dsimp -implicitDefEqProofs only [go_sem, ↓reduceIte, keep195, ib195, mk195, Tryz.f195]
  repeat' (with_reducible first | intro _ | refine And.intro ?_ ?_)
  all_goals try (first | (simp [exprOK, *]; done) | omega | (grind [exprOK]) | (simp [exprOK]; omega))
  first | refine HFnF.mk (within funcs 0 p.fFuncs.length) ?_ | refine CallSF.mk (within funcs 0 p.fFuncs.length) ?_ | refine HFnF.mkAt (within funcs 0 p.fFuncs.length) ?_ | refine CallSF.mk (FnAt.fn0 (within funcs 0 p.fFuncs.length)) ?_
  simp (maxSteps := 1000000) -dsimp -implicitDefEqProofs only [go_sem, ↓reduceIte, keep195, ib195, mk195, Tryz.f195]
  repeat' (with_reducible first | intro _ | refine And.intro ?_ ?_)
  all_goals try (first | (simp [exprOK, *]; done) | omega | (grind [exprOK]) | (simp [exprOK]; omega))
  first | refine HFnF.mk (h1) ?_ | refine CallSF.mk (h1) ?_ | refine HFnF.mkAt (h1) ?_ | refine CallSF.mk (FnAt.fn0 (h1)) ?_
  simp (maxSteps := 1000000) -dsimp -implicitDefEqProofs only [go_sem, ↓reduceIte, keep195, ib195, mk195, Tryz.f195]
  repeat' (with_reducible first | intro _ | refine And.intro ?_ ?_)
  · first | refine HFnF.mk (h2) ?_ | refine CallSF.mk (h2) ?_ | refine HFnF.mkAt (h2) ?_ | refine CallSF.mk (FnAt.fn0 (h2)) ?_
    simp (maxSteps := 1000000) -dsimp -implicitDefEqProofs only [go_sem, ↓reduceIte, keep195, ib195, mk195, Tryz.f195]
    repeat' (with_reducible first | intro _ | refine And.intro ?_ ?_)
    · have h3 := isFormed p e vars funcs (by omega) (by omega) (by omega) (by omega) hps
      simp only [DExpr.c_eq] at h3
      first | refine HFnF.mk (h3) ?_ | refine CallSF.mk (h3) ?_ | refine HFnF.mkAt (h3) ?_ | refine CallSF.mk (FnAt.fn0 (h3)) ?_
      simp (maxSteps := 1000000) -dsimp -implicitDefEqProofs only [go_sem, ↓reduceIte, keep195, ib195, mk195, Tryz.f195]
      rw [decide_eq_decide]
      exact ⟨fun q => ⟨by omega, by omega, by omega, by omega, q⟩, fun q => q.2.2.2.2⟩
    · exact (decide_eq_false fun q => by have := q.2.2.2.1; omega).symm
  · exact (decide_eq_false fun q => by have := q.2.2.1; omega).symm
def keep182 : List Nat := [0, 1, 4, 5, 6, 7, 8, 37, 40, 55, 62, 90]
def ib182 : List Nat := []
def mk182 : Marks := fun id => match id with | 7 => ([], (.op 0 (.op 1 (.op 2 (.op 3 (.op 4 (.op 5 (.op 6 (.op 7 (.op 8 (.op 9 (.op 10 (.op 11 (.op 12 .nil))))))))))))), []) | 14 => ([], (.op 0 (.op 1 (.op 2 (.op 3 (.op 4 (.op 5 (.op 6 (.op 7 (.op 8 (.op 9 (.op 10 (.op 11 (.op 12 (.op 13 (.op 14 (.op 15 (.op 16 (.op 17 .nil)))))))))))))))))), []) | _ => ([], .nil, [])
set_option maxRecDepth 100000 in
theorem l02Func (p : DProgram) (k : Nat) (f : DFunc) (ef : p.fFuncs[k]? = some f) (hps : p.s ≤ 4194304) : Fn0 Tryz.prog 182 [.ip 1 [p.c] 0 0, I k] (.bool (decide (funcOK p k f))) := by
  have hk : k < p.fFuncs.length := (List.getElem?_eq_some_iff.1 ef).1
  have hfs := DProgram.func_s (List.mem_of_getElem? ef)
  have hl := p.len_s
  have hos := f.outs_s
  simp only [DProgram.c_eq]
  have no (q : ¬ (IsNm f.fName ∧ (0 ≤ f.fParams ∧ f.fParams ≤ 12) ∧ (1 ≤ (f.fOuts.length : Int) ∧ (f.fOuts.length : Int) ≤ 12))) : false = decide (funcOK p k f) := (decide_eq_false fun z => q ⟨z.1, z.2.1, z.2.2.1⟩).symm
  refine fn0F 91 keep182 ib182 mk182 mix Tryz.func182 rfl (by kernel_rfl) (by simp) fun h => ?_
  simp (maxSteps := 1000000) -dsimp -implicitDefEqProofs only [go_sem, ↓reduceIte, keep182, ib182, mk182, Tryz.f182, ef, DFunc.c_eq, Int.toNat_natCast]
  repeat' (with_reducible first | intro _ | refine And.intro ?_ ?_)
  all_goals try omega
  first | refine HFnF.mk (specIsName f.fName) ?_ | refine CallSF.mk (specIsName f.fName) ?_ | refine HFnF.mkAt (specIsName f.fName) ?_ | refine CallSF.mk (FnAt.fn0 (specIsName f.fName)) ?_
  simp (maxSteps := 1000000) -dsimp -implicitDefEqProofs only [go_sem, ↓reduceIte, keep182, ib182, mk182, Tryz.f182, ef, DFunc.c_eq]
  repeat' (with_reducible first | intro _ | refine And.intro ?_ ?_)
  · first | refine HFnF.mk (l00In f.fParams 0 12) ?_ | refine CallSF.mk (l00In f.fParams 0 12) ?_ | refine HFnF.mkAt (l00In f.fParams 0 12) ?_ | refine CallSF.mk (FnAt.fn0 (l00In f.fParams 0 12)) ?_
    simp (maxSteps := 1000000) -dsimp -implicitDefEqProofs only [go_sem, ↓reduceIte, keep182, ib182, mk182, Tryz.f182, ef, DFunc.c_eq]
    repeat' (with_reducible first | intro _ | refine And.intro ?_ ?_)
    · first | refine HFnF.mk (l00In f.fOuts.length 1 12) ?_ | refine CallSF.mk (l00In f.fOuts.length 1 12) ?_ | refine HFnF.mkAt (l00In f.fOuts.length 1 12) ?_ | refine CallSF.mk (FnAt.fn0 (l00In f.fOuts.length 1 12)) ?_
      simp (maxSteps := 1000000) -dsimp -implicitDefEqProofs only [go_sem, ↓reduceIte, keep182, ib182, mk182, Tryz.f182, ef, DFunc.c_eq]
      repeat' (with_reducible first | intro _ | refine And.intro ?_ ?_)
      · exact no fun z => by simp_all
      · rename_i q1 q2 q3
        refine loopF (keep := keep182) (ib := ib182) (mk := mk182) mix (by kernel_rfl) (fun j : Nat => [(0, .ip 1 [p.c] 0 0), (1, I k), (5, .ip 3 (p.fFuncs.map DFunc.c) k 0), (6, I j)]) (fun _ => h) (fun j => j ≤ k ∧ ∀ g ∈ p.fFuncs.take j, g.fName ≠ f.fName) (fun j => k - j) 0 (by refine ⟨by simp [SatL, tget, DProgram.c_eq], by repeat' (with_reducible first | exact Heap.le_refl _ | refine (le_upd (by first | assumption | exact And.right (by assumption) | exact upd_none.2 (by assumption))).2 ?_), by simp⟩) ?_
        intro j ⟨hj, hp⟩
        simp only [DProgram.c_eq]
        rcases Nat.lt_or_ge j k with hlt | hge
        · have eg : p.fFuncs[j]? = some p.fFuncs[j] := List.getElem?_eq_getElem (by omega)
          simp (maxSteps := 1000000) -dsimp -implicitDefEqProofs only [go_sem, ↓reduceIte, keep182, ib182, mk182, Tryz.f182, ef, eg, DFunc.c_eq, Int.toNat_natCast]
          repeat' (with_reducible first | intro _ | refine And.intro ?_ ?_)
          all_goals try omega
          · rename_i he
            refine (decide_eq_false fun z => z.2.2.2.1 p.fFuncs[j] ?_ he).symm
            exact List.mem_take_iff_getElem.2 ⟨j, by omega, rfl⟩
          · rename_i he
            refine ⟨j + 1, ?_⟩
            repeat' (with_reducible refine And.intro ?_ ?_)
            all_goals try (rw [IntWalk.i64_in _ (by omega)]; first | rfl | omega)
            all_goals try omega
            all_goals try (repeat' (with_reducible first | exact Heap.le_refl _ | refine (le_upd (by first | assumption | exact And.right (by assumption) | exact upd_none.2 (by assumption))).2 ?_))
            all_goals try (simp only [DProgram.c_eq]; done)
            exact all_step (P := fun g : DFunc => g.fName ≠ f.fName) (by omega) hp he
        · have hj' : j = k := by omega
          rw [hj'] at hp
          simp (maxSteps := 1000000) -dsimp -implicitDefEqProofs only [go_sem, ↓reduceIte, keep182, ib182, mk182, Tryz.f182, hj', Int.lt_irrefl]
          have part (i : Nat) (hi : i < f.fOuts.length) : i + ((f.fOuts.take i).map DExpr.s).sum + f.fOuts[i].s + 1 ≤ szs DExpr.s f.fOuts := by
            have h1 := sum_take_succ DExpr.s f.fOuts i hi
            have h2 := sum_take_le DExpr.s f.fOuts (i + 1)
            rw [szs_eq]; omega
          have hszs : szs DExpr.s f.fOuts ≤ f.s := by rw [f.s_eq]; omega
          refine loopF (keep := keep182) (ib := ib182) (mk := mk182) mix (by kernel_rfl) (fun i : Nat => [(0, .ip 1 [p.c] 0 0), (1, I k), (5, .ip 3 (p.fFuncs.map DFunc.c) k 0), (7, I (400 - (i + ((f.fOuts.take i).map DExpr.s).sum : Nat))), (8, I i)]) (fun _ => h) (fun i => i ≤ f.fOuts.length ∧ i + ((f.fOuts.take i).map DExpr.s).sum ≤ 400 ∧ ∀ e ∈ f.fOuts.take i, exprOK p e f.fParams k) (fun i => f.fOuts.length - i) 0 (by refine ⟨by simp [SatL, tget, DProgram.c_eq], by repeat' (with_reducible first | exact Heap.le_refl _ | refine (le_upd (by first | assumption | exact And.right (by assumption) | exact upd_none.2 (by assumption))).2 ?_), by simp⟩) ?_
          intro i ⟨hi, hsum, hall⟩
          simp only [DProgram.c_eq]
          rcases Nat.lt_or_ge i f.fOuts.length with hlt | hge
          · have h1 := sum_take_succ DExpr.s f.fOuts i hlt
            have hpt := part i hlt
            have hout := DFunc.out_s (List.getElem_mem hlt)
            simp (maxSteps := 1000000) -dsimp -implicitDefEqProofs only [go_sem, ↓reduceIte, keep182, ib182, mk182, Tryz.f182, ef, DFunc.c_eq, Int.toNat_natCast]
            repeat' (with_reducible first | intro _ | refine And.intro ?_ ?_)
            all_goals try omega
            first | refine CallSF.mk ((l02Left f.fOuts[i] (400 - (i + ((f.fOuts.take i).map DExpr.s).sum : Nat)) (by omega) (by omega) (by omega)).sub (by repeat' (first | exact SubL.nil | refine SubL.cons ?_ ?_ | exact Sub.refl _ | (rw [DExpr.c_eq]; exact Sub.refl _) | exact Sub.ipAt rfl rfl rfl | exact Sub.ip (map_get (by omega)) (by simp) | exact Sub.ipAt (map_get (by omega)) rfl rfl | exact Sub.ip (by simp [*]) (by simp) | exact Sub.ipAt (by simp [*]) (by rfl) (by rfl)))) ?_ | refine HFnF.mk ((l02Left f.fOuts[i] (400 - (i + ((f.fOuts.take i).map DExpr.s).sum : Nat)) (by omega) (by omega) (by omega)).sub (by repeat' (first | exact SubL.nil | refine SubL.cons ?_ ?_ | exact Sub.refl _ | (rw [DExpr.c_eq]; exact Sub.refl _) | exact Sub.ipAt rfl rfl rfl | exact Sub.ip (map_get (by omega)) (by simp) | exact Sub.ipAt (map_get (by omega)) rfl rfl | exact Sub.ip (by simp [*]) (by simp) | exact Sub.ipAt (by simp [*]) (by rfl) (by rfl)))) ?_
            simp (maxSteps := 1000000) -dsimp -implicitDefEqProofs only [go_sem, ↓reduceIte, keep182, ib182, mk182, Tryz.f182, ef, DFunc.c_eq]
            rcases lft_cases (400 - (i + ((f.fOuts.take i).map DExpr.s).sum : Nat)) (f.fOuts[i].s + 1) with ⟨e, hl1⟩ | ⟨e, hl1⟩
            · simp (maxSteps := 1000000) -dsimp -implicitDefEqProofs only [go_sem, ↓reduceIte, keep182, ib182, mk182, Tryz.f182, e]
              repeat' (with_reducible first | intro _ | refine And.intro ?_ ?_)
              all_goals try omega
              all_goals exact (decide_eq_false fun z => by have := z.2.2.2.2.1; omega).symm
            · simp (maxSteps := 1000000) -dsimp -implicitDefEqProofs only [go_sem, ↓reduceIte, keep182, ib182, mk182, Tryz.f182, e]
              repeat' (with_reducible first | intro _ | refine And.intro ?_ ?_)
              all_goals try omega
              first | refine CallSF.mk ((l02Expr p f.fOuts[i] f.fParams k (by omega) (by omega)).sub (by repeat' (first | exact SubL.nil | refine SubL.cons ?_ ?_ | exact Sub.refl _ | (rw [DExpr.c_eq]; exact Sub.refl _) | exact Sub.ipAt rfl rfl rfl | exact Sub.ip (map_get (by omega)) (by simp) | exact Sub.ipAt (map_get (by omega)) rfl rfl | exact Sub.ip (by simp [*]) (by simp) | exact Sub.ipAt (by simp [*]) (by rfl) (by rfl)))) ?_ | refine HFnF.mk ((l02Expr p f.fOuts[i] f.fParams k (by omega) (by omega)).sub (by repeat' (first | exact SubL.nil | refine SubL.cons ?_ ?_ | exact Sub.refl _ | (rw [DExpr.c_eq]; exact Sub.refl _) | exact Sub.ipAt rfl rfl rfl | exact Sub.ip (map_get (by omega)) (by simp) | exact Sub.ipAt (map_get (by omega)) rfl rfl | exact Sub.ip (by simp [*]) (by simp) | exact Sub.ipAt (by simp [*]) (by rfl) (by rfl)))) ?_
              simp (maxSteps := 1000000) -dsimp -implicitDefEqProofs only [go_sem, ↓reduceIte, keep182, ib182, mk182, Tryz.f182, ef, DFunc.c_eq]
              repeat' (with_reducible first | intro _ | refine And.intro ?_ ?_)
              · rename_i hn
                exact (decide_eq_false fun z => hn (z.2.2.2.2.2 _ (List.getElem_mem hlt))).symm
              · rename_i hn
                refine ⟨i + 1, ?_⟩
                repeat' (with_reducible refine And.intro ?_ ?_)
                all_goals try (rw [IntWalk.i64_in _ (by omega)]; first | rfl | omega)
                all_goals try omega
                all_goals try (repeat' (with_reducible first | exact Heap.le_refl _ | refine (le_upd (by first | assumption | exact And.right (by assumption) | exact upd_none.2 (by assumption))).2 ?_))
                all_goals try (simp only [DProgram.c_eq]; done)
                exact all_step (P := fun e => exprOK p e f.fParams k) hlt hall hn
          · have hi' : i = f.fOuts.length := by omega
            subst hi'
            rw [List.take_length] at hsum hall
            simp (maxSteps := 1000000) -dsimp -implicitDefEqProofs only [go_sem, ↓reduceIte, keep182, ib182, mk182, Tryz.f182, ef, DFunc.c_eq, Nat.lt_irrefl]
            exact fun _ => (decide_eq_true ⟨by assumption, q1, q3, hp, by rw [szs_eq]; omega, hall⟩).symm
    · exact no fun z => by simp_all
  · exact no fun z => by simp_all
def keep96 : List Nat := [0, 2, 3, 9, 16, 22]
def ib96 : List Nat := []
def mk96 : Marks := fun _ => ([], .nil, [])
set_option maxRecDepth 100000 in
theorem l02Ok (p : DProgram) (hps : p.s ≤ 4194304) : Fn0 Tryz.prog 96 [.ip 1 [p.c] 0 0] (.bool (decide p.ok)) := by
  simp only [DProgram.c_eq]
  refine fn0F 23 keep96 ib96 mk96 mix Tryz.func96 rfl (by kernel_rfl) (by simp) fun h => ?_
  simp (maxSteps := 1000000) -dsimp -implicitDefEqProofs only [go_sem, ↓reduceIte, keep96, ib96, mk96, Tryz.f96]
  repeat' (with_reducible first | intro _ | refine And.intro ?_ ?_)
  · exact (decide_eq_false fun z => by have := z.1; omega).symm
  refine loopF (keep := keep96) (ib := ib96) (mk := mk96) mix (by kernel_rfl) (fun k : Nat => [(0, .ip 1 [p.c] 0 0), (3, I k)]) (fun _ => h) (fun k => k ≤ p.fFuncs.length ∧ ∀ (j : Nat) (f : DFunc), j < k → p.fFuncs[j]? = some f → funcOK p j f) (fun k => p.fFuncs.length - k) 0 (by refine ⟨by simp [SatL, tget, DProgram.c_eq], by repeat' (with_reducible first | exact Heap.le_refl _ | refine (le_upd (by first | assumption | exact And.right (by assumption) | exact upd_none.2 (by assumption))).2 ?_), by simp⟩) ?_
  intro k ⟨hk, hp⟩
  simp only [DProgram.c_eq]
  rcases Nat.lt_or_ge k p.fFuncs.length with hlt | hge
  · have eg : p.fFuncs[k]? = some p.fFuncs[k] := List.getElem?_eq_getElem (by omega)
    simp (maxSteps := 1000000) -dsimp -implicitDefEqProofs only [go_sem, ↓reduceIte, keep96, ib96, mk96, Tryz.f96]
    repeat' (with_reducible first | intro _ | refine And.intro ?_ ?_)
    all_goals try omega
    first | refine CallSF.mk ((l02Func p k p.fFuncs[k] eg hps).sub (by repeat' (first | exact SubL.nil | refine SubL.cons ?_ ?_ | exact Sub.refl _ | (rw [DExpr.c_eq]; exact Sub.refl _) | exact Sub.ipAt rfl rfl rfl | exact Sub.ip (map_get (by omega)) (by simp) | exact Sub.ipAt (map_get (by omega)) rfl rfl | exact Sub.ip (by simp [*]) (by simp) | exact Sub.ipAt (by simp [*]) (by rfl) (by rfl)))) ?_ | refine HFnF.mk ((l02Func p k p.fFuncs[k] eg hps).sub (by repeat' (first | exact SubL.nil | refine SubL.cons ?_ ?_ | exact Sub.refl _ | (rw [DExpr.c_eq]; exact Sub.refl _) | exact Sub.ipAt rfl rfl rfl | exact Sub.ip (map_get (by omega)) (by simp) | exact Sub.ipAt (map_get (by omega)) rfl rfl | exact Sub.ip (by simp [*]) (by simp) | exact Sub.ipAt (by simp [*]) (by rfl) (by rfl)))) ?_
    simp (maxSteps := 1000000) -dsimp -implicitDefEqProofs only [go_sem, ↓reduceIte, keep96, ib96, mk96, Tryz.f96]
    repeat' (with_reducible first | intro _ | refine And.intro ?_ ?_)
    · rename_i hn
      exact (decide_eq_false fun z => hn (z.2 k _ eg)).symm
    · rename_i hn
      refine ⟨k + 1, ?_⟩
      repeat' (with_reducible refine And.intro ?_ ?_)
      all_goals try (rw [IntWalk.i64_in _ (by omega)]; first | rfl | omega)
      all_goals try omega
      all_goals try (repeat' (with_reducible first | exact Heap.le_refl _ | refine (le_upd (by first | assumption | exact And.right (by assumption) | exact upd_none.2 (by assumption))).2 ?_))
      all_goals try (simp only [DProgram.c_eq]; done)
      intro j f hj ej
      rcases Nat.lt_succ_iff_lt_or_eq.1 hj with h1 | rfl
      · exact hp j f h1 ej
      · rw [eg] at ej; obtain rfl := Option.some.inj ej; exact hn
  · have hk' : k = p.fFuncs.length := by omega
    subst hk'
    simp (maxSteps := 1000000) -dsimp -implicitDefEqProofs only [go_sem, ↓reduceIte, keep96, ib96, mk96, Tryz.f96, Nat.lt_irrefl]
    exact fun _ => (decide_eq_true ⟨by omega, fun j f ej => hp j f (List.getElem?_eq_some_iff.1 ej).1 ej⟩).symm
open Go.Proofs
set_option linter.unusedVariables false
set_option linter.unusedSimpArgs false
def keep255 : List Nat := [0, 1, 4, 5, 7, 8, 9, 16]
def ib255 : List Nat := []
def mk255 : Marks := fun _ => ([], .nil, [])
set_option maxRecDepth 100000 in
theorem idxF_FuncS (a : List DFunc) (p : DFunc → Bool) (g : FuncId) (cap : List HVal) {h0 : Heap} (hc : ∀ x ∈ a, FnAt Tryz.prog g ([(.agg (DFunc.c x))] ++ cap) (.bool (p x)) h0) : FnAt Tryz.prog 255 [(sls 3 DFunc.c a), .fn (.func g) [] cap] (I (idxOf p a)) h0 := by
  refine fnAtF 19 keep255 ib255 mk255 mix Tryz.func255 rfl (by kernel_rfl) (by simp) fun h hle => ?_
  simp -dsimp -implicitDefEqProofs only [go_sem, ↓reduceIte, keep255, ib255, mk255, Tryz.f255, Tryz.f255]
  intro _
  refine loopF (keep := keep255) (ib := ib255) (mk := mk255) mix (by kernel_rfl) (fun k : Nat => [(0, (sls 3 DFunc.c a)), (1, .fn (.func g) [] cap), (7, I a.length), (8, I k)]) (fun _ => h) (fun k => k ≤ a.length ∧ ∀ x ∈ a.take k, p x = false) (fun k => a.length - k) 0 (by simp [SatL, tget, Heap.le_refl]) ?_
  intro k ⟨hk, hp⟩
  rcases Nat.lt_or_ge k a.length with hlt | hge
  · have ea : a[k]? = some a[k] := List.getElem?_eq_getElem hlt
    simp -dsimp -implicitDefEqProofs only [go_sem, ↓reduceIte, keep255, ib255, mk255, Tryz.f255, Tryz.f255, ea, DFunc.c_eq]
    repeat' (with_reducible first | intro _ | refine And.intro ?_ ?_)
    all_goals try omega
    have hx := hc a[k] (List.getElem_mem hlt)
    simp only [DFunc.c_eq] at hx
    refine HFnF.mkAt (hx.mono hle) ?_
    cases hpk : p a[k] with
    | true =>
      simp -dsimp -implicitDefEqProofs only [go_sem, ↓reduceIte, keep255, ib255, mk255, Tryz.f255, Tryz.f255]
      repeat' (with_reducible first | intro _ | refine And.intro ?_ ?_)
      all_goals first | exact (idxOf_some hlt hp hpk).symm | rfl | (rw [idxOf_some hlt hp hpk])
    | false =>
      simp -dsimp -implicitDefEqProofs only [go_sem, ↓reduceIte, keep255, ib255, mk255, Tryz.f255, Tryz.f255]
      refine ⟨k + 1, ?_⟩
      repeat' (with_reducible refine And.intro ?_ ?_)
      all_goals try (rw [IntWalk.i64_in _ (by omega)]; first | rfl | omega)
      all_goals try omega
      exact all_step (P := fun x => p x = false) hlt hp hpk
  · have hk' : k = a.length := by omega
    subst hk'
    rw [List.take_length] at hp
    simp -dsimp -implicitDefEqProofs only [go_sem, ↓reduceIte, keep255, ib255, mk255, Tryz.f255, Tryz.f255, Nat.lt_irrefl]
    all_goals first | exact (idxOf_none hp).symm | rw [idxOf_none hp]
def keep193 : List Nat := [0, 1, 4]
def ib193 : List Nat := []
def mk193 : Marks := fun _ => ([], .nil, [])
set_option maxRecDepth 100000 in
theorem hasF_FuncS (a : List DFunc) (p : DFunc → Bool) (g : FuncId) (cap : List HVal) {h0 : Heap} (hc : ∀ x ∈ a, FnAt Tryz.prog g ([(.agg (DFunc.c x))] ++ cap) (.bool (p x)) h0) : FnAt Tryz.prog 193 [(sls 3 DFunc.c a), .fn (.func g) [] cap] (.bool (a.any p)) h0 := by
  refine fnAtF 9 keep193 ib193 mk193 mix Tryz.func193 rfl (by kernel_rfl) (by simp) fun h hle => ?_
  simp -dsimp -implicitDefEqProofs only [go_sem, ↓reduceIte, keep193, ib193, mk193, Tryz.f193, Tryz.f193]
  refine HFnF.mkAt ((idxF_FuncS a p g cap hc).mono hle) ?_
  simp -dsimp -implicitDefEqProofs only [go_sem, ↓reduceIte, keep193, ib193, mk193, Tryz.f193, Tryz.f193]
  all_goals first | done | exact idxOf_nonneg | rw [idxOf_nonneg]

def keep194 : List Nat := [0, 1, 2, 3]
def ib194 : List Nat := [2]
def mk194 : Marks := fun _ => ([], .nil, [])
set_option maxRecDepth 100000 in
theorem ValidProgram1 (g f : DFunc) (n : Nat) {h0 : Heap} (hn : h0 n = some (.row 3 [f.c.map .v])) : FnAt Tryz.prog 194 [.agg g.c, .op n 3 0 0] (.bool (decide (g.fName = f.fName))) h0 := by
  simp only [DFunc.c_eq]
  have hg (h : Heap) (hle : h0.le h) := Heap.le_get hle hn
  refine fnAtF 9 keep194 ib194 mk194 mix Tryz.func194 rfl (by kernel_rfl) (by simp) fun h hle => ?_
  simp (maxSteps := 1000000) -dsimp -implicitDefEqProofs only [go_sem, ↓reduceIte, keep194, ib194, mk194, Tryz.f194]
  have hn' := hg h hle
  simp only [DFunc.c_eq] at hn'
  simp (maxSteps := 1000000) -dsimp -implicitDefEqProofs only [go_sem, ↓reduceIte, keep194, ib194, mk194, Tryz.f194, hn']
def keep106 : List Nat := [0, 1, 2, 3, 4, 5, 7, 11, 13, 14, 15, 16, 31, 42, 44, 45, 46, 47, 56, 63]
def ib106 : List Nat := [1]
def mk106 : Marks := fun _ => ([], .nil, [])
set_option maxRecDepth 100000 in
theorem ValidProgram (p : DProgram) (hps : p.s ≤ 4194304) : Fn0 Tryz.prog 106 [.agg p.c] (.bool (decide p.ok)) := by
  simp only [DProgram.c_eq]
  refine fn0F 65 keep106 ib106 mk106 mix Tryz.func106 rfl (by kernel_rfl) (by simp) fun h => ?_
  simp (maxSteps := 1000000) -dsimp -implicitDefEqProofs only [go_sem, ↓reduceIte, keep106, ib106, mk106, Tryz.f106]
  repeat' (with_reducible first | intro _ | refine And.intro ?_ ?_)
  · exact (decide_eq_false fun z => by have := z.1; omega).symm
  refine loopF (keep := keep106) (ib := ib106) (mk := mk106) mix (by kernel_rfl) (fun k : Nat => [(1, .ip 1 [p.c] 0 0), (13, sls 3 DFunc.c p.fFuncs), (14, I p.fFuncs.length), (15, I k)]) (fun _ => h) (fun k => k ≤ p.fFuncs.length ∧ ∀ (j : Nat) (f : DFunc), j < k → p.fFuncs[j]? = some f → funcOK p j f) (fun k => p.fFuncs.length - k) 0 (by refine ⟨by simp [SatL, tget, DProgram.c_eq], by repeat' (with_reducible first | exact Heap.le_refl _ | refine (le_upd (by first | assumption | exact And.right (by assumption) | exact upd_none.2 (by assumption))).2 ?_), by simp⟩) ?_
  intro k ⟨hk, hp⟩
  simp only [DProgram.c_eq]
  rcases Nat.lt_or_ge k p.fFuncs.length with hlt | hge
  · obtain ⟨f, eg⟩ : ∃ f, p.fFuncs[k]? = some f := ⟨_, List.getElem?_eq_getElem hlt⟩
    have hfs := DProgram.func_s (List.mem_of_getElem? eg)
    have hos := f.outs_s
    have no (q : ¬ funcOK p k f) : false = decide p.ok := (decide_eq_false fun z => q (z.2 k f eg)).symm
    simp (maxSteps := 1000000) -dsimp -implicitDefEqProofs only [go_sem, ↓reduceIte, keep106, ib106, mk106, Tryz.f106, eg, DFunc.c_eq, upd_upd]
    repeat' (with_reducible first | intro _ | refine And.intro ?_ ?_)
    all_goals try omega
    rename_i n hn
    first | refine HFnF.mk (IsName f.fName) ?_ | refine CallSF.mk (IsName f.fName) ?_ | refine HFnF.mkAt (IsName f.fName) ?_ | refine CallSF.mk (FnAt.fn0 (IsName f.fName)) ?_
    simp (maxSteps := 1000000) -dsimp -implicitDefEqProofs only [go_sem, ↓reduceIte, keep106, ib106, mk106, Tryz.f106, upd_get, upd_upd]
    repeat' (with_reducible first | intro _ | refine And.intro ?_ ?_)
    all_goals try (repeat' (with_reducible first | exact Heap.le_refl _ | refine (le_upd (by first | assumption | exact And.right (by assumption) | exact upd_none.2 (by assumption))).2 ?_))
    all_goals try omega
    all_goals try (rename_i hnm; exact no fun z => hnm z.1)
    rename_i hnm
    rw [← List.map_take]
    refine HFnF.mkAt (hasF_FuncS (p.fFuncs.take k) (fun g => decide (g.fName = f.fName)) 194 [.op n 3 0 0] fun g _ => ValidProgram1 g f n (by simp [upd_get, DFunc.c_eq])) ?_
    simp (maxSteps := 1000000) -dsimp -implicitDefEqProofs only [go_sem, ↓reduceIte, keep106, ib106, mk106, Tryz.f106, upd_get, upd_upd]
    repeat' (with_reducible first | intro _ | refine And.intro ?_ ?_)
    all_goals try (repeat' (with_reducible first | exact Heap.le_refl _ | refine (le_upd (by first | assumption | exact And.right (by assumption) | exact upd_none.2 (by assumption))).2 ?_))
    · rename_i q
      refine no fun z => ?_
      obtain ⟨g, hg1, hg2⟩ := List.any_eq_true.1 q
      exact z.2.2.2.1 g hg1 (by simpa using hg2)
    rename_i hnd
    have hnd' : ∀ g ∈ p.fFuncs.take k, g.fName ≠ f.fName := fun g hg => by
      have := List.any_eq_false.1 hnd g hg
      simpa using this
    first | refine HFnF.mk (within f.fParams 0 12) ?_ | refine CallSF.mk (within f.fParams 0 12) ?_ | refine HFnF.mkAt (within f.fParams 0 12) ?_ | refine CallSF.mk (FnAt.fn0 (within f.fParams 0 12)) ?_
    simp (maxSteps := 1000000) -dsimp -implicitDefEqProofs only [go_sem, ↓reduceIte, keep106, ib106, mk106, Tryz.f106, upd_get, upd_upd]
    repeat' (with_reducible first | intro _ | refine And.intro ?_ ?_)
    all_goals try (repeat' (with_reducible first | exact Heap.le_refl _ | refine (le_upd (by first | assumption | exact And.right (by assumption) | exact upd_none.2 (by assumption))).2 ?_))
    · first | refine HFnF.mk (within f.fOuts.length 1 12) ?_ | refine CallSF.mk (within f.fOuts.length 1 12) ?_ | refine HFnF.mkAt (within f.fOuts.length 1 12) ?_ | refine CallSF.mk (FnAt.fn0 (within f.fOuts.length 1 12)) ?_
      simp (maxSteps := 1000000) -dsimp -implicitDefEqProofs only [go_sem, ↓reduceIte, keep106, ib106, mk106, Tryz.f106, upd_get, upd_upd]
      repeat' (with_reducible first | intro _ | refine And.intro ?_ ?_)
      all_goals try (repeat' (with_reducible first | exact Heap.le_refl _ | refine (le_upd (by first | assumption | exact And.right (by assumption) | exact upd_none.2 (by assumption))).2 ?_))
      · rename_i q
        exact no fun z => q z.2.2.1
      · rename_i q1 q2 q3 q4
        have part (i : Nat) (hi : i < f.fOuts.length) : i + ((f.fOuts.take i).map DExpr.s).sum + f.fOuts[i].s + 1 ≤ szs DExpr.s f.fOuts := by
          have h1 := sum_take_succ DExpr.s f.fOuts i hi
          have h2 := sum_take_le DExpr.s f.fOuts (i + 1)
          rw [szs_eq]; omega
        have hszs : szs DExpr.s f.fOuts ≤ f.s := by rw [f.s_eq]; omega
        refine loopF (keep := keep106) (ib := ib106) (mk := mk106) mix (by kernel_rfl) (fun i : Nat => [(1, .ip 1 [p.c] 0 0), (3, I k), (4, .op n 3 0 0), (5, I ((i + ((f.fOuts.take i).map DExpr.s).sum : Nat) : Int)), (13, sls 3 DFunc.c p.fFuncs), (14, I p.fFuncs.length), (15, I k), (44, sls 5 DExpr.c f.fOuts), (45, I f.fOuts.length), (46, I i)]) (fun _ => upd h n (.row 3 [f.c.map .v])) (fun i => i ≤ f.fOuts.length ∧ ∀ e ∈ f.fOuts.take i, exprOK p e f.fParams k) (fun i => f.fOuts.length - i) 0 (by refine ⟨by simp [SatL, tget, DProgram.c_eq], by simp [DFunc.c_eq, Heap.le_refl], by simp⟩) ?_
        intro i ⟨hi, hall⟩
        simp only [DProgram.c_eq, DFunc.c_eq, List.map_cons, List.map_nil]
        rcases Nat.lt_or_ge i f.fOuts.length with hlt2 | hge2
        · have h1 := sum_take_succ DExpr.s f.fOuts i hlt2
          have hpt := part i hlt2
          have hout := DFunc.out_s (List.getElem_mem hlt2)
          have ee : f.fOuts[i]? = some f.fOuts[i] := List.getElem?_eq_getElem hlt2
          have hv := ValidExpr p f.fOuts[i] f.fParams k (by omega) (by omega)
          have hz := ExprSize f.fOuts[i] (by omega)
          simp only [DExpr.c_eq, DProgram.c_eq] at hv hz
          simp (maxSteps := 1000000) -dsimp -implicitDefEqProofs only [go_sem, ↓reduceIte, keep106, ib106, mk106, Tryz.f106, ee, DExpr.c_eq, upd_upd]
          repeat' (with_reducible first | intro _ | refine And.intro ?_ ?_)
          all_goals try omega
          rename_i m hm
          have hmn : (n = m) = False := eq_false fun e => hm.1 e.symm
          have hnm2 : (m = n) = False := eq_false hm.1
          simp (maxSteps := 1000000) -dsimp -implicitDefEqProofs only [go_sem, ↓reduceIte, keep106, ib106, mk106, Tryz.f106, upd_get, hmn, hnm2]
          first | refine HFnF.mk (hv) ?_ | refine CallSF.mk (hv) ?_ | refine HFnF.mkAt (hv) ?_ | refine CallSF.mk (FnAt.fn0 (hv)) ?_
          simp (maxSteps := 1000000) -dsimp -implicitDefEqProofs only [go_sem, ↓reduceIte, keep106, ib106, mk106, Tryz.f106, upd_get, hmn, hnm2]
          repeat' (with_reducible first | intro _ | refine And.intro ?_ ?_)
          · rename_i hne
            exact no fun z => hne (z.2.2.2.2.2 _ (List.getElem_mem hlt2))
          · all_goals try (repeat' (with_reducible first | exact Heap.le_refl _ | refine (le_upd (by first | assumption | exact And.right (by assumption) | exact upd_none.2 (by assumption))).2 ?_))
          · rename_i hne
            first | refine HFnF.mk (hz) ?_ | refine CallSF.mk (hz) ?_ | refine HFnF.mkAt (hz) ?_ | refine CallSF.mk (FnAt.fn0 (hz)) ?_
            simp (maxSteps := 1000000) -dsimp -implicitDefEqProofs only [go_sem, ↓reduceIte, keep106, ib106, mk106, Tryz.f106, upd_get, hmn, hnm2]
            refine ⟨i + 1, ?_⟩
            repeat' (with_reducible refine And.intro ?_ ?_)
            all_goals try (rw [IntWalk.i64_in _ (by omega)]; first | rfl | omega)
            all_goals try omega
            all_goals try (repeat' (with_reducible first | exact Heap.le_refl _ | refine (le_upd (by first | assumption | exact And.right (by assumption) | exact upd_none.2 (by assumption))).2 ?_))
            all_goals try (simp only [DProgram.c_eq]; done)
            exact all_step (P := fun e => exprOK p e f.fParams k) hlt2 hall hne
        · have hi' : i = f.fOuts.length := by omega
          subst hi'
          rw [List.take_length] at hall ⊢
          simp (maxSteps := 1000000) -dsimp -implicitDefEqProofs only [go_sem, ↓reduceIte, keep106, ib106, mk106, Tryz.f106, Nat.lt_irrefl]
          have hss : szs DExpr.s f.fOuts = f.fOuts.length + (f.fOuts.map DExpr.s).sum := szs_eq _ _
          repeat' (with_reducible first | intro _ | refine And.intro ?_ ?_)
          all_goals try (repeat' (with_reducible first | exact Heap.le_refl _ | refine (le_upd (by first | assumption | exact And.right (by assumption) | exact upd_none.2 (by assumption))).2 ?_))
          · rename_i q
            exact no fun z => by have := z.2.2.2.2.1; omega
          · rename_i q
            have hfk : funcOK p k f := ⟨hnm, q1, q3, hnd', by omega, hall⟩
            refine ⟨k + 1, ?_⟩
            repeat' (with_reducible refine And.intro ?_ ?_)
            all_goals try (rw [IntWalk.i64_in _ (by omega)]; first | rfl | omega)
            all_goals try omega
            all_goals try (repeat' (with_reducible first | exact Heap.le_refl _ | refine (le_upd (by first | assumption | exact And.right (by assumption) | exact upd_none.2 (by assumption))).2 ?_))
            intro j f' hj ej
            rcases Nat.lt_succ_iff_lt_or_eq.1 hj with h1 | rfl
            · exact hp j f' h1 ej
            · rw [eg] at ej; obtain rfl := Option.some.inj ej; exact hfk
    · rename_i q
      exact no fun z => q z.2.1
  · have hk' : k = p.fFuncs.length := by omega
    subst hk'
    simp (maxSteps := 1000000) -dsimp -implicitDefEqProofs only [go_sem, ↓reduceIte, keep106, ib106, mk106, Tryz.f106, Nat.lt_irrefl]
    exact (decide_eq_true ⟨by omega, fun j f ej => hp j f (List.getElem?_eq_some_iff.1 ej).1 ej⟩).symm
open Go.Proofs
set_option linter.unusedVariables false
set_option linter.unusedSimpArgs false
def keep134 : List Nat := [0, 1, 2, 4, 5, 9]
def ib134 : List Nat := [2]
def mk134 : Marks := fun _ => ([], .nil, [])
set_option maxRecDepth 100000 in
theorem isFunc (p : DProgram) (f : Int) (hps : p.s ≤ 4194304) : Fn0 Tryz.prog 134 [.agg p.c, I f] (I (if p.ok then if 0 ≤ f ∧ f ≤ (p.fFuncs.length : Int) - 1 then 0 else 2 else 1)) := by
  have hv := ValidProgram p hps
  simp only [DProgram.c_eq] at hv ⊢
  refine fn0F 17 keep134 ib134 mk134 mix Tryz.func134 rfl (by kernel_rfl) (by simp) fun h => ?_
  simp (maxSteps := 1000000) -dsimp -implicitDefEqProofs only [go_sem, ↓reduceIte, keep134, ib134, mk134, Tryz.f134]
  first | refine HFnF.mk (hv) ?_ | refine CallSF.mk (hv) ?_ | refine HFnF.mkAt (hv) ?_ | refine CallSF.mk (FnAt.fn0 (hv)) ?_
  simp (maxSteps := 1000000) -dsimp -implicitDefEqProofs only [go_sem, ↓reduceIte, keep134, ib134, mk134, Tryz.f134]
  repeat' (with_reducible first | intro _ | refine And.intro ?_ ?_)
  · rename_i hn
    rw [if_neg hn]
  · rename_i hn _
    rw [if_pos hn]
    all_goals try simp (disch := omega) only [IntWalk.i64_in]
    first | refine HFnF.mk (within f 0 (p.fFuncs.length - 1)) ?_ | refine CallSF.mk (within f 0 (p.fFuncs.length - 1)) ?_ | refine HFnF.mkAt (within f 0 (p.fFuncs.length - 1)) ?_ | refine CallSF.mk (FnAt.fn0 (within f 0 (p.fFuncs.length - 1))) ?_
    simp (maxSteps := 1000000) -dsimp -implicitDefEqProofs only [go_sem, ↓reduceIte, keep134, ib134, mk134, Tryz.f134]
    repeat' (with_reducible first | intro _ | refine And.intro ?_ ?_)
    · rename_i q
      rw [if_neg q]
    · rename_i q
      rw [if_pos q]
def DJob.okF (j : DJob) (f : DFunc) : Prop := (0 ≤ j.fShared ∧ j.fShared ≤ f.fParams) ∧ ((j.fPoint.length : Int) = j.fShared ∧ Nums j.fPoint) ∧ (j.fTerms.length : Int) ≤ 10 ∧ ∀ t ∈ j.fTerms, (t.length : Int) = f.fParams - j.fShared ∧ Nums t
def DJob.ok (j : DJob) : Prop := j.fProgram.ok ∧ (0 ≤ j.fFunc ∧ j.fFunc ≤ (j.fProgram.fFuncs.length : Int) - 1) ∧ ∀ f, j.fProgram.fFuncs[j.fFunc.toNat]? = some f → j.okF f
noncomputable instance (j : DJob) : Decidable j.ok := Classical.propDecidable _
def keep53 : List Nat := [0, 2, 3, 4, 24, 71, 78, 106]
def ib53 : List Nat := []
def mk53 : Marks := fun id => match id with | 1 => ([], (.op 0 (.op 1 (.op 2 (.op 3 (.op 4 (.op 5 (.op 6 (.op 7 (.op 8 (.op 9 (.op 10 (.op 11 (.op 12 (.op 13 (.op 14 (.op 15 (.op 16 (.op 17 (.op 18 (.op 19 .nil)))))))))))))))))))), []) | 3 => ([], (.op 0 (.op 1 (.op 2 (.op 3 (.op 4 (.op 5 (.op 6 (.op 7 (.op 8 (.op 9 (.op 10 (.op 11 (.op 12 .nil))))))))))))), []) | 4 => ([], (.op 0 (.op 1 (.op 2 (.op 3 (.op 4 (.op 5 (.op 6 (.op 7 (.op 8 (.op 9 (.op 10 (.op 11 (.op 12 (.op 13 (.op 14 (.op 15 (.op 16 (.op 17 (.op 18 (.op 19 (.op 20 (.op 21 (.op 22 (.op 23 (.op 24 (.op 25 (.op 26 (.op 27 (.op 28 (.op 29 (.op 30 (.op 31 (.op 32 (.op 33 (.op 34 .nil))))))))))))))))))))))))))))))))))), []) | 9 => ([], (.op 0 (.op 1 (.op 2 (.op 3 (.op 4 (.op 5 (.op 6 (.op 7 (.op 8 (.op 9 (.op 10 (.op 11 (.op 12 (.op 13 (.op 14 (.op 15 (.op 16 (.op 17 (.op 18 (.op 19 (.op 20 (.op 21 (.op 22 (.op 23 (.op 24 (.op 25 .nil)))))))))))))))))))))))))), []) | _ => ([], .nil, [])
set_option maxRecDepth 100000 in
theorem l08Job (j : DJob) (hps : j.fProgram.s ≤ 4194304) : Fn0 Tryz.prog 53 [.ip 5 [j.c] 0 0] (.bool (decide j.ok)) := by
  have hl := j.fProgram.len_s
  have e1 : IntKind.i64.wrap ((j.fProgram.fFuncs.length : Int) - 1) = j.fProgram.fFuncs.length - 1 := IntWalk.i64_in _ (by omega)
  simp only [DJob.c_eq]
  refine fn0F 107 keep53 ib53 mk53 mix Tryz.func53 rfl (by kernel_rfl) (by simp) fun h => ?_
  simp (maxSteps := 1000000) -dsimp -implicitDefEqProofs only [go_sem, ↓reduceIte, keep53, ib53, mk53, Tryz.f53, e1]
  first | refine CallSF.mk ((l02Ok j.fProgram hps).sub (by repeat' (first | exact SubL.nil | refine SubL.cons ?_ ?_ | exact Sub.refl _ | (rw [DExpr.c_eq]; exact Sub.refl _) | exact Sub.ipAt rfl rfl rfl | exact Sub.ip (map_get (by omega)) (by simp) | exact Sub.ipAt (map_get (by omega)) rfl rfl | exact Sub.ip (by simp [*]) (by simp) | exact Sub.ipAt (by simp [*]) (by rfl) (by rfl)))) ?_ | refine HFnF.mk ((l02Ok j.fProgram hps).sub (by repeat' (first | exact SubL.nil | refine SubL.cons ?_ ?_ | exact Sub.refl _ | (rw [DExpr.c_eq]; exact Sub.refl _) | exact Sub.ipAt rfl rfl rfl | exact Sub.ip (map_get (by omega)) (by simp) | exact Sub.ipAt (map_get (by omega)) rfl rfl | exact Sub.ip (by simp [*]) (by simp) | exact Sub.ipAt (by simp [*]) (by rfl) (by rfl)))) ?_
  simp (maxSteps := 1000000) -dsimp -implicitDefEqProofs only [go_sem, ↓reduceIte, keep53, ib53, mk53, Tryz.f53, e1]
  repeat' (with_reducible first | intro _ | refine And.intro ?_ ?_)
  · rename_i hp
    first | refine HFnF.mk (l00In j.fFunc 0 (j.fProgram.fFuncs.length - 1)) ?_ | refine CallSF.mk (l00In j.fFunc 0 (j.fProgram.fFuncs.length - 1)) ?_ | refine HFnF.mkAt (l00In j.fFunc 0 (j.fProgram.fFuncs.length - 1)) ?_ | refine CallSF.mk (FnAt.fn0 (l00In j.fFunc 0 (j.fProgram.fFuncs.length - 1))) ?_
    simp (maxSteps := 1000000) -dsimp -implicitDefEqProofs only [go_sem, ↓reduceIte, keep53, ib53, mk53, Tryz.f53, e1]
    repeat' (with_reducible first | intro _ | refine And.intro ?_ ?_)
    · rename_i hr
      exact (decide_eq_false fun z => hr z.2.1).symm
    all_goals try omega
    rename_i hr
    obtain ⟨f, ef⟩ : ∃ f, j.fProgram.fFuncs[j.fFunc.toNat]? = some f := ⟨_, List.getElem?_eq_getElem (by omega)⟩
    have hfo := hp.2 _ f ef
    have hj : j.ok ↔ j.okF f := ⟨fun z => z.2.2 f ef, fun z => ⟨hp, hr, fun g eg => by rw [ef] at eg; obtain rfl := Option.some.inj eg; exact z⟩⟩
    have hp1 := hfo.2.1
    simp (maxSteps := 1000000) -dsimp -implicitDefEqProofs only [go_sem, ↓reduceIte, keep53, ib53, mk53, Tryz.f53, ef, DFunc.c_eq]
    first | refine HFnF.mk (l00In j.fShared 0 f.fParams) ?_ | refine CallSF.mk (l00In j.fShared 0 f.fParams) ?_ | refine HFnF.mkAt (l00In j.fShared 0 f.fParams) ?_ | refine CallSF.mk (FnAt.fn0 (l00In j.fShared 0 f.fParams)) ?_
    simp (maxSteps := 1000000) -dsimp -implicitDefEqProofs only [go_sem, ↓reduceIte, keep53, ib53, mk53, Tryz.f53]
    repeat' (with_reducible first | intro _ | refine And.intro ?_ ?_)
    · rename_i hsh hlen
      first | refine HFnF.mk (l01Numbers j.fPoint) ?_ | refine CallSF.mk (l01Numbers j.fPoint) ?_ | refine HFnF.mkAt (l01Numbers j.fPoint) ?_ | refine CallSF.mk (FnAt.fn0 (l01Numbers j.fPoint)) ?_
      simp (maxSteps := 1000000) -dsimp -implicitDefEqProofs only [go_sem, ↓reduceIte, keep53, ib53, mk53, Tryz.f53]
      repeat' (with_reducible first | intro _ | refine And.intro ?_ ?_)
      · exact (decide_eq_false fun z => by have := (hj.1 z).2.2.1; omega).symm
      · have e4 : IntKind.i64.wrap (f.fParams - j.fShared) = f.fParams - j.fShared := IntWalk.i64_in _ (by omega)
        refine loopF (keep := keep53) (ib := ib53) (mk := mk53) mix (by kernel_rfl) (fun k : Nat => [(0, .ip 5 [j.c] 0 0), (3, I f.fParams), (4, I k)]) (fun _ => h) (fun k => k ≤ j.fTerms.length ∧ ∀ t ∈ j.fTerms.take k, (t.length : Int) = f.fParams - j.fShared ∧ Nums t) (fun k => j.fTerms.length - k) 0 (by refine ⟨by simp [SatL, tget, DJob.c_eq], by repeat' (with_reducible first | exact Heap.le_refl _ | refine (le_upd (by first | assumption | exact And.right (by assumption) | exact upd_none.2 (by assumption))).2 ?_), by simp⟩) ?_
        intro k ⟨hk, hall⟩
        simp only [DJob.c_eq]
        rcases Nat.lt_or_ge k j.fTerms.length with hlt | hge
        · have ea : j.fTerms[k]? = some j.fTerms[k] := List.getElem?_eq_getElem hlt
          have no (q : ¬ ((j.fTerms[k].length : Int) = f.fParams - j.fShared ∧ Nums j.fTerms[k])) : false = decide j.ok := (decide_eq_false fun z => q ((hj.1 z).2.2.2 _ (List.getElem_mem hlt))).symm
          simp (maxSteps := 1000000) -dsimp -implicitDefEqProofs only [go_sem, ↓reduceIte, keep53, ib53, mk53, Tryz.f53, ea, e4]
          repeat' (with_reducible first | intro _ | refine And.intro ?_ ?_)
          all_goals try omega
          · first | refine HFnF.mk (l01Numbers j.fTerms[k]) ?_ | refine CallSF.mk (l01Numbers j.fTerms[k]) ?_ | refine HFnF.mkAt (l01Numbers j.fTerms[k]) ?_ | refine CallSF.mk (FnAt.fn0 (l01Numbers j.fTerms[k])) ?_
            simp (maxSteps := 1000000) -dsimp -implicitDefEqProofs only [go_sem, ↓reduceIte, keep53, ib53, mk53, Tryz.f53]
            repeat' (with_reducible first | intro _ | refine And.intro ?_ ?_)
            · rename_i q4 q5
              exact no fun z => q5 z.2
            · rename_i q4 q5
              refine ⟨k + 1, ?_⟩
              repeat' (with_reducible refine And.intro ?_ ?_)
              all_goals try (rw [IntWalk.i64_in _ (by omega)]; first | rfl | omega)
              all_goals try omega
              all_goals try (repeat' (with_reducible first | exact Heap.le_refl _ | refine (le_upd (by first | assumption | exact And.right (by assumption) | exact upd_none.2 (by assumption))).2 ?_))
              all_goals try (simp only [DJob.c_eq]; done)
              exact all_step (P := fun t : List Int => (t.length : Int) = f.fParams - j.fShared ∧ Nums t) hlt hall ⟨q4, q5⟩
          · rename_i q4
            exact no fun z => q4 z.1
        · have hk' : k = j.fTerms.length := by omega
          subst hk'
          rw [List.take_length] at hall
          simp (maxSteps := 1000000) -dsimp -implicitDefEqProofs only [go_sem, ↓reduceIte, keep53, ib53, mk53, Tryz.f53, Nat.lt_irrefl]
          exact fun _ => (decide_eq_true (hj.2 ⟨hsh, ⟨by assumption, by assumption⟩, by omega, hall⟩)).symm
      · rename_i q2
        exact (decide_eq_false fun z => q2 (hj.1 z).2.1.2).symm
    · rename_i q
      exact (decide_eq_false fun z => q (hj.1 z).2.1.1).symm
    · rename_i q
      exact (decide_eq_false fun z => q (hj.1 z).1).symm
  · rename_i hp
    exact (decide_eq_false fun z => hp z.1).symm
def keep137 : List Nat := [0, 1, 3]
def ib137 : List Nat := []
def mk137 : Marks := fun _ => ([], .nil, [])
set_option maxRecDepth 100000 in
theorem ValidJob1 (l : List Int) (c : Int) (n : Nat) {h0 : Heap} (hn : h0 n = some (.row 1 [[.v (I c)]])) : FnAt Tryz.prog 137 [sls 1 (fun n => [I n]) l, .op n 1 0 0] (.bool (!decide ((l.length : Int) = c ∧ Nums l))) h0 := by
  have hg (h : Heap) (hle : h0.le h) := Heap.le_get hle hn
  refine fnAtF 8 keep137 ib137 mk137 mix Tryz.func137 rfl (by kernel_rfl) (by simp) fun h hle => ?_
  simp (maxSteps := 1000000) -dsimp -implicitDefEqProofs only [go_sem, ↓reduceIte, keep137, ib137, mk137, Tryz.f137]
  have hn' := hg h hle
  simp (maxSteps := 1000000) -dsimp -implicitDefEqProofs only [go_sem, ↓reduceIte, keep137, ib137, mk137, Tryz.f137, hn']
  first | refine HFnF.mk (areNumbers l c) ?_ | refine CallSF.mk (areNumbers l c) ?_ | refine HFnF.mkAt (areNumbers l c) ?_ | refine CallSF.mk (FnAt.fn0 (areNumbers l c)) ?_
  simp (maxSteps := 1000000) -dsimp -implicitDefEqProofs only [go_sem, ↓reduceIte, keep137, ib137, mk137, Tryz.f137]
def keep229 : List Nat := [0, 1, 4, 5, 7, 8, 9, 16]
def ib229 : List Nat := []
def mk229 : Marks := fun _ => ([], .nil, [])
set_option maxRecDepth 100000 in
theorem idxF_Int64SS (a : List (List Int)) (p : (List Int) → Bool) (g : FuncId) (cap : List HVal) {h0 : Heap} (hc : ∀ x ∈ a, FnAt Tryz.prog g ([(sls 1 (fun n => [I n]) x)] ++ cap) (.bool (p x)) h0) : FnAt Tryz.prog 229 [(sls 1 (fun x => [sls 1 (fun n => [I n]) x]) a), .fn (.func g) [] cap] (I (idxOf p a)) h0 := by
  refine fnAtF 19 keep229 ib229 mk229 mix Tryz.func229 rfl (by kernel_rfl) (by simp) fun h hle => ?_
  simp -dsimp -implicitDefEqProofs only [go_sem, ↓reduceIte, keep229, ib229, mk229, Tryz.f229, Tryz.f229]
  intro _
  refine loopF (keep := keep229) (ib := ib229) (mk := mk229) mix (by kernel_rfl) (fun k : Nat => [(0, (sls 1 (fun x => [sls 1 (fun n => [I n]) x]) a)), (1, .fn (.func g) [] cap), (7, I a.length), (8, I k)]) (fun _ => h) (fun k => k ≤ a.length ∧ ∀ x ∈ a.take k, p x = false) (fun k => a.length - k) 0 (by simp [SatL, tget, Heap.le_refl]) ?_
  intro k ⟨hk, hp⟩
  rcases Nat.lt_or_ge k a.length with hlt | hge
  · have ea : a[k]? = some a[k] := List.getElem?_eq_getElem hlt
    simp -dsimp -implicitDefEqProofs only [go_sem, ↓reduceIte, keep229, ib229, mk229, Tryz.f229, Tryz.f229, ea]
    repeat' (with_reducible first | intro _ | refine And.intro ?_ ?_)
    all_goals try omega
    have hx := hc a[k] (List.getElem_mem hlt)
    refine HFnF.mkAt (hx.mono hle) ?_
    cases hpk : p a[k] with
    | true =>
      simp -dsimp -implicitDefEqProofs only [go_sem, ↓reduceIte, keep229, ib229, mk229, Tryz.f229, Tryz.f229]
      repeat' (with_reducible first | intro _ | refine And.intro ?_ ?_)
      all_goals first | exact (idxOf_some hlt hp hpk).symm | rfl | (rw [idxOf_some hlt hp hpk])
    | false =>
      simp -dsimp -implicitDefEqProofs only [go_sem, ↓reduceIte, keep229, ib229, mk229, Tryz.f229, Tryz.f229]
      refine ⟨k + 1, ?_⟩
      repeat' (with_reducible refine And.intro ?_ ?_)
      all_goals try (rw [IntWalk.i64_in _ (by omega)]; first | rfl | omega)
      all_goals try omega
      exact all_step (P := fun x => p x = false) hlt hp hpk
  · have hk' : k = a.length := by omega
    subst hk'
    rw [List.take_length] at hp
    simp -dsimp -implicitDefEqProofs only [go_sem, ↓reduceIte, keep229, ib229, mk229, Tryz.f229, Tryz.f229, Nat.lt_irrefl]
    all_goals first | exact (idxOf_none hp).symm | rw [idxOf_none hp]
def keep136 : List Nat := [0, 1, 4]
def ib136 : List Nat := []
def mk136 : Marks := fun _ => ([], .nil, [])
set_option maxRecDepth 100000 in
theorem hasF_Int64SS (a : List (List Int)) (p : (List Int) → Bool) (g : FuncId) (cap : List HVal) {h0 : Heap} (hc : ∀ x ∈ a, FnAt Tryz.prog g ([(sls 1 (fun n => [I n]) x)] ++ cap) (.bool (p x)) h0) : FnAt Tryz.prog 136 [(sls 1 (fun x => [sls 1 (fun n => [I n]) x]) a), .fn (.func g) [] cap] (.bool (a.any p)) h0 := by
  refine fnAtF 9 keep136 ib136 mk136 mix Tryz.func136 rfl (by kernel_rfl) (by simp) fun h hle => ?_
  simp -dsimp -implicitDefEqProofs only [go_sem, ↓reduceIte, keep136, ib136, mk136, Tryz.f136, Tryz.f136]
  refine HFnF.mkAt ((idxF_Int64SS a p g cap hc).mono hle) ?_
  simp -dsimp -implicitDefEqProofs only [go_sem, ↓reduceIte, keep136, ib136, mk136, Tryz.f136, Tryz.f136]
  all_goals first | done | exact idxOf_nonneg | rw [idxOf_nonneg]

def keep56 : List Nat := [0, 1, 2, 3, 31]
def ib56 : List Nat := [1]
def mk56 : Marks := fun id => match id with | 1 => ([], (.op 0 (.op 1 (.op 2 (.op 3 (.op 4 (.op 5 (.op 6 (.op 7 (.op 8 (.op 9 (.op 10 (.op 11 (.op 12 (.op 13 (.op 14 (.op 15 (.op 16 (.op 17 (.op 18 (.op 19 (.op 20 (.op 21 (.op 22 (.op 23 (.op 24 (.op 25 (.op 26 (.op 27 .nil)))))))))))))))))))))))))))), []) | 3 => ([11, 12], (.op 0 (.op 1 (.op 2 (.op 3 (.op 4 (.op 5 (.op 6 (.op 7 (.op 8 (.op 9 (.op 10 (.op 11 (.op 12 .nil))))))))))))), []) | _ => ([], .nil, [])
set_option maxRecDepth 100000 in
theorem ValidJob (j : DJob) (hps : j.fProgram.s ≤ 4194304) : Fn0 Tryz.prog 56 [.agg j.c] (.bool (decide j.ok)) := by
  have hif := isFunc j.fProgram j.fFunc hps
  have hl := j.fProgram.len_s
  simp only [DJob.c_eq, DProgram.c_eq] at hif ⊢
  by_cases hp : j.fProgram.ok ∧ (0 ≤ j.fFunc ∧ j.fFunc ≤ (j.fProgram.fFuncs.length : Int) - 1)
  · obtain ⟨hp, hr⟩ := hp
    rw [if_pos hp, if_pos hr] at hif
    obtain ⟨f, ef⟩ : ∃ f, j.fProgram.fFuncs[j.fFunc.toNat]? = some f := ⟨_, List.getElem?_eq_getElem (by omega)⟩
    have hfo := hp.2 _ f ef
    have hj : j.ok ↔ j.okF f := ⟨fun z => z.2.2 f ef, fun z => ⟨hp, hr, fun g eg => by rw [ef] at eg; obtain rfl := Option.some.inj eg; exact z⟩⟩
    have hp1 := hfo.2.1
    refine fn0F 54 keep56 ib56 mk56 mix Tryz.func56 rfl (by kernel_rfl) (by simp) fun h => ?_
    simp (maxSteps := 1000000) -dsimp -implicitDefEqProofs only [go_sem, ↓reduceIte, keep56, ib56, mk56, Tryz.f56]
    first | refine HFnF.mk (hif) ?_ | refine CallSF.mk (hif) ?_ | refine HFnF.mkAt (hif) ?_ | refine CallSF.mk (FnAt.fn0 (hif)) ?_
    simp (maxSteps := 1000000) -dsimp -implicitDefEqProofs only [go_sem, ↓reduceIte, keep56, ib56, mk56, Tryz.f56, ef, DFunc.c_eq]
    repeat' (with_reducible first | intro _ | refine And.intro ?_ ?_)
    all_goals try omega
    first | refine HFnF.mk (within j.fShared 0 f.fParams) ?_ | refine CallSF.mk (within j.fShared 0 f.fParams) ?_ | refine HFnF.mkAt (within j.fShared 0 f.fParams) ?_ | refine CallSF.mk (FnAt.fn0 (within j.fShared 0 f.fParams)) ?_
    simp (maxSteps := 1000000) -dsimp -implicitDefEqProofs only [go_sem, ↓reduceIte, keep56, ib56, mk56, Tryz.f56, ef, DFunc.c_eq]
    repeat' (with_reducible first | intro _ | refine And.intro ?_ ?_)
    · first | refine HFnF.mk (areNumbers j.fPoint j.fShared) ?_ | refine CallSF.mk (areNumbers j.fPoint j.fShared) ?_ | refine HFnF.mkAt (areNumbers j.fPoint j.fShared) ?_ | refine CallSF.mk (FnAt.fn0 (areNumbers j.fPoint j.fShared)) ?_
      simp (maxSteps := 1000000) -dsimp -implicitDefEqProofs only [go_sem, ↓reduceIte, keep56, ib56, mk56, Tryz.f56, ef, DFunc.c_eq]
      repeat' (with_reducible first | intro _ | refine And.intro ?_ ?_)
      all_goals try omega
      · rename_i q
        exact (decide_eq_false fun z => q (hj.1 z).2.1).symm
      · rename_i n hn q1 q2
        rw [IntWalk.i64_in _ (by omega)]
        refine HFnF.mkAt (hasF_Int64SS j.fTerms (fun t => !decide ((t.length : Int) = f.fParams - j.fShared ∧ Nums t)) 137 [.op n 1 0 0] fun t _ => ValidJob1 t (f.fParams - j.fShared) n (by simp [upd_get])) ?_
        simp (maxSteps := 1000000) -dsimp -implicitDefEqProofs only [go_sem, ↓reduceIte, keep56, ib56, mk56, Tryz.f56]
        repeat' (with_reducible first | intro _ | refine And.intro ?_ ?_)
        all_goals try (repeat' (with_reducible first | exact Heap.le_refl _ | refine (le_upd (by first | assumption | exact And.right (by assumption) | exact upd_none.2 (by assumption))).2 ?_))
        rw [any_not, decide_eq_decide, hj]
        exact ⟨fun q => ⟨by assumption, by assumption, by omega, q⟩, fun q => q.2.2.2⟩
      · rename_i q
        exact (decide_eq_false fun z => q (by have := (hj.1 z).2.2.1; omega)).symm
      · all_goals try (repeat' (with_reducible first | exact Heap.le_refl _ | refine (le_upd (by first | assumption | exact And.right (by assumption) | exact upd_none.2 (by assumption))).2 ?_))
    · rename_i q
      exact (decide_eq_false fun z => q (hj.1 z).1).symm
  · have hne : ¬ (if j.fProgram.ok then if 0 ≤ j.fFunc ∧ j.fFunc ≤ (j.fProgram.fFuncs.length : Int) - 1 then 0 else 2 else 1 : Int) = 0 := by
      intro q
      split at q
      · split at q
        · rename_i a b
          exact hp ⟨a, b⟩
        · cases q
      · cases q
    refine fn0F 54 keep56 ib56 mk56 mix Tryz.func56 rfl (by kernel_rfl) (by simp) fun h => ?_
    simp (maxSteps := 1000000) -dsimp -implicitDefEqProofs only [go_sem, ↓reduceIte, keep56, ib56, mk56, Tryz.f56]
    first | refine HFnF.mk (hif) ?_ | refine CallSF.mk (hif) ?_ | refine HFnF.mkAt (hif) ?_ | refine CallSF.mk (FnAt.fn0 (hif)) ?_
    simp (maxSteps := 1000000) -dsimp -implicitDefEqProofs only [go_sem, ↓reduceIte, keep56, ib56, mk56, Tryz.f56]
    repeat' (with_reducible first | intro _ | refine And.intro ?_ ?_)
    all_goals try (exact absurd (by assumption) hne)
    exact (decide_eq_false fun z => hp ⟨z.1, z.2.1⟩).symm
open Go.Proofs
set_option linter.unusedVariables false
set_option linter.unusedSimpArgs false
def pointOK (j : DJob) (l : List Int) : Prop := (l.length : Int) = j.fShared ∧ Nums l
def partOK (j : DJob) (p : DPart) : Prop := if p.fCode = 0 then Num p.fValue ∧ pointOK j p.fGrad else (p.fCode = 6 ∨ p.fCode = 7) ∧ p.fValue = 0 ∧ p.fGrad = []
noncomputable instance (j : DJob) (p : DPart) : Decidable (partOK j p) := Classical.propDecidable _
def svcAt (j : DJob) (st ow : Int) (kn : Bool) (p : DPart) : Prop := (0 ≤ st ∧ st ≤ 50) ∧ (-1 ≤ ow ∧ ow ≤ 3) ∧ (kn = true → ow = -1 ∧ partOK j p) ∧ (kn = false → p.fCode = 0 ∧ p.fValue = 0 ∧ p.fGrad = [])
def DService.ok (s : DService) : Prop := s.fJob.ok ∧ (s.fStamps.length = s.fJob.fTerms.length ∧ s.fKnown.length = s.fJob.fTerms.length ∧ s.fParts.length = s.fJob.fTerms.length ∧ s.fOwners.length = s.fJob.fTerms.length) ∧
  ∀ (k : Nat) (st ow : Int) (kn : Bool) (p : DPart), s.fStamps[k]? = some st → s.fOwners[k]? = some ow → s.fKnown[k]? = some kn → s.fParts[k]? = some p → svcAt s.fJob st ow kn p
noncomputable instance (s : DService) : Decidable s.ok := Classical.propDecidable _
def keep71 : List Nat := [0, 1, 4]
def ib71 : List Nat := []
def mk71 : Marks := fun _ => ([], .nil, [])
set_option maxRecDepth 100000 in
theorem l08Point (j : DJob) (l : List Int) : Fn0 Tryz.prog 71 [.ip 5 [j.c] 0 0, sls 1 (fun n => [I n]) l] (.bool (decide ((l.length : Int) = j.fShared ∧ Nums l))) := by
  simp only [DJob.c_eq]
  refine fn0F 16 keep71 ib71 mk71 mix Tryz.func71 rfl (by kernel_rfl) (by simp) fun h => ?_
  simp (maxSteps := 1000000) -dsimp -implicitDefEqProofs only [go_sem, ↓reduceIte, keep71, ib71, mk71, Tryz.f71]
  repeat' (with_reducible first | intro _ | refine And.intro ?_ ?_)
  all_goals try (first | (simp [*]; done) | omega | grind)
  first | refine HFnF.mk (l01Numbers l) ?_ | refine CallSF.mk (l01Numbers l) ?_ | refine HFnF.mkAt (l01Numbers l) ?_ | refine CallSF.mk (FnAt.fn0 (l01Numbers l)) ?_
  simp (maxSteps := 1000000) -dsimp -implicitDefEqProofs only [go_sem, ↓reduceIte, keep71, ib71, mk71, Tryz.f71]
  all_goals try (first | (simp [*]; done) | omega | grind)
open Go.Proofs
set_option linter.unusedVariables false
set_option linter.unusedSimpArgs false
open Go.Proofs
set_option linter.unusedVariables false
set_option linter.unusedSimpArgs false


def keep240 : List Nat := [0, 2, 3, 4, 11]
def ib240 : List Nat := []
def mk240 : Marks := fun _ => ([], .nil, [])
set_option maxRecDepth 100000 in
theorem to_ExprS (l : List DExpr) (h1 : l.length ≤ 1048576) (hc : ∀ x ∈ l, Fn0 Tryz.prog 280 [(.agg (DExpr.c x))] (.agg (DExpr.c x))) : Fn0 Tryz.prog 240 [(sls 5 DExpr.c l)] (sls 5 DExpr.c l) := by
  refine fn0S 23 keep240 ib240 mk240 mix Tryz.func240 rfl (by kernel_rfl) (by simp) fun h => ?_
  simp -dsimp -implicitDefEqProofs only [go_sem, Tryz.f240, ↓reduceIte, keep240, ib240, mk240]
  refine fun _ => ⟨by omega, by omega, by omega, by omega, fun n hn => ?_⟩
  refine loopF (keep := keep240) (ib := ib240) (mk := mk240) mix (by kernel_rfl) (fun k : Nat => [(0, (sls 5 DExpr.c l)), (3, .os n 5 0 l.length), (4, I k)]) (fun k => upd h n (.row 5 (fillUp DExpr.c [.int .i64 0, .int .i64 0, .int .i64 0, .int .i64 0, .nilsl] l k))) (fun k => k ≤ l.length) (fun k => l.length - k) 0 (by simp [SatL, tget, Heap.le_refl, fillUp_zero]) ?_
  intro k hk
  rcases Nat.lt_or_ge k l.length with hlt | hge
  · have ea : l[k]? = some l[k] := List.getElem?_eq_getElem hlt
    simp -dsimp -implicitDefEqProofs only [go_sem, ↓reduceIte, keep240, ib240, mk240, Tryz.f240, ea, fillUp_get _ _ _ _ hlt, DExpr.c_eq]
    refine fun _ => ⟨fun _ => ⟨hlt, ?_⟩, fun hn => absurd hlt hn⟩
    have hx := hc l[k] (List.getElem_mem hlt)
    simp only [DExpr.c_eq] at hx
    refine HFnF.mk hx ?_
    simp -dsimp -implicitDefEqProofs only [go_sem, ↓reduceIte, keep240, ib240, mk240, Tryz.f240, fillUp_get _ _ _ _ hlt]
    refine ⟨hlt, k + 1, by rw [IntWalk.i64_in _ (by omega)]; rfl, ?_, by omega, by omega⟩
    exact le_fill hlt (by first | rfl | (simp only [List.map_cons, List.map_nil, DExpr.c_eq]))
  · have hk' : k = l.length := by omega
    subst hk'
    simp -dsimp -implicitDefEqProofs only [go_sem, ↓reduceIte, keep240, ib240, mk240, Tryz.f240, Nat.lt_irrefl]
    rw [fillUp_all]
    exact fun _ => shift_row _ hn (Heap.le_refl _) _ (by simp)

def keep280 : List Nat := [0, 1, 2, 3]
def ib280 : List Nat := [1]
def mk280 : Marks := fun _ => ([], .nil, [])
set_option maxRecDepth 100000 in
theorem to_Expr_step (x : DExpr) (hs : x.s ≤ 1048576) (hk : Fn0 Tryz.prog 240 [(sls 5 DExpr.c x.fKids)] (sls 5 DExpr.c x.fKids)) : Fn0 Tryz.prog 280 [.agg x.c] (.agg x.c) := by
  rw [DExpr.s_eq] at hs
  simp only [DExpr.c_eq]
  refine fn0S 21 keep280 ib280 mk280 mix Tryz.func280 rfl (by kernel_rfl) (by simp) fun h => ?_
  simp -dsimp -implicitDefEqProofs only [go_sem, Tryz.f280, ↓reduceIte, keep280, ib280, mk280]
  intro n2 h2 n3 h3
  have e1 : (n2 = n3) = False := eq_false fun e => h3.1 e.symm
  have e2 : (n3 = n2) = False := eq_false h3.1
  have hzfKids : (x.fKids).length + ((x.fKids).map DExpr.s).sum = (szs DExpr.s x.fKids) := rfl
  refine HFnF.mk hk ?_
  simp -dsimp -implicitDefEqProofs only [go_sem, ↓reduceIte, keep280, ib280, mk280, Tryz.f280, upd_upd, upd_get, e1, e2]
  exact shift_le (by simp -dsimp -implicitDefEqProofs only [go_sem, h2, h3, e1, e2, upd_get])
theorem to_Expr (x : DExpr) (hs : x.s ≤ 1048576) : Fn0 Tryz.prog 280 [.agg x.c] (.agg x.c) :=
  to_Expr_step x hs (to_ExprS x.fKids (by rw [DExpr.s_eq] at hs; rw [szs_eq] at hs; omega) fun y hy => to_Expr y (by rw [DExpr.s_eq] at hs; have := sum_mem DExpr.s hy; rw [szs_eq] at hs; omega))
termination_by SizeOf.sizeOf x
decreasing_by exact DExpr.kid_lt hy

def keep167 : List Nat := [0, 1, 2, 3]
def ib167 : List Nat := [1]
def mk167 : Marks := fun _ => ([], .nil, [])
set_option maxRecDepth 100000 in
theorem to_Func (x : DFunc) (hs : x.s ≤ 1048576) : Fn0 Tryz.prog 167 [.agg x.c] (.agg x.c) := by
  rw [DFunc.s_eq] at hs
  simp only [DFunc.c_eq]
  refine fn0S 15 keep167 ib167 mk167 mix Tryz.func167 rfl (by kernel_rfl) (by simp) fun h => ?_
  simp -dsimp -implicitDefEqProofs only [go_sem, Tryz.f167, ↓reduceIte, keep167, ib167, mk167]
  intro n2 h2 n3 h3
  have e1 : (n2 = n3) = False := eq_false fun e => h3.1 e.symm
  have e2 : (n3 = n2) = False := eq_false h3.1
  have hzfOuts : (x.fOuts).length + ((x.fOuts).map DExpr.s).sum = (szs DExpr.s x.fOuts) := rfl
  refine HFnF.mk (to_ExprS x.fOuts (by omega) (fun y hy => to_Expr y (by have hq : (DExpr.s y) ≤ ((x.fOuts).map DExpr.s).sum := sum_mem DExpr.s hy; omega))) ?_
  simp -dsimp -implicitDefEqProofs only [go_sem, ↓reduceIte, keep167, ib167, mk167, Tryz.f167, upd_upd, upd_get, e1, e2]
  exact shift_le (by simp -dsimp -implicitDefEqProofs only [go_sem, h2, h3, e1, e2, upd_get])

def keep85 : List Nat := [0, 2, 3, 4, 11]
def ib85 : List Nat := []
def mk85 : Marks := fun _ => ([], .nil, [])
set_option maxRecDepth 100000 in
theorem to_FuncS (l : List DFunc) (h1 : l.length ≤ 1048576) (hc : ∀ x ∈ l, Fn0 Tryz.prog 167 [(.agg (DFunc.c x))] (.agg (DFunc.c x))) : Fn0 Tryz.prog 85 [(sls 3 DFunc.c l)] (sls 3 DFunc.c l) := by
  refine fn0S 23 keep85 ib85 mk85 mix Tryz.func85 rfl (by kernel_rfl) (by simp) fun h => ?_
  simp -dsimp -implicitDefEqProofs only [go_sem, Tryz.f85, ↓reduceIte, keep85, ib85, mk85]
  refine fun _ => ⟨by omega, by omega, by omega, by omega, fun n hn => ?_⟩
  refine loopF (keep := keep85) (ib := ib85) (mk := mk85) mix (by kernel_rfl) (fun k : Nat => [(0, (sls 3 DFunc.c l)), (3, .os n 3 0 l.length), (4, I k)]) (fun k => upd h n (.row 3 (fillUp DFunc.c [.str [], .int .i64 0, .nilsl] l k))) (fun k => k ≤ l.length) (fun k => l.length - k) 0 (by simp [SatL, tget, Heap.le_refl, fillUp_zero]) ?_
  intro k hk
  rcases Nat.lt_or_ge k l.length with hlt | hge
  · have ea : l[k]? = some l[k] := List.getElem?_eq_getElem hlt
    simp -dsimp -implicitDefEqProofs only [go_sem, ↓reduceIte, keep85, ib85, mk85, Tryz.f85, ea, fillUp_get _ _ _ _ hlt, DFunc.c_eq]
    refine fun _ => ⟨fun _ => ⟨hlt, ?_⟩, fun hn => absurd hlt hn⟩
    have hx := hc l[k] (List.getElem_mem hlt)
    simp only [DFunc.c_eq] at hx
    refine HFnF.mk hx ?_
    simp -dsimp -implicitDefEqProofs only [go_sem, ↓reduceIte, keep85, ib85, mk85, Tryz.f85, fillUp_get _ _ _ _ hlt]
    refine ⟨hlt, k + 1, by rw [IntWalk.i64_in _ (by omega)]; rfl, ?_, by omega, by omega⟩
    exact le_fill hlt (by first | rfl | (simp only [List.map_cons, List.map_nil, DFunc.c_eq]))
  · have hk' : k = l.length := by omega
    subst hk'
    simp -dsimp -implicitDefEqProofs only [go_sem, ↓reduceIte, keep85, ib85, mk85, Tryz.f85, Nat.lt_irrefl]
    rw [fillUp_all]
    exact fun _ => shift_row _ hn (Heap.le_refl _) _ (by simp)

def keep34 : List Nat := [0, 1, 2, 3]
def ib34 : List Nat := [1]
def mk34 : Marks := fun _ => ([], .nil, [])
set_option maxRecDepth 100000 in
theorem to_Program (x : DProgram) (hs : x.s ≤ 1048576) : Fn0 Tryz.prog 34 [.agg x.c] (.agg x.c) := by
  rw [DProgram.s_eq] at hs
  simp only [DProgram.c_eq]
  refine fn0S 9 keep34 ib34 mk34 mix Tryz.func34 rfl (by kernel_rfl) (by simp) fun h => ?_
  simp -dsimp -implicitDefEqProofs only [go_sem, Tryz.f34, ↓reduceIte, keep34, ib34, mk34]
  intro n2 h2 n3 h3
  have e1 : (n2 = n3) = False := eq_false fun e => h3.1 e.symm
  have e2 : (n3 = n2) = False := eq_false h3.1
  have hzfFuncs : (x.fFuncs).length + ((x.fFuncs).map DFunc.s).sum = (szs DFunc.s x.fFuncs) := rfl
  refine HFnF.mk (to_FuncS x.fFuncs (by omega) (fun y hy => to_Func y (by have hq : (DFunc.s y) ≤ ((x.fFuncs).map DFunc.s).sum := sum_mem DFunc.s hy; omega))) ?_
  simp -dsimp -implicitDefEqProofs only [go_sem, ↓reduceIte, keep34, ib34, mk34, Tryz.f34, upd_upd, upd_get, e1, e2]
  exact shift_le (by simp -dsimp -implicitDefEqProofs only [go_sem, h2, h3, e1, e2, upd_get])

def keep30 : List Nat := [0, 2, 3, 4, 11]
def ib30 : List Nat := []
def mk30 : Marks := fun _ => ([], .nil, [])
set_option maxRecDepth 100000 in
theorem to_Int64S (l : List Int) (h1 : l.length ≤ 1048576) : Fn0 Tryz.prog 30 [(sls 1 (fun n => [I n]) l)] (sls 1 (fun n => [I n]) l) := by
  refine fn0S 22 keep30 ib30 mk30 mix Tryz.func30 rfl (by kernel_rfl) (by simp) fun h => ?_
  simp -dsimp -implicitDefEqProofs only [go_sem, Tryz.f30, ↓reduceIte, keep30, ib30, mk30]
  refine fun _ => ⟨by omega, by omega, by omega, by omega, fun n hn => ?_⟩
  refine loopF (keep := keep30) (ib := ib30) (mk := mk30) mix (by kernel_rfl) (fun k : Nat => [(0, (sls 1 (fun n => [I n]) l)), (3, .os n 1 0 l.length), (4, I k)]) (fun k => upd h n (.row 1 (fillUp (fun n => [I n]) [.int .i64 0] l k))) (fun k => k ≤ l.length) (fun k => l.length - k) 0 (by simp [SatL, tget, Heap.le_refl, fillUp_zero]) ?_
  intro k hk
  rcases Nat.lt_or_ge k l.length with hlt | hge
  · have ea : l[k]? = some l[k] := List.getElem?_eq_getElem hlt
    simp -dsimp -implicitDefEqProofs only [go_sem, ↓reduceIte, keep30, ib30, mk30, Tryz.f30, ea, fillUp_get _ _ _ _ hlt]
    refine fun _ => ⟨fun _ => ⟨hlt, hlt, k + 1, by rw [IntWalk.i64_in _ (by omega)]; rfl, ?_, by omega, by omega⟩, fun hn => absurd hlt hn⟩
    exact le_fill hlt rfl
  · have hk' : k = l.length := by omega
    subst hk'
    simp -dsimp -implicitDefEqProofs only [go_sem, ↓reduceIte, keep30, ib30, mk30, Tryz.f30, Nat.lt_irrefl]
    rw [fillUp_all]
    exact fun _ => shift_row _ hn (Heap.le_refl _) _ (by simp)

def keep50 : List Nat := [0, 2, 3, 4, 11]
def ib50 : List Nat := []
def mk50 : Marks := fun _ => ([], .nil, [])
set_option maxRecDepth 100000 in
theorem to_Int64SS (l : List (List Int)) (h1 : l.length ≤ 1048576) (hc : ∀ x ∈ l, Fn0 Tryz.prog 30 [(sls 1 (fun n => [I n]) x)] (sls 1 (fun n => [I n]) x)) : Fn0 Tryz.prog 50 [(sls 1 (fun x => [sls 1 (fun n => [I n]) x]) l)] (sls 1 (fun x => [sls 1 (fun n => [I n]) x]) l) := by
  refine fn0S 23 keep50 ib50 mk50 mix Tryz.func50 rfl (by kernel_rfl) (by simp) fun h => ?_
  simp -dsimp -implicitDefEqProofs only [go_sem, Tryz.f50, ↓reduceIte, keep50, ib50, mk50]
  refine fun _ => ⟨by omega, by omega, by omega, by omega, fun n hn => ?_⟩
  refine loopF (keep := keep50) (ib := ib50) (mk := mk50) mix (by kernel_rfl) (fun k : Nat => [(0, (sls 1 (fun x => [sls 1 (fun n => [I n]) x]) l)), (3, .os n 1 0 l.length), (4, I k)]) (fun k => upd h n (.row 1 (fillUp (fun x => [sls 1 (fun n => [I n]) x]) [.nilsl] l k))) (fun k => k ≤ l.length) (fun k => l.length - k) 0 (by simp [SatL, tget, Heap.le_refl, fillUp_zero]) ?_
  intro k hk
  rcases Nat.lt_or_ge k l.length with hlt | hge
  · have ea : l[k]? = some l[k] := List.getElem?_eq_getElem hlt
    simp -dsimp -implicitDefEqProofs only [go_sem, ↓reduceIte, keep50, ib50, mk50, Tryz.f50, ea, fillUp_get _ _ _ _ hlt]
    refine fun _ => ⟨fun _ => ⟨hlt, ?_⟩, fun hn => absurd hlt hn⟩
    have hx := hc l[k] (List.getElem_mem hlt)
    refine HFnF.mk hx ?_
    simp -dsimp -implicitDefEqProofs only [go_sem, ↓reduceIte, keep50, ib50, mk50, Tryz.f50, fillUp_get _ _ _ _ hlt]
    refine ⟨hlt, k + 1, by rw [IntWalk.i64_in _ (by omega)]; rfl, ?_, by omega, by omega⟩
    exact le_fill hlt (by first | rfl | (simp only [List.map_cons, List.map_nil]))
  · have hk' : k = l.length := by omega
    subst hk'
    simp -dsimp -implicitDefEqProofs only [go_sem, ↓reduceIte, keep50, ib50, mk50, Tryz.f50, Nat.lt_irrefl]
    rw [fillUp_all]
    exact fun _ => shift_row _ hn (Heap.le_refl _) _ (by simp)

def keep12 : List Nat := [0, 1, 2, 3]
def ib12 : List Nat := [1]
def mk12 : Marks := fun _ => ([], .nil, [])
set_option maxRecDepth 100000 in
theorem to_Job (x : DJob) (hs : x.s ≤ 1048576) : Fn0 Tryz.prog 12 [.agg x.c] (.agg x.c) := by
  rw [DJob.s_eq] at hs
  simp only [DJob.c_eq]
  refine fn0S 23 keep12 ib12 mk12 mix Tryz.func12 rfl (by kernel_rfl) (by simp) fun h => ?_
  simp -dsimp -implicitDefEqProofs only [go_sem, Tryz.f12, ↓reduceIte, keep12, ib12, mk12]
  intro n2 h2 n3 h3
  have e1 : (n2 = n3) = False := eq_false fun e => h3.1 e.symm
  have e2 : (n3 = n2) = False := eq_false h3.1
  have hzfTerms : (x.fTerms).length + ((x.fTerms).map (fun x : List Int => x.length)).sum = (szs (fun x : List Int => x.length) x.fTerms) := rfl
  refine HFnF.mk (to_Program x.fProgram (by omega)) ?_
  simp -dsimp -implicitDefEqProofs only [go_sem, ↓reduceIte, keep12, ib12, mk12, Tryz.f12, upd_upd, upd_get, e1, e2, DProgram.c_eq]
  refine HFnF.mk (to_Int64S x.fPoint (by omega)) ?_
  simp -dsimp -implicitDefEqProofs only [go_sem, ↓reduceIte, keep12, ib12, mk12, Tryz.f12, upd_upd, upd_get, e1, e2]
  refine HFnF.mk (to_Int64SS x.fTerms (by omega) (fun y hy => to_Int64S y (by have hq : y.length ≤ ((x.fTerms).map (fun x : List Int => x.length)).sum := sum_mem (fun x : List Int => x.length) hy; omega))) ?_
  simp -dsimp -implicitDefEqProofs only [go_sem, ↓reduceIte, keep12, ib12, mk12, Tryz.f12, upd_upd, upd_get, e1, e2]
  exact shift_le (by simp -dsimp -implicitDefEqProofs only [go_sem, h2, h3, e1, e2, upd_get])


open Go.Proofs
set_option linter.unusedVariables false
set_option linter.unusedSimpArgs false
mutual
def DExpr.o : DExpr → List OV → Prop
  | .mk fKind fNum fPick fCount fKids, e => ∃ y, e = [.v (.int .i64 fKind), .v (.int .i64 fNum), .v (.int .i64 fPick), .v (.int .i64 fCount), y] ∧ ((y = .nil 5 ∧ fKids = []) ∨ ∃ n es, y = .sl n 5 es ∧ DExpr.oR fKids es)
def DExpr.oR : List DExpr → List (List OV) → Prop
  | [], [] => True
  | x :: l, e :: es => x.o e ∧ DExpr.oR l es
  | _, _ => False
end
def DFunc.o (x : DFunc) (e : List OV) : Prop := ∃ y2, e = [.v (.str x.fName), .v (.int .i64 x.fParams), y2] ∧ OS DExpr.o 5 x.fOuts y2
def DProgram.o (x : DProgram) (e : List OV) : Prop := ∃ y0, e = [y0] ∧ OS DFunc.o 3 x.fFuncs y0
def DJob.o (x : DJob) (e : List OV) : Prop := ∃ y0 y3 y4, e = [y0, .v (.int .i64 x.fFunc), .v (.int .i64 x.fShared), y3, y4] ∧ OS DFunc.o 3 x.fProgram.fFuncs y0 ∧ OS (oP I) 1 x.fPoint y3 ∧ OS (oS (oP I) 1) 1 x.fTerms y4
def DPart.o (x : DPart) (e : List OV) : Prop := ∃ y2, e = [.v (.int .i64 x.fCode), .v (.int .i64 x.fValue), y2] ∧ OS (oP I) 1 x.fGrad y2
def DService.o (x : DService) (e : List OV) : Prop := ∃ y0 y3 y4 y5 y6 y7 y8, e = [y0, .v (.int .i64 x.fJob.fFunc), .v (.int .i64 x.fJob.fShared), y3, y4, y5, y6, y7, y8] ∧ OS DFunc.o 3 x.fJob.fProgram.fFuncs y0 ∧ OS (oP I) 1 x.fJob.fPoint y3 ∧ OS (oS (oP I) 1) 1 x.fJob.fTerms y4 ∧ OS (oP I) 1 x.fStamps y5 ∧ OS (oP HVal.bool) 1 x.fKnown y6 ∧ OS DPart.o 3 x.fParts y7 ∧ OS (oP I) 1 x.fOwners y8
def DTerm.o (x : DTerm) (e : List OV) : Prop := ∃ y0, e = [y0, .v (.int .i64 x.fCoef)] ∧ OS (oP I) 1 x.fExps y0
def DPoly.o (x : DPoly) (e : List OV) : Prop := ∃ y1, e = [.v (.int .i64 x.fVars), y1] ∧ OS DTerm.o 2 x.fTerms y1
open Go.Proofs
set_option linter.unusedVariables false
set_option linter.unusedSimpArgs false


open Go.Proofs
set_option linter.unusedVariables false
set_option linter.unusedSimpArgs false
def keep142 : List Nat := [0, 2, 4]
def ib142 : List Nat := [5]
def mk142 : Marks := fun _ => ([], .nil, [])
set_option maxRecDepth 100000 in
theorem cloneI (l : List Int) (hl : l.length ≤ 1048576) : FnN Tryz.prog 142 [sls 1 (fun n => [I n]) l] (QS (OS (oP I) 1 l)) := by
  refine fnNF 8 keep142 ib142 mk142 mix Tryz.func142 rfl (by kernel_rfl) (by simp) fun h => ?_
  simp (maxSteps := 1000000) -dsimp -implicitDefEqProofs only [go_sem, ↓reduceIte, keep142, ib142, mk142, Tryz.f142]
  repeat' (with_reducible first | intro _ | refine And.intro ?_ ?_)
  all_goals try (first | exact own_nil (by assumption) | exact own_emp (by assumption) | exact own_row (by assumption) | omega)
def keep133 : List Nat := [0, 2]
def ib133 : List Nat := [3]
def mk133 : Marks := fun _ => ([], .nil, [])
set_option maxRecDepth 100000 in
theorem l00Own (l : List Int) (hl : l.length ≤ 1048576) : FnN Tryz.prog 133 [sls 1 (fun n => [I n]) l] (QS (OS (oP I) 1 l)) := by
  refine fnNF 6 keep133 ib133 mk133 mix Tryz.func133 rfl (by kernel_rfl) (by simp) fun h => ?_
  simp (maxSteps := 1000000) -dsimp -implicitDefEqProofs only [go_sem, ↓reduceIte, keep133, ib133, mk133, Tryz.f133]
  repeat' (with_reducible first | intro _ | refine And.intro ?_ ?_)
  all_goals try (first | exact own_nil (by assumption) | exact own_emp (by assumption) | exact own_row (by assumption) | omega)
open Go.Proofs
set_option linter.unusedVariables false
set_option linter.unusedSimpArgs false
open Go.Proofs
set_option linter.unusedVariables false
set_option linter.unusedSimpArgs false
open Go.Proofs
set_option linter.unusedVariables false
set_option linter.unusedSimpArgs false

open Go.Proofs
set_option linter.unusedVariables false
set_option linter.unusedSimpArgs false
theorem tmodP (n : Int) : n.tmod 1000003 = n % 1000003 ∨ n.tmod 1000003 = n % 1000003 - 1000003 := by
  by_cases h : 0 ≤ n
  · exact .inl (Int.tmod_eq_emod_of_nonneg h)
  · have h1 : n.tmod 1000003 = -((-n) % 1000003) := by
      have h2 : n = -(-n) := by omega
      rw [h2, Int.neg_tmod, Int.tmod_eq_emod_of_nonneg (by omega), Int.neg_neg]
    rw [h1]; omega
def keep233 : List Nat := [0, 2]
def ib233 : List Nat := []
def mk233 : Marks := fun _ => ([], .nil, [])
theorem Residue (n : Int) : Fn0 Tryz.prog 233 [I n] (I (n % 1000003)) := by
  refine fn0F 7 keep233 ib233 mk233 mix Tryz.func233 rfl (by kernel_rfl) (by simp) fun h => ?_
  simp (maxSteps := 1000000) -dsimp -implicitDefEqProofs only [go_sem, ↓reduceIte, keep233, ib233, mk233, Tryz.f233]
  rcases tmodP n with h | h
  all_goals
    rw [h, IntWalk.i64_in _ (by omega), Int.tmod_eq_emod_of_nonneg (by omega)]
    omega
def keep165 : List Nat := [0, 2, 3, 7]
def ib165 : List Nat := []
def mk165 : Marks := fun _ => ([], .nil, [])
theorem specResidue (n : Int) : Fn0 Tryz.prog 165 [I n] (I (n % 1000003)) := by
  refine fn0F 11 keep165 ib165 mk165 mix Tryz.func165 rfl (by kernel_rfl) (by simp) fun h => ?_
  simp (maxSteps := 1000000) -dsimp -implicitDefEqProofs only [go_sem, ↓reduceIte, keep165, ib165, mk165, Tryz.f165]
  rcases tmodP n with h | h
  all_goals
    rw [h]
    refine ⟨fun q => ?_, fun q => ?_⟩
    all_goals first | omega | (rw [IntWalk.i64_in _ (by omega)]; omega)
def keep144 : List Nat := [0, 1, 4]
def ib144 : List Nat := []
def mk144 : Marks := fun _ => ([], .nil, [])
theorem Plus (a b : Int) : Fn0 Tryz.prog 144 [I a, I b] (I ((a + b) % 1000003)) := by
  refine fn0F 11 keep144 ib144 mk144 mix Tryz.func144 rfl (by kernel_rfl) (by simp) fun h => ?_
  simp (maxSteps := 1000000) -dsimp -implicitDefEqProofs only [go_sem, ↓reduceIte, keep144, ib144, mk144, Tryz.f144]
  first | refine HFnF.mk (Residue a) ?_ | refine CallSF.mk (Residue a) ?_ | refine HFnF.mkAt (Residue a) ?_ | refine CallSF.mk (FnAt.fn0 (Residue a)) ?_
  simp (maxSteps := 1000000) -dsimp -implicitDefEqProofs only [go_sem, ↓reduceIte, keep144, ib144, mk144, Tryz.f144]
  first | refine HFnF.mk (Residue b) ?_ | refine CallSF.mk (Residue b) ?_ | refine HFnF.mkAt (Residue b) ?_ | refine CallSF.mk (FnAt.fn0 (Residue b)) ?_
  simp (maxSteps := 1000000) -dsimp -implicitDefEqProofs only [go_sem, ↓reduceIte, keep144, ib144, mk144, Tryz.f144]
  rw [IntWalk.i64_in _ (by omega), Int.tmod_eq_emod_of_nonneg (by omega)]
  omega
def keep143 : List Nat := [0, 1, 4]
def ib143 : List Nat := []
def mk143 : Marks := fun _ => ([], .nil, [])
theorem specPlus (a b : Int) : Fn0 Tryz.prog 143 [I a, I b] (I ((a + b) % 1000003)) := by
  refine fn0F 11 keep143 ib143 mk143 mix Tryz.func143 rfl (by kernel_rfl) (by simp) fun h => ?_
  simp (maxSteps := 1000000) -dsimp -implicitDefEqProofs only [go_sem, ↓reduceIte, keep143, ib143, mk143, Tryz.f143]
  first | refine HFnF.mk (specResidue a) ?_ | refine CallSF.mk (specResidue a) ?_ | refine HFnF.mkAt (specResidue a) ?_ | refine CallSF.mk (FnAt.fn0 (specResidue a)) ?_
  simp (maxSteps := 1000000) -dsimp -implicitDefEqProofs only [go_sem, ↓reduceIte, keep143, ib143, mk143, Tryz.f143]
  first | refine HFnF.mk (specResidue b) ?_ | refine CallSF.mk (specResidue b) ?_ | refine HFnF.mkAt (specResidue b) ?_ | refine CallSF.mk (FnAt.fn0 (specResidue b)) ?_
  simp (maxSteps := 1000000) -dsimp -implicitDefEqProofs only [go_sem, ↓reduceIte, keep143, ib143, mk143, Tryz.f143]
  rw [IntWalk.i64_in _ (by omega), Int.tmod_eq_emod_of_nonneg (by omega)]
  omega
/-- The sums of parts, and the first code that is not OK. -/
def addL (a b : List Int) : List Int := List.zipWith (fun x y => (x + y) % 1000003) a b
theorem addL_len {a b : List Int} (h : b.length = a.length) : (addL a b).length = a.length := by simp [addL, h]
def keep90 : List Nat := [0, 1, 4, 5, 6, 11, 12, 13]
def ib90 : List Nat := []
def mk90 : Marks := fun id => match id with | 5 => ([13], (.op 0 (.op 1 (.op 2 (.op 3 (.op 4 (.op 5 (.op 6 (.op 7 (.op 8 (.op 9 (.op 10 (.op 11 (.op 12 (.op 13 .nil)))))))))))))), []) | _ => ([], .nil, [])
set_option maxRecDepth 100000 in
theorem added (a b : List Int) (hab : b.length = a.length) (hl : a.length ≤ 1048576) (ha : ∀ x ∈ a, 0 ≤ x ∧ x < 1000003) (hb : ∀ x ∈ b, 0 ≤ x ∧ x < 1000003) : FnN Tryz.prog 90 [sls 1 (fun n => [I n]) a, sls 1 (fun n => [I n]) b] (QS (OS (oP I) 1 (addL a b))) := by
  refine fnNF 30 keep90 ib90 mk90 mix Tryz.func90 rfl (by kernel_rfl) (by simp) fun h => ?_
  simp (maxSteps := 1000000) -dsimp -implicitDefEqProofs only [go_sem, ↓reduceIte, keep90, ib90, mk90, Tryz.f90]
  intro _
  refine ⟨Nat.zero_lt_one, Nat.le_refl _, by omega, by omega, fun n hn _ => ?_⟩
  have hc := addL_len hab
  rw [rowZero]
  refine loopRow (keep := keep90) (ib := ib90) (mk := mk90) mix (by kernel_rfl) (fun k : Nat => [(0, sls 1 (fun n => [I n]) a), (1, sls 1 (fun n => [I n]) b), (5, .os n 1 0 a.length), (11, I a.length), (12, I k)]) n (fun k => .row 1 (((upL (addL a b) k).map fun n => [I n]).map (List.map .v))) (fun k => k ≤ a.length) (fun k => a.length - k) 0 ⟨by simp [SatL, tget], by rw [upd_same, upL_zero, hc], Nat.zero_le _⟩ ?_
  intro k hk
  rcases Nat.lt_or_ge k a.length with hlt | hge
  · have ea : a[k]? = some a[k] := List.getElem?_eq_getElem hlt
    have eb : b[k]? = some b[k] := List.getElem?_eq_getElem (by omega)
    have eu := upL_get (c := addL a b) (k := k) (by omega)
    have el := upL_len (addL a b) (k := k) (by omega)
    simp (maxSteps := 1000000) -dsimp -implicitDefEqProofs only [go_sem, ↓reduceIte, keep90, ib90, mk90, Tryz.f90, upd_upd, hlt, ea, eb, eu, el, hc]
    have h1 := ha _ (List.getElem_mem hlt)
    have h2 := hb b[k] (List.getElem_mem (by omega))
    refine ⟨by omega, k + 1, by rw [IntWalk.i64_in _ (by omega)]; rfl, ?_, by omega, by omega⟩
    have hv : (addL a b)[k]'(by omega) = (a[k] + b[k]) % 1000003 := by simp [addL]
    rw [IntWalk.i64_in _ (by omega), Int.tmod_eq_emod_of_nonneg (by omega), ← upL_set (by omega), hv, ← rowSet I]
    exact Heap.le_refl _
  · have hk' : k = a.length := by omega
    subst hk'
    simp (maxSteps := 1000000) -dsimp -implicitDefEqProofs only [go_sem, ↓reduceIte, keep90, ib90, mk90, Tryz.f90, upd_upd, Nat.lt_irrefl]
    have hu : upL (addL a b) a.length = addL a b := by rw [← hc]; exact upL_all _
    rw [hu, show a.length = (addL a b).length from hc.symm]
    exact own_row hn
open Go.Proofs
set_option linter.unusedVariables false
set_option linter.unusedSimpArgs false
/-! ### series -/
def serOK (n : Nat) (s : List Int) : Prop := s.length = n ∧ Nums s
def sclL (a : List Int) (n : Int) : List Int := a.map fun x => x * n % 1000003
def subL (a b : List Int) : List Int := addL a (sclL b 1000002)
def cvS (a b : List Int) (k : Nat) : Nat → Int
  | 0 => 0
  | i + 1 => (cvS a b k i + a.getD i 0 * b.getD (k - i) 0) % 1000003
def mulL (a b : List Int) : List Int := (List.range a.length).map fun k => cvS a b k (k + 1)
def pwN (b : Int) (n : Nat) : Int := b ^ n % 1000003
def invN (x : Int) : Int := pwN (x % 1000003) 1000001
def dvS (o b : List Int) (k : Nat) (r : Int) : Nat → Int
  | 0 => r
  | i + 1 => (dvS o b k r i - o.getD i 0 * b.getD (k - i) 0) % 1000003
def divN (a b : List Int) : Nat → List Int
  | 0 => []
  | k + 1 => divN a b k ++ [dvS (divN a b k) b k (a.getD k 0) k * invN (b.getD 0 0) % 1000003]
def divL (a b : List Int) : List Int := divN a b a.length
def constL (n : Int) (sz : Nat) : List Int := (List.replicate sz 0).set 0 n
/-! ### evaluation -/
def dE : DExpr := .mk 0 0 0 0 []
def DExpr.kid (e : DExpr) (i : Nat) : DExpr := e.fKids.getD i dE
def DProgram.outs (p : DProgram) (f : Int) : List DExpr := ((p.fFuncs[f.toNat]?).map (·.fOuts)).getD []
def DProgram.out (p : DProgram) (f i : Int) : DExpr := (p.outs f).getD i.toNat dE
abbrev Out (α : Type) := Except Int (α × Nat)
def Out.andThen {α β : Type} (x : Out α) (f : α → Nat → Out β) : Out β := match x with
  | .ok (a, t) => f a t
  | .error c => .error c
def seqE (ev : Nat → DExpr → Out (List Int)) : List DExpr → Nat → Out (List (List Int))
  | [], t => .ok ([], t)
  | e :: l, t => (ev t e).andThen fun v t => (seqE ev l t).andThen fun vs t => .ok (v :: vs, t)
def iterE (f : List (List Int) → Nat → Out (List (List Int))) : Nat → List (List Int) → Nat → Out (List (List Int))
  | 0, vs, t => .ok (vs, t)
  | n + 1, vs, t => (f vs t).andThen fun vs t => iterE f n vs t
def opE (k : Int) (vs : List (List Int)) (t : Nat) : Out (List Int) :=
  if k = 3 then .ok (addL (vs.getD 0 []) (vs.getD 1 []), t)
  else if k = 4 then .ok (subL (vs.getD 0 []) (vs.getD 1 []), t)
  else if k = 5 then .ok (mulL (vs.getD 0 []) (vs.getD 1 []), t)
  else if k = 7 then .ok (sclL (vs.getD 0 []) 1000002, t)
  else if (vs.getD 1 []).getD 0 0 = 0 then .error 6
  else .ok (divL (vs.getD 0 []) (vs.getD 1 []), t)
/-- An expression's value, and the steps made: n is fuel, t the steps before. -/
def evE (p : DProgram) (sz : Nat) : Nat → Nat → DExpr → List (List Int) → Out (List Int)
  | 0, _, _, _ => .error 7
  | n + 1, t, e, env =>
    if t = 3000 then .error 7
    else if e.fKind = 1 then .ok (constL e.fNum sz, t + 1)
    else if e.fKind = 2 then .ok (env.getD e.fNum.toNat [], t + 1)
    else if e.fKind = 8 then (evE p sz n (t + 1) (e.kid 0) env).andThen fun c t => if c.getD 0 0 = 0 then evE p sz n t (e.kid 1) env else evE p sz n t (e.kid 2) env
    else if e.fKind = 9 then (evE p sz n (t + 1) (e.kid 0) env).andThen fun v t => evE p sz n t (e.kid 1) (env ++ [v])
    else (seqE (fun t e => evE p sz n t e env) e.fKids (t + 1)).andThen fun vs t =>
      if e.fKind = 10 then evE p sz n t (p.out e.fNum e.fPick) vs
      else if e.fKind = 11 then (iterE (fun vs t => seqE (fun t e => evE p sz n t e vs) (p.outs e.fNum) t) e.fCount.toNat vs t).andThen fun vs t => .ok (vs.getD e.fPick.toNat [], t)
      else opE e.fKind vs t
/-- What a walk's end says of an outcome: the value counts where there is no error. -/
def outR {α : Type} (X : Out α) (v : α) (t : Nat) (c : Int) : Prop := match X with
  | .ok (w, u) => c = 0 ∧ v = w ∧ t = u
  | .error d => c = d ∧ d ≠ 0
/-- The outcome behind a code. -/
def runE {α : Type} (c : Int) (X : Out α) : Out α := if c = 0 then X else .error c
theorem runE_zero {α : Type} (X : Out α) : runE 0 X = X := if_pos rfl
theorem runE_ne {α : Type} {c : Int} (X : Out α) (h : ¬ c = 0) : runE c X = .error c := if_neg h
theorem outR_err {α : Type} {c : Int} (v : α) (t : Nat) (h : ¬ c = 0) : outR (.error c : Out α) v t c := ⟨rfl, h⟩
theorem outR_ok {α : Type} (v : α) (t : Nat) : outR (.ok (v, t) : Out α) v t 0 := ⟨rfl, rfl, rfl⟩
theorem outR_init {α : Type} (v : α) (t : Nat) (c : Int) : outR (runE c (.ok (v, t))) v t c := by
  by_cases e : c = 0
  · subst e; rw [runE_zero]; exact outR_ok v t
  · rw [runE_ne _ e]; exact outR_err v t e
theorem outR.then {α β : Type} {X : Out α} {F : α → Nat → Out β} {v : α} {t : Nat} {c : Int} {v2 : β} {t2 : Nat} {c2 : Int} (h : outR X v t c) (h2 : outR (runE c (F v t)) v2 t2 c2) : outR (X.andThen F) v2 t2 c2 := by
  cases X with
  | ok p =>
    obtain ⟨w, u⟩ := p
    obtain ⟨rfl, rfl, rfl⟩ := h
    rw [runE_zero] at h2
    exact h2
  | error d =>
    obtain ⟨rfl, h⟩ := h
    rw [runE_ne _ h] at h2
    exact h2
theorem outR.err {α : Type} {X : Out α} {v : α} {t : Nat} {c : Int} (h : outR X v t c) (hc : ¬ c = 0) : X = .error c := by
  cases X with
  | ok p => exact absurd h.1 hc
  | error d => rw [h.1]
theorem outR.thenC {α β : Type} {c0 : Int} {X : Out α} {F : α → Nat → Out β} {v : α} {t : Nat} {c : Int} {v2 : β} {t2 : Nat} {c2 : Int} (h : outR (runE c0 X) v t c) (h2 : outR (runE c (F v t)) v2 t2 c2) : outR (runE c0 (X.andThen F)) v2 t2 c2 := by
  by_cases e : c0 = 0
  · subst e
    rw [runE_zero] at h ⊢
    exact h.then h2
  · rw [runE_ne _ e] at h ⊢
    obtain ⟨rfl, h⟩ := h
    rw [runE_ne _ h] at h2
    exact h2
theorem outR.code0 {α : Type} {c0 : Int} {X : Out α} {v : α} {t : Nat} {c : Int} (h : outR (runE c0 X) v t c) (hc : c = 0) : c0 = 0 := by
  by_cases e : c0 = 0
  · exact e
  · rw [runE_ne _ e] at h
    exact h.1.symm.trans hc
theorem Out.andThen_assoc {α β γ : Type} (x : Out α) (f : α → Nat → Out β) (g : β → Nat → Out γ) : (x.andThen f).andThen g = x.andThen fun a t => (f a t).andThen g := by
  cases x <;> rfl
theorem Out.andThen_ok {α β : Type} (a : α) (t : Nat) (f : α → Nat → Out β) : Out.andThen (.ok (a, t)) f = f a t := rfl
theorem seqE_snoc (ev : Nat → DExpr → Out (List Int)) (e : DExpr) : ∀ (l : List DExpr) (t : Nat), seqE ev (l ++ [e]) t = (seqE ev l t).andThen fun vs t => (ev t e).andThen fun v t => .ok (vs ++ [v], t)
  | [], t => rfl
  | x :: l, t => by
    simp only [List.cons_append, seqE, seqE_snoc ev e l, Out.andThen_assoc, Out.andThen_ok]
theorem iterE_snoc (f : List (List Int) → Nat → Out (List (List Int))) : ∀ (n : Nat) (vs : List (List Int)) (t : Nat), iterE f (n + 1) vs t = (iterE f n vs t).andThen f
  | 0, vs, t => by
    show (f vs t).andThen (fun vs t => .ok (vs, t)) = f vs t
    cases f vs t with
    | ok p => rfl
    | error c => rfl
  | n + 1, vs, t => by
    show (f vs t).andThen (fun vs t => iterE f (n + 1) vs t) = ((f vs t).andThen fun vs t => iterE f n vs t).andThen f
    rw [Out.andThen_assoc]
    congr 1
    funext a t
    exact iterE_snoc f n a t
theorem iterE_err {f : List (List Int) → Nat → Out (List (List Int))} {vs : List (List Int)} {t : Nat} {c : Int} : ∀ (n k : Nat), k ≤ n → iterE f k vs t = .error c → iterE f n vs t = .error c
  | 0, k, hk, h => by
    have : k = 0 := by omega
    subst this; exact h
  | n + 1, k, hk, h => by
    rcases Nat.lt_or_ge k (n + 1) with hlt | hge
    · rw [iterE_snoc, iterE_err n k (by omega) h]; rfl
    · have : k = n + 1 := by omega
      subst this; exact h
/-! ### series: sizes and numbers -/
theorem num_mod (n : Int) : Num (n % 1000003) := by unfold Num; omega
theorem serOK.len {n : Nat} {s : List Int} (h : serOK n s) : s.length = n := h.1
theorem serOK_add {n : Nat} {a b : List Int} (ha : serOK n a) (hb : serOK n b) : serOK n (addL a b) := by
  refine ⟨by simp [addL, ha.1, hb.1], fun x hx => ?_⟩
  obtain ⟨i, hi, rfl⟩ := List.mem_iff_getElem.1 hx
  simp only [addL, List.getElem_zipWith]
  exact num_mod _
theorem serOK_scl {n : Nat} {a : List Int} (k : Int) (ha : serOK n a) : serOK n (sclL a k) := by
  refine ⟨by simp [sclL, ha.1], fun x hx => ?_⟩
  obtain ⟨y, _, rfl⟩ := List.mem_map.1 hx
  exact num_mod _
theorem serOK_sub {n : Nat} {a b : List Int} (ha : serOK n a) (hb : serOK n b) : serOK n (subL a b) := serOK_add ha (serOK_scl _ hb)
theorem num_cv (a b : List Int) (k : Nat) : ∀ i, Num (cvS a b k i)
  | 0 => by unfold cvS Num; omega
  | i + 1 => num_mod _
theorem serOK_mul {n : Nat} {a : List Int} (b : List Int) (ha : serOK n a) : serOK n (mulL a b) := by
  refine ⟨by simp [mulL, ha.1], fun x hx => ?_⟩
  obtain ⟨k, _, rfl⟩ := List.mem_map.1 hx
  exact num_cv _ _ _ _
theorem divN_len (a b : List Int) : ∀ k, (divN a b k).length = k
  | 0 => rfl
  | k + 1 => by rw [divN, List.length_append, divN_len a b k]; rfl
theorem nums_div (a b : List Int) : ∀ k, Nums (divN a b k)
  | 0 => fun x hx => by cases hx
  | k + 1 => fun x hx => by
    rw [divN, List.mem_append, List.mem_singleton] at hx
    rcases hx with hx | rfl
    · exact nums_div a b k x hx
    · exact num_mod _
theorem serOK_div {n : Nat} {a : List Int} (b : List Int) (ha : serOK n a) : serOK n (divL a b) := ⟨by rw [divL, divN_len, ha.1], nums_div _ _ _⟩
theorem serOK_const {n : Int} {sz : Nat} (h : Num n) : serOK sz (constL n sz) := by
  refine ⟨by simp [constL], fun x hx => ?_⟩
  rw [constL] at hx
  rcases List.mem_or_eq_of_mem_set hx with hx | rfl
  · have := (List.mem_replicate.1 hx).2
    subst this; unfold Num; omega
  · exact h
theorem Nums.get {l : List Int} (h : Nums l) (i : Nat) : Num (l.getD i 0) := by
  rw [List.getD_eq_getElem?_getD]
  rcases Nat.lt_or_ge i l.length with hi | hi
  · rw [List.getElem?_eq_getElem hi]; exact h _ (List.getElem_mem hi)
  · rw [List.getElem?_eq_none hi]; unfold Num; simp
/-! ### the first numbers of series do not depend on the rest -/
def hR (s s' : List Int) : Prop := (s = [] ∧ s' = []) ∨ ∃ x a b, s = x :: a ∧ s' = x :: b
theorem hR_nil : hR [] [] := .inl ⟨rfl, rfl⟩
theorem hR.hd {s s' : List Int} (h : hR s s') : s.getD 0 0 = s'.getD 0 0 := by
  rcases h with ⟨rfl, rfl⟩ | ⟨x, a, b, rfl, rfl⟩ <;> rfl
/-- Lists of series with the same first numbers. -/
def eR : List (List Int) → List (List Int) → Prop
  | [], [] => True
  | s :: l, s' :: l' => hR s s' ∧ eR l l'
  | _, _ => False
theorem eR.get : ∀ {l l' : List (List Int)}, eR l l' → ∀ i, hR (l.getD i []) (l'.getD i [])
  | [], [], _, i => by simp [hR_nil]
  | s :: l, s' :: l', h, 0 => h.1
  | s :: l, s' :: l', h, i + 1 => by simpa using eR.get h.2 i
  | [], _ :: _, h, _ => h.elim
  | _ :: _, [], h, _ => h.elim
theorem eR.len : ∀ {l l' : List (List Int)}, eR l l' → l.length = l'.length
  | [], [], _ => rfl
  | s :: l, s' :: l', h => by simp [eR.len h.2]
  | [], _ :: _, h => h.elim
  | _ :: _, [], h => h.elim
/-- Outcomes that differ behind the first numbers only. -/
def oR {α : Type} (R : α → α → Prop) (X Y : Out α) : Prop := match X, Y with
  | .ok (v, t), .ok (v', t') => R v v' ∧ t = t'
  | .error c, .error c' => c = c'
  | _, _ => False
theorem oR.bind {α β : Type} {R : α → α → Prop} {S : β → β → Prop} {X Y : Out α} {F G : α → Nat → Out β} (h : oR R X Y) (hf : ∀ v v' t, R v v' → oR S (F v t) (G v' t)) : oR S (X.andThen F) (Y.andThen G) := by
  cases X with
  | ok p =>
    cases Y with
    | ok q =>
      obtain ⟨v, t⟩ := p
      obtain ⟨v', t'⟩ := q
      obtain ⟨h1, rfl⟩ := h
      exact hf _ _ _ h1
    | error c => exact h.elim
  | error c =>
    cases Y with
    | ok q => exact h.elim
    | error d => exact h
theorem oR.pure {α : Type} {R : α → α → Prop} {v v' : α} {t : Nat} (h : R v v') : oR R (.ok (v, t)) (.ok (v', t)) := ⟨h, rfl⟩
/-- All outputs of a function. -/
def evF (p : DProgram) (sz : Nat) (f : Int) (args : List (List Int)) : Out (List (List Int)) := seqE (fun t e => evE p sz 3001 t e args) (p.outs f) 0
/-! ### powers -/
theorem pw_mod (b : Int) : ∀ n : Nat, (b % 1000003) ^ n % 1000003 = b ^ n % 1000003
  | 0 => by rw [Int.pow_zero, Int.pow_zero]
  | n + 1 => by
    rw [Int.pow_succ, Int.pow_succ, Int.mul_emod, pw_mod b n, Int.emod_emod_of_dvd _ (Int.dvd_refl _), ← Int.mul_emod]
theorem pw_step (x b : Int) (n : Nat) : x * b ^ n % 1000003 = (if n % 2 = 1 then x * b % 1000003 else x) * (b * b % 1000003) ^ (n / 2) % 1000003 := by
  have h2 : b ^ n = (b * b) ^ (n / 2) * b ^ (n % 2) := by
    rw [show b * b = b ^ 2 by rw [Int.pow_succ, Int.pow_succ, Int.pow_zero, Int.one_mul], ← Int.pow_mul, ← Int.pow_add]
    congr 1; omega
  have h3 : ∀ y : Int, y * (b * b % 1000003) ^ (n / 2) % 1000003 = y * (b * b) ^ (n / 2) % 1000003 := fun y => by
    rw [Int.mul_emod, pw_mod, ← Int.mul_emod]
  rw [h3, h2]
  split
  · rename_i h
    rw [h, Int.pow_succ, Int.pow_zero, Int.one_mul, Int.mul_emod (x * b % 1000003), Int.emod_emod_of_dvd _ (Int.dvd_refl _), ← Int.mul_emod]
    congr 1
    rw [Int.mul_comm ((b * b) ^ (n / 2)) b, Int.mul_assoc]
  · rename_i h
    have : n % 2 = 0 := by omega
    rw [this, Int.pow_zero, Int.mul_one]
theorem pw_done (x b : Int) (hx : 0 ≤ x ∧ x < 1000003) : x * b ^ 0 % 1000003 = x := by
  rw [Int.pow_zero, Int.mul_one]; omega
theorem pw_odd {x b m T : Int} (hm : 0 ≤ m) (h : m % 2 = 1) (hp : x * b ^ m.toNat % 1000003 = T) : (x * b % 1000003) * (b * b % 1000003) ^ (m / 2).toNat % 1000003 = T := by
  rw [← hp, pw_step x b m.toNat, if_pos (by omega), show (m / 2).toNat = m.toNat / 2 by omega]
theorem pw_even {x b m T : Int} (hm : 0 ≤ m) (h : ¬ m % 2 = 1) (hp : x * b ^ m.toNat % 1000003 = T) : x * (b * b % 1000003) ^ (m / 2).toNat % 1000003 = T := by
  rw [← hp, pw_step x b m.toNat, if_neg (by omega), show (m / 2).toNat = m.toNat / 2 by omega]
theorem modP (y : Int) : 0 ≤ y % 1000003 ∧ y % 1000003 < 1000003 := by omega
theorem getD_get {l : List Int} {i : Nat} (h : i < l.length) : l[i]? = some (l.getD i 0) := by
  rw [List.getD_eq_getElem?_getD, List.getElem?_eq_getElem h]; rfl
theorem num_inv (x : Int) : Num (invN x) := num_mod _
theorem num_dv (o b : List Int) (k : Nat) {r : Int} (hr : Num r) : ∀ i, Num (dvS o b k r i)
  | 0 => hr
  | i + 1 => num_mod _
theorem divN_take (a b : List Int) {k : Nat} : ∀ n, k ≤ n → (divN a b n).take k = divN a b k
  | 0, h => by
    have : k = 0 := by omega
    subst this; rfl
  | n + 1, h => by
    rcases Nat.lt_or_ge k (n + 1) with h1 | h1
    · rw [divN, List.take_append_of_le_length (by rw [divN_len]; omega), divN_take a b n (by omega)]
    · have : k = n + 1 := by omega
      subst this
      rw [List.take_of_length_le (by rw [divN_len]; omega)]
theorem divL_len (a b : List Int) : (divL a b).length = a.length := divN_len _ _ _
theorem upL_div (a b : List Int) {k : Nat} (hk : k ≤ a.length) : upL (divL a b) k = divN a b k ++ List.replicate (a.length - k) 0 := by
  rw [upL, divL_len, divL, divN_take a b _ hk]
theorem upL_div_get {a b : List Int} {k i : Nat} (hk : k ≤ a.length) (hi : i < k) : (upL (divL a b) k)[i]? = some ((divN a b k).getD i 0) := by
  rw [upL_div a b hk, List.getElem?_append_left (by rw [divN_len]; exact hi)]
  exact getD_get (by rw [divN_len]; exact hi)
theorem divL_get {a b : List Int} {k : Nat} (hk : k < a.length) : (divL a b)[k]'(by rw [divL_len]; exact hk) = dvS (divN a b k) b k (a.getD k 0) k * invN (b.getD 0 0) % 1000003 := by
  have h := upL_div_get (a := a) (b := b) (k := k + 1) (i := k) (by omega) (by omega)
  have h2 : (divN a b (k + 1)).getD k 0 = dvS (divN a b k) b k (a.getD k 0) k * invN (b.getD 0 0) % 1000003 := by
    rw [divN, List.getD_eq_getElem?_getD, List.getElem?_append_right (by rw [divN_len]; omega), divN_len, Nat.sub_self]; rfl
  rw [h2, upL, List.getElem?_append_left (by rw [List.length_take, divL_len]; omega), List.getElem?_take_of_lt (by omega), List.getElem?_eq_getElem (by rw [divL_len]; exact hk)] at h
  exact Option.some.inj h
theorem num_mul {x y : Int} (hx : Num x) (hy : Num y) : 0 ≤ x * y ∧ x * y ≤ 1000004000004 := by
  refine ⟨Int.mul_nonneg hx.1 hy.1, ?_⟩
  have := Int.mul_le_mul hx.2 hy.2 hy.1 (by omega)
  omega
theorem sclL_len (a : List Int) (n : Int) : (sclL a n).length = a.length := by simp [sclL]
theorem mulL_len (a b : List Int) : (mulL a b).length = a.length := by simp [mulL]
theorem nums_lt {l : List Int} (h : Nums l) : ∀ x ∈ l, 0 ≤ x ∧ x < 1000003 := fun x hx => by have := h x hx; unfold Num at this; omega
theorem wmod {n : Int} (h0 : 0 ≤ n) (h1 : n ≤ 9223372036854775807) : (IntKind.i64.wrap n).tmod 1000003 = n % 1000003 := by
  rw [IntWalk.i64_in _ (by omega), Int.tmod_eq_emod_of_nonneg h0]
theorem upL_set0 {c : List Int} {k : Nat} (hk : k < c.length) : (upL c k).set k 0 = upL c k := by
  have h := upL_get hk
  apply List.ext_getElem?
  intro i
  rw [List.getElem?_set]
  split
  · subst_vars
    split
    · exact h.symm
    · rename_i h2
      rw [List.getElem?_eq_none (by omega)]
  · rfl
theorem evE_1 {p : DProgram} {sz n st : Nat} {e : DExpr} {env : List (List Int)} (h3 : ¬ st = 3000) (hk : e.fKind = 1) : evE p sz (n + 1) st e env = .ok (constL e.fNum sz, st + 1) := by rw [evE, if_neg h3, if_pos hk]
theorem evE_2 {p : DProgram} {sz n st : Nat} {e : DExpr} {env : List (List Int)} (h3 : ¬ st = 3000) (hk : e.fKind = 2) : evE p sz (n + 1) st e env = .ok (env.getD e.fNum.toNat [], st + 1) := by rw [evE, if_neg h3, if_neg (by omega), if_pos hk]
theorem evE_8 {p : DProgram} {sz n st : Nat} {e : DExpr} {env : List (List Int)} (h3 : ¬ st = 3000) (hk : e.fKind = 8) : evE p sz (n + 1) st e env = (evE p sz n (st + 1) (e.kid 0) env).andThen fun c t => if c.getD 0 0 = 0 then evE p sz n t (e.kid 1) env else evE p sz n t (e.kid 2) env := by rw [evE, if_neg h3, if_neg (by omega), if_neg (by omega), if_pos hk]
theorem evE_9 {p : DProgram} {sz n st : Nat} {e : DExpr} {env : List (List Int)} (h3 : ¬ st = 3000) (hk : e.fKind = 9) : evE p sz (n + 1) st e env = (evE p sz n (st + 1) (e.kid 0) env).andThen fun v t => evE p sz n t (e.kid 1) (env ++ [v]) := by rw [evE, if_neg h3, if_neg (by omega), if_neg (by omega), if_neg (by omega), if_pos hk]
theorem evE_10 {p : DProgram} {sz n st : Nat} {e : DExpr} {env : List (List Int)} (h3 : ¬ st = 3000) (hk : e.fKind = 10) : evE p sz (n + 1) st e env = (seqE (fun t e => evE p sz n t e env) e.fKids (st + 1)).andThen fun vs t => evE p sz n t (p.out e.fNum e.fPick) vs := by
  rw [evE, if_neg h3, if_neg (by omega), if_neg (by omega), if_neg (by omega), if_neg (by omega)]; simp only [if_pos hk]
theorem evE_11 {p : DProgram} {sz n st : Nat} {e : DExpr} {env : List (List Int)} (h3 : ¬ st = 3000) (hk : e.fKind = 11) : evE p sz (n + 1) st e env = (seqE (fun t e => evE p sz n t e env) e.fKids (st + 1)).andThen fun vs t => (iterE (fun vs t => seqE (fun t e => evE p sz n t e vs) (p.outs e.fNum) t) e.fCount.toNat vs t).andThen fun vs t => .ok (vs.getD e.fPick.toNat [], t) := by
  have h : ¬ e.fKind = 10 := by omega
  rw [evE, if_neg h3, if_neg (by omega), if_neg (by omega), if_neg (by omega), if_neg (by omega)]; simp only [if_neg h, if_pos hk]
theorem evE_op {p : DProgram} {sz n st : Nat} {e : DExpr} {env : List (List Int)} (h3 : ¬ st = 3000) (hk : e.fKind = 3 ∨ e.fKind = 4 ∨ e.fKind = 5 ∨ e.fKind = 6 ∨ e.fKind = 7) : evE p sz (n + 1) st e env = (seqE (fun t e => evE p sz n t e env) e.fKids (st + 1)).andThen fun vs t => opE e.fKind vs t := by
  have h : ¬ e.fKind = 10 := by omega
  have h2 : ¬ e.fKind = 11 := by omega
  rw [evE, if_neg h3, if_neg (by omega), if_neg (by omega), if_neg (by omega), if_neg (by omega)]; simp only [if_neg h, if_neg h2]
theorem DExpr.kid_get {e : DExpr} {i : Nat} (h : i < e.fKids.length) : e.fKids[i]? = some (e.kid i) := by
  rw [DExpr.kid, List.getD_eq_getElem?_getD, List.getElem?_eq_getElem h]; rfl
theorem DExpr.kid_eq {e : DExpr} {i : Nat} (h : i < e.fKids.length) : e.kid i = e.fKids[i] := by
  have := DExpr.kid_get h
  rw [List.getElem?_eq_getElem h] at this
  exact (Option.some.inj this).symm
theorem DExpr.kid_ok {p : DProgram} {funcs vars : Int} {e : DExpr} {i : Nat} (hok : e.ok p funcs vars) (h : i < e.fKids.length) : (e.kid i).ok p funcs (moreV e.fKind i vars) := by
  rw [DExpr.kid_eq h]; exact ((DExpr.ok_iff _ _ _ _).1 hok).2 i h
theorem DExpr.ld5 (x : DExpr) : (if 5 ≤ x.c.length then some (HVal.agg (List.take 5 x.c)) else none) = some (.agg x.c) := by
  rw [if_pos (by rw [DExpr.c_len]; exact Nat.le_refl _), List.take_of_length_le (by rw [DExpr.c_len]; exact Nat.le_refl _)]
theorem moreV_ne {k : Int} {i : Nat} {v : Int} (h : ¬ (k = 9 ∧ i = 1)) : moreV k i v = v := if_neg h
theorem serOK_get {sz : Nat} {env : List (List Int)} (h : ∀ s ∈ env, serOK sz s) {i : Nat} (hi : i < env.length) : serOK sz (env.getD i []) := by
  rw [List.getD_eq_getElem?_getD, List.getElem?_eq_getElem hi]; exact h _ (List.getElem_mem hi)
theorem env_get {env : List (List Int)} {i : Nat} (hi : i < env.length) : env[i]? = some (env.getD i []) := by
  rw [List.getD_eq_getElem?_getD, List.getElem?_eq_getElem hi]; rfl
theorem kids_len {p : DProgram} {funcs vars : Int} {e : DExpr} (hok : e.ok p funcs vars) (hk : ¬ (e.fKind = 10 ∨ e.fKind = 11)) : kidsN e.fKind = e.fKids.length := ((nodeOK_plain hk).1 ((DExpr.ok_iff _ _ _ _).1 hok).1).1
theorem kids_ok {p : DProgram} {funcs vars : Int} {e : DExpr} (hok : e.ok p funcs vars) (hk : ¬ e.fKind = 9) : ∀ x ∈ e.fKids, x.ok p funcs vars := fun x hx => by
  obtain ⟨i, hi, rfl⟩ := List.mem_iff_getElem.1 hx
  have := ((DExpr.ok_iff _ _ _ _).1 hok).2 i hi
  rwa [moreV_ne (fun q => hk q.1)] at this
/-- What is known of the function that a call or a loop calls. -/
structure CallF (p : DProgram) (e : DExpr) (f : DFunc) : Prop where
  get : p.fFuncs[e.fNum.toNat]? = some f
  lo : 0 ≤ e.fNum
  hi : e.fNum < p.fFuncs.length
  pk : 0 ≤ e.fPick
  pk2 : e.fPick.toNat < f.fOuts.length
  kids : (e.fKids.length : Int) = f.fParams
  params : 0 ≤ f.fParams ∧ f.fParams ≤ 12
  outs : 1 ≤ f.fOuts.length ∧ f.fOuts.length ≤ 12
  oks : ∀ x ∈ f.fOuts, x.ok p e.fNum f.fParams
  eq : p.outs e.fNum = f.fOuts
  out : f.fOuts[e.fPick.toNat]? = some (p.out e.fNum e.fPick)
  loop : e.fKind = 11 → 0 ≤ e.fCount ∧ e.fCount ≤ 8 ∧ (f.fOuts.length : Int) = f.fParams
theorem callsOf {p : DProgram} (hp : p.ok) {e : DExpr} {funcs vars : Int} (hok : e.ok p funcs vars) (hf : funcs ≤ p.fFuncs.length) (hk : e.fKind = 10 ∨ e.fKind = 11) : ∃ f, CallF p e f := by
  have h1 := ((DExpr.ok_iff _ _ _ _).1 hok).1
  have h2 := h1
  unfold nodeOK at h1
  rw [if_pos hk] at h1
  have hlt : e.fNum.toNat < p.fFuncs.length := by omega
  have ef : p.fFuncs[e.fNum.toNat]? = some p.fFuncs[e.fNum.toNat] := List.getElem?_eq_getElem hlt
  rw [nodeOK_call hk ef] at h2
  obtain ⟨n1, n2, n3, n4, n5, n6, n7⟩ := h2
  have hF := hp.2 _ _ ef
  have heq : p.outs e.fNum = p.fFuncs[e.fNum.toNat].fOuts := by rw [DProgram.outs, ef]; rfl
  refine ⟨_, ⟨ef, n1, by omega, n3, by omega, n5, hF.2.1, by have := hF.2.2.1; omega, fun x hx => ?_, heq, ?_, n7⟩⟩
  · have := (hF.2.2.2.2.2 x hx).2.2.2.2
    rwa [show ((e.fNum.toNat : Nat) : Int) = e.fNum by omega] at this
  · rw [DProgram.out, heq, List.getD_eq_getElem?_getD, List.getElem?_eq_getElem (by omega)]; rfl
/-! ### codes -/
def errP {α : Type} (X : Out α) : Prop := ∀ c, X = .error c → c = 6 ∨ c = 7
theorem errP.ok {α : Type} {v : α} {t : Nat} : errP (.ok (v, t) : Out α) := fun c h => by cases h
theorem errP.then {α β : Type} {X : Out α} {F : α → Nat → Out β} (h : errP X) (hf : ∀ v t, errP (F v t)) : errP (X.andThen F) := fun c hc => by
  cases X with
  | ok p => exact hf p.1 p.2 c hc
  | error d => exact h c (by cases hc; rfl)
theorem seqE_err {ev : Nat → DExpr → Out (List Int)} (h : ∀ t e, errP (ev t e)) : ∀ (l : List DExpr) (t : Nat), errP (seqE ev l t)
  | [], t => .ok
  | e :: l, t => (h t e).then fun v t => (seqE_err h l t).then fun vs t => .ok
theorem iterE_errP {f : List (List Int) → Nat → Out (List (List Int))} (h : ∀ vs t, errP (f vs t)) : ∀ (n : Nat) (vs : List (List Int)) (t : Nat), errP (iterE f n vs t)
  | 0, vs, t => .ok
  | n + 1, vs, t => (h vs t).then fun a t => iterE_errP h n a t
theorem opE_err (k : Int) (vs : List (List Int)) (t : Nat) : errP (opE k vs t) := by
  unfold opE
  repeat' split
  all_goals first | exact .ok | (intro c h; cases h; exact .inl rfl)
theorem evE_err (p : DProgram) (sz : Nat) : ∀ (n t : Nat) (e : DExpr) (env : List (List Int)), errP (evE p sz n t e env)
  | 0, t, e, env => fun c h => by rw [evE] at h; cases h; exact .inr rfl
  | n + 1, t, e, env => by
    have ih := evE_err p sz n
    rw [evE]
    split
    · intro c h; cases h; exact .inr rfl
    split
    · exact .ok
    split
    · exact .ok
    split
    · refine (ih _ _ _).then fun v t => ?_
      split
      · exact ih _ _ _
      · exact ih _ _ _
    split
    · exact (ih _ _ _).then fun v t => ih _ _ _
    refine (seqE_err (fun t e => ih t e env) _ _).then fun vs t => ?_
    split
    · exact ih _ _ _
    split
    · exact (iterE_errP (fun vs t => seqE_err (fun t e => ih t e vs) _ t) _ _ _).then fun vs t => .ok
    · exact opE_err _ _ _
theorem evF_err (p : DProgram) (sz : Nat) (f : Int) (args : List (List Int)) : errP (evF p sz f args) := seqE_err (fun t e => evE_err p sz 3001 t e args) _ _
/-! ### values are series -/
def okP {α : Type} (P : α → Prop) (X : Out α) : Prop := ∀ v u, X = .ok (v, u) → P v
theorem okP.then {α β : Type} {P : α → Prop} {Q : β → Prop} {X : Out α} {F : α → Nat → Out β} (h : okP P X) (hf : ∀ v t, P v → okP Q (F v t)) : okP Q (X.andThen F) := fun w u hw => by
  cases X with
  | ok p => obtain ⟨v, t⟩ := p; exact hf v t (h v t rfl) w u hw
  | error c => cases hw
theorem okP.pure {α : Type} {P : α → Prop} {v : α} {t : Nat} (h : P v) : okP P (.ok (v, t)) := fun w u e => by cases e; exact h
theorem okP.err {α : Type} {P : α → Prop} {c : Int} : okP P (.error c : Out α) := fun w u e => by cases e
def serL (sz n : Nat) (l : List (List Int)) : Prop := l.length = n ∧ ∀ s ∈ l, serOK sz s
theorem serL.get {sz n i : Nat} {l : List (List Int)} (h : serL sz n l) (hi : i < n) : serOK sz (l.getD i []) := by
  rw [List.getD_eq_getElem?_getD, List.getElem?_eq_getElem (by rw [h.1]; exact hi)]; exact h.2 _ (List.getElem_mem _)
theorem node_kind {p : DProgram} {e : DExpr} {vars funcs : Int} (h : nodeOK p e vars funcs) : e.fKind = 1 ∨ e.fKind = 2 ∨ e.fKind = 3 ∨ e.fKind = 4 ∨ e.fKind = 5 ∨ e.fKind = 6 ∨ e.fKind = 7 ∨ e.fKind = 8 ∨ e.fKind = 9 ∨ e.fKind = 10 ∨ e.fKind = 11 := by
  by_cases hk : e.fKind = 10 ∨ e.fKind = 11
  · omega
  · have h1 := ((nodeOK_plain hk).1 h).1
    unfold kidsN at h1
    repeat' (split at h1)
    all_goals omega
theorem func_ok {p : DProgram} (hp : p.ok) {f : Int} (hf : 0 ≤ f ∧ f < p.fFuncs.length) : ∃ F, p.fFuncs[f.toNat]? = some F ∧ (1 ≤ F.fOuts.length ∧ F.fOuts.length ≤ 12) ∧ (0 ≤ F.fParams ∧ F.fParams ≤ 12) ∧ p.outs f = F.fOuts ∧ ∀ x ∈ F.fOuts, x.ok p f F.fParams := by
  have hlt : f.toNat < p.fFuncs.length := by omega
  have ef : p.fFuncs[f.toNat]? = some p.fFuncs[f.toNat] := List.getElem?_eq_getElem hlt
  have hF := hp.2 _ _ ef
  refine ⟨_, ef, by have := hF.2.2.1; omega, hF.2.1, by rw [DProgram.outs, ef]; rfl, fun x hx => ?_⟩
  have := (hF.2.2.2.2.2 x hx).2.2.2.2
  rwa [show ((f.toNat : Nat) : Int) = f by omega] at this
end Go.Hl

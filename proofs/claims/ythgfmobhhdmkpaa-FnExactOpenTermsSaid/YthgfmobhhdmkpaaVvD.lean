/-
  Contracts of functions and laws of the layer over the walk.
-/
import Derived.Test.YthgfmobhhdmkpaaVvC
import Derived.Test.YthgfmobhhdmkpaaVvA
import Derived.Test.YthgfmobhhdmkpaaVvB
namespace Go.Hl
open Go.Proofs
set_option linter.unusedVariables false
set_option linter.unusedSimpArgs false
def exprOK (p : DProgram) (e : DExpr) (vars funcs : Int) : Prop := (0 ≤ vars ∧ vars ≤ 412) ∧ (0 ≤ funcs ∧ funcs ≤ p.fFuncs.length) ∧ (e.s : Int) + 1 ≤ 400 ∧ (e.d : Int) ≤ 60 ∧ e.ok p funcs vars
noncomputable instance (p : DProgram) (e : DExpr) (vars funcs : Int) : Decidable (exprOK p e vars funcs) := Classical.propDecidable _
def funcOK (p : DProgram) (k : Nat) (f : DFunc) : Prop := IsNm f.fName ∧ (0 ≤ f.fParams ∧ f.fParams ≤ 12) ∧ (1 ≤ (f.fOuts.length : Int) ∧ (f.fOuts.length : Int) ≤ 12) ∧ (∀ g ∈ p.fFuncs.take k, g.fName ≠ f.fName) ∧ (szs DExpr.s f.fOuts : Int) ≤ 400 ∧ ∀ e ∈ f.fOuts, exprOK p e f.fParams k
noncomputable instance (p : DProgram) (k : Nat) (f : DFunc) : Decidable (funcOK p k f) := Classical.propDecidable _
def DProgram.ok (p : DProgram) : Prop := (p.fFuncs.length : Int) ≤ 16 ∧ ∀ (k : Nat) (f : DFunc), p.fFuncs[k]? = some f → funcOK p k f
noncomputable instance (p : DProgram) : Decidable p.ok := Classical.propDecidable _
def keep112 : List Nat := [0, 2]
def ib112 : List Nat := []
def mk112 : Marks := fun _ => ([], [], [])
theorem l02Vars (n : Int) : Fn0 Try.prog 112 [I n] (.bool (decide (0 ≤ n ∧ n ≤ 412))) := by
  refine fn0F 5 keep112 ib112 mk112 mix Try.func112 rfl (by kernel_rfl) (by simp) fun h => ?_
  simp (maxSteps := 1000000) -dsimp -implicitDefEqProofs only [go_sem, ↓reduceIte, keep112, ib112, mk112, Try.f112]
  first | refine HFnF.mk (l00In n 0 412) ?_ | refine CallSF.mk (l00In n 0 412) ?_ | refine HFnF.mkAt (l00In n 0 412) ?_ | refine CallSF.mk (FnAt.fn0 (l00In n 0 412)) ?_
  simp (maxSteps := 1000000) -dsimp -implicitDefEqProofs only [go_sem, ↓reduceIte, keep112, ib112, mk112, Try.f112]
def keep108 : List Nat := [0, 2]
def ib108 : List Nat := []
def mk108 : Marks := fun _ => ([], [], [])
theorem areVars (n : Int) : Fn0 Try.prog 108 [I n] (.bool (decide (0 ≤ n ∧ n ≤ 412))) := by
  refine fn0F 5 keep108 ib108 mk108 mix Try.func108 rfl (by kernel_rfl) (by simp) fun h => ?_
  simp (maxSteps := 1000000) -dsimp -implicitDefEqProofs only [go_sem, ↓reduceIte, keep108, ib108, mk108, Try.f108]
  first | refine HFnF.mk (within n 0 412) ?_ | refine CallSF.mk (within n 0 412) ?_ | refine HFnF.mkAt (within n 0 412) ?_ | refine CallSF.mk (FnAt.fn0 (within n 0 412)) ?_
  simp (maxSteps := 1000000) -dsimp -implicitDefEqProofs only [go_sem, ↓reduceIte, keep108, ib108, mk108, Try.f108]
theorem lft_nonneg {left : Int} {n : Nat} : 0 ≤ lft left n ↔ (n : Int) ≤ left := by
  unfold lft; split <;> omega
def keep101 : List Nat := [0, 1, 2, 3, 8]
def ib101 : List Nat := []
def mk101 : Marks := fun _ => ([], [], [])
set_option maxRecDepth 100000 in
theorem l02Expr (p : DProgram) (e : DExpr) (vars funcs : Int) (hs : e.s ≤ 4294966296) (hps : p.s ≤ 4294967296) : Fn0 Try.prog 101 [.ip 1 [p.c] 0 0, .ip 5 [e.c] 0 0, I vars, I funcs] (.bool (decide (exprOK p e vars funcs))) := by
  simp only [DProgram.c_eq]
  refine fn0F 37 keep101 ib101 mk101 mix Try.func101 rfl (by kernel_rfl) (by simp) fun h => ?_
  simp (maxSteps := 1000000) -dsimp -implicitDefEqProofs only [go_sem, ↓reduceIte, keep101, ib101, mk101, Try.f101]
  first | refine HFnF.mk (l02Vars vars) ?_ | refine CallSF.mk (l02Vars vars) ?_ | refine HFnF.mkAt (l02Vars vars) ?_ | refine CallSF.mk (FnAt.fn0 (l02Vars vars)) ?_
  simp (maxSteps := 1000000) -dsimp -implicitDefEqProofs only [go_sem, ↓reduceIte, keep101, ib101, mk101, Try.f101]
  repeat' (with_reducible first | intro _ | refine And.intro ?_ ?_)
  all_goals try (first | (simp [exprOK, *]; done) | omega | (grind [exprOK]) | (simp [exprOK]; omega))
  first | refine HFnF.mk (l00In funcs 0 p.fFuncs.length) ?_ | refine CallSF.mk (l00In funcs 0 p.fFuncs.length) ?_ | refine HFnF.mkAt (l00In funcs 0 p.fFuncs.length) ?_ | refine CallSF.mk (FnAt.fn0 (l00In funcs 0 p.fFuncs.length)) ?_
  simp (maxSteps := 1000000) -dsimp -implicitDefEqProofs only [go_sem, ↓reduceIte, keep101, ib101, mk101, Try.f101]
  repeat' (with_reducible first | intro _ | refine And.intro ?_ ?_)
  all_goals try (first | (simp [exprOK, *]; done) | omega | (grind [exprOK]) | (simp [exprOK]; omega))
  first | refine CallSF.mk ((l02Left e 400 (by omega) (by omega) (by omega)).sub (by repeat' (first | exact SubL.nil | refine SubL.cons ?_ ?_ | exact Sub.refl _ | (rw [DExpr.c_eq]; exact Sub.refl _) | exact Sub.ipAt rfl rfl rfl | exact Sub.ip (map_get (by omega)) (by simp) | exact Sub.ipAt (map_get (by omega)) rfl rfl | exact Sub.ip (by simp [*]) (by simp) | exact Sub.ipAt (by simp [*]) (by rfl) (by rfl)))) ?_ | refine HFnF.mk ((l02Left e 400 (by omega) (by omega) (by omega)).sub (by repeat' (first | exact SubL.nil | refine SubL.cons ?_ ?_ | exact Sub.refl _ | (rw [DExpr.c_eq]; exact Sub.refl _) | exact Sub.ipAt rfl rfl rfl | exact Sub.ip (map_get (by omega)) (by simp) | exact Sub.ipAt (map_get (by omega)) rfl rfl | exact Sub.ip (by simp [*]) (by simp) | exact Sub.ipAt (by simp [*]) (by rfl) (by rfl)))) ?_
  simp (maxSteps := 1000000) -dsimp -implicitDefEqProofs only [go_sem, ↓reduceIte, keep101, ib101, mk101, Try.f101]
  repeat' (with_reducible first | intro _ | refine And.intro ?_ ?_)
  · have hle : ((e.s + 1 : Nat) : Int) ≤ 400 := lft_nonneg.1 (by assumption)
    first | refine CallSF.mk ((l02Depth e (by omega)).sub (by repeat' (first | exact SubL.nil | refine SubL.cons ?_ ?_ | exact Sub.refl _ | (rw [DExpr.c_eq]; exact Sub.refl _) | exact Sub.ipAt rfl rfl rfl | exact Sub.ip (map_get (by omega)) (by simp) | exact Sub.ipAt (map_get (by omega)) rfl rfl | exact Sub.ip (by simp [*]) (by simp) | exact Sub.ipAt (by simp [*]) (by rfl) (by rfl)))) ?_ | refine HFnF.mk ((l02Depth e (by omega)).sub (by repeat' (first | exact SubL.nil | refine SubL.cons ?_ ?_ | exact Sub.refl _ | (rw [DExpr.c_eq]; exact Sub.refl _) | exact Sub.ipAt rfl rfl rfl | exact Sub.ip (map_get (by omega)) (by simp) | exact Sub.ipAt (map_get (by omega)) rfl rfl | exact Sub.ip (by simp [*]) (by simp) | exact Sub.ipAt (by simp [*]) (by rfl) (by rfl)))) ?_
    simp (maxSteps := 1000000) -dsimp -implicitDefEqProofs only [go_sem, ↓reduceIte, keep101, ib101, mk101, Try.f101]
    repeat' (with_reducible first | intro _ | refine And.intro ?_ ?_)
    · first | refine CallSF.mk ((l02Tree p e vars funcs (by omega) (by omega) (by omega) (by omega) hps).sub (by repeat' (first | exact SubL.nil | refine SubL.cons ?_ ?_ | exact Sub.refl _ | (rw [DExpr.c_eq]; exact Sub.refl _) | exact Sub.ipAt rfl rfl rfl | exact Sub.ip (map_get (by omega)) (by simp) | exact Sub.ipAt (map_get (by omega)) rfl rfl | exact Sub.ip (by simp [*]) (by simp) | exact Sub.ipAt (by simp [*]) (by rfl) (by rfl)))) ?_ | refine HFnF.mk ((l02Tree p e vars funcs (by omega) (by omega) (by omega) (by omega) hps).sub (by repeat' (first | exact SubL.nil | refine SubL.cons ?_ ?_ | exact Sub.refl _ | (rw [DExpr.c_eq]; exact Sub.refl _) | exact Sub.ipAt rfl rfl rfl | exact Sub.ip (map_get (by omega)) (by simp) | exact Sub.ipAt (map_get (by omega)) rfl rfl | exact Sub.ip (by simp [*]) (by simp) | exact Sub.ipAt (by simp [*]) (by rfl) (by rfl)))) ?_
      simp (maxSteps := 1000000) -dsimp -implicitDefEqProofs only [go_sem, ↓reduceIte, keep101, ib101, mk101, Try.f101]
      rw [decide_eq_decide]
      exact ⟨fun q => ⟨by omega, by omega, by omega, by omega, q⟩, fun q => q.2.2.2.2⟩
    · exact (decide_eq_false fun q => by have := q.2.2.2.1; omega).symm
  · rename_i hn
    exact (decide_eq_false fun q => hn (lft_nonneg.2 (by have := q.2.2.1; omega))).symm
def keep95 : List Nat := [0, 1, 2, 3, 4, 5, 8]
def ib95 : List Nat := [4, 5]
def mk95 : Marks := fun _ => ([], [], [])
set_option maxRecDepth 100000 in
theorem ValidExpr (p : DProgram) (e : DExpr) (vars funcs : Int) (hs : e.s ≤ 4294966296) (hps : p.s ≤ 4294967296) : Fn0 Try.prog 95 [.agg p.c, .agg e.c, I vars, I funcs] (.bool (decide (exprOK p e vars funcs))) := by
  have h1 := ExprSize e (by omega)
  have h2 := ExprDepth e (by omega)
  simp only [DExpr.c_eq] at h1 h2
  simp only [DProgram.c_eq, DExpr.c_eq]
  refine fn0F 36 keep95 ib95 mk95 mix Try.func95 rfl (by kernel_rfl) (by simp) fun h => ?_
  simp (maxSteps := 1000000) -dsimp -implicitDefEqProofs only [go_sem, ↓reduceIte, keep95, ib95, mk95, Try.f95]
  first | refine HFnF.mk (areVars vars) ?_ | refine CallSF.mk (areVars vars) ?_ | refine HFnF.mkAt (areVars vars) ?_ | refine CallSF.mk (FnAt.fn0 (areVars vars)) ?_
  simp (maxSteps := 1000000) -dsimp -implicitDefEqProofs only [go_sem, ↓reduceIte, keep95, ib95, mk95, Try.f95]
  repeat' (with_reducible first | intro _ | refine And.intro ?_ ?_)
  all_goals try (first | (simp [exprOK, *]; done) | omega | (grind [exprOK]) | (simp [exprOK]; omega))
  first | refine HFnF.mk (within funcs 0 p.fFuncs.length) ?_ | refine CallSF.mk (within funcs 0 p.fFuncs.length) ?_ | refine HFnF.mkAt (within funcs 0 p.fFuncs.length) ?_ | refine CallSF.mk (FnAt.fn0 (within funcs 0 p.fFuncs.length)) ?_
  simp (maxSteps := 1000000) -dsimp -implicitDefEqProofs only [go_sem, ↓reduceIte, keep95, ib95, mk95, Try.f95]
  repeat' (with_reducible first | intro _ | refine And.intro ?_ ?_)
  all_goals try (first | (simp [exprOK, *]; done) | omega | (grind [exprOK]) | (simp [exprOK]; omega))
  first | refine HFnF.mk (h1) ?_ | refine CallSF.mk (h1) ?_ | refine HFnF.mkAt (h1) ?_ | refine CallSF.mk (FnAt.fn0 (h1)) ?_
  simp (maxSteps := 1000000) -dsimp -implicitDefEqProofs only [go_sem, ↓reduceIte, keep95, ib95, mk95, Try.f95]
  repeat' (with_reducible first | intro _ | refine And.intro ?_ ?_)
  · first | refine HFnF.mk (h2) ?_ | refine CallSF.mk (h2) ?_ | refine HFnF.mkAt (h2) ?_ | refine CallSF.mk (FnAt.fn0 (h2)) ?_
    simp (maxSteps := 1000000) -dsimp -implicitDefEqProofs only [go_sem, ↓reduceIte, keep95, ib95, mk95, Try.f95]
    repeat' (with_reducible first | intro _ | refine And.intro ?_ ?_)
    · have h3 := isFormed p e vars funcs (by omega) (by omega) (by omega) (by omega) hps
      simp only [DExpr.c_eq] at h3
      first | refine HFnF.mk (h3) ?_ | refine CallSF.mk (h3) ?_ | refine HFnF.mkAt (h3) ?_ | refine CallSF.mk (FnAt.fn0 (h3)) ?_
      simp (maxSteps := 1000000) -dsimp -implicitDefEqProofs only [go_sem, ↓reduceIte, keep95, ib95, mk95, Try.f95]
      rw [decide_eq_decide]
      exact ⟨fun q => ⟨by omega, by omega, by omega, by omega, q⟩, fun q => q.2.2.2.2⟩
    · exact (decide_eq_false fun q => by have := q.2.2.2.1; omega).symm
  · exact (decide_eq_false fun q => by have := q.2.2.1; omega).symm
def keep82 : List Nat := [0, 1, 4, 5, 6, 7, 8, 37, 40, 55, 62, 90]
def ib82 : List Nat := []
def mk82 : Marks := fun id => match id with | 7 => ([], [0, 1, 2, 3, 4, 5, 6, 7, 8, 9, 10, 11, 12], []) | 14 => ([], [0, 1, 2, 3, 4, 5, 6, 7, 8, 9, 10, 11, 12, 13, 14, 15, 16, 17], []) | _ => ([], [], [])
set_option maxRecDepth 100000 in
theorem l02Func (p : DProgram) (k : Nat) (f : DFunc) (ef : p.fFuncs[k]? = some f) (hps : p.s ≤ 4194304) : Fn0 Try.prog 82 [.ip 1 [p.c] 0 0, I k] (.bool (decide (funcOK p k f))) := by
  have hk : k < p.fFuncs.length := (List.getElem?_eq_some_iff.1 ef).1
  have hfs := DProgram.func_s (List.mem_of_getElem? ef)
  have hl := p.len_s
  have hos := f.outs_s
  simp only [DProgram.c_eq]
  have no (q : ¬ (IsNm f.fName ∧ (0 ≤ f.fParams ∧ f.fParams ≤ 12) ∧ (1 ≤ (f.fOuts.length : Int) ∧ (f.fOuts.length : Int) ≤ 12))) : false = decide (funcOK p k f) := (decide_eq_false fun z => q ⟨z.1, z.2.1, z.2.2.1⟩).symm
  refine fn0F 91 keep82 ib82 mk82 mix Try.func82 rfl (by kernel_rfl) (by simp) fun h => ?_
  simp (maxSteps := 1000000) -dsimp -implicitDefEqProofs only [go_sem, ↓reduceIte, keep82, ib82, mk82, Try.f82, ef, DFunc.c_eq, Int.toNat_natCast]
  repeat' (with_reducible first | intro _ | refine And.intro ?_ ?_)
  all_goals try omega
  first | refine HFnF.mk (specIsName f.fName) ?_ | refine CallSF.mk (specIsName f.fName) ?_ | refine HFnF.mkAt (specIsName f.fName) ?_ | refine CallSF.mk (FnAt.fn0 (specIsName f.fName)) ?_
  simp (maxSteps := 1000000) -dsimp -implicitDefEqProofs only [go_sem, ↓reduceIte, keep82, ib82, mk82, Try.f82, ef, DFunc.c_eq]
  repeat' (with_reducible first | intro _ | refine And.intro ?_ ?_)
  · first | refine HFnF.mk (l00In f.fParams 0 12) ?_ | refine CallSF.mk (l00In f.fParams 0 12) ?_ | refine HFnF.mkAt (l00In f.fParams 0 12) ?_ | refine CallSF.mk (FnAt.fn0 (l00In f.fParams 0 12)) ?_
    simp (maxSteps := 1000000) -dsimp -implicitDefEqProofs only [go_sem, ↓reduceIte, keep82, ib82, mk82, Try.f82, ef, DFunc.c_eq]
    repeat' (with_reducible first | intro _ | refine And.intro ?_ ?_)
    · first | refine HFnF.mk (l00In f.fOuts.length 1 12) ?_ | refine CallSF.mk (l00In f.fOuts.length 1 12) ?_ | refine HFnF.mkAt (l00In f.fOuts.length 1 12) ?_ | refine CallSF.mk (FnAt.fn0 (l00In f.fOuts.length 1 12)) ?_
      simp (maxSteps := 1000000) -dsimp -implicitDefEqProofs only [go_sem, ↓reduceIte, keep82, ib82, mk82, Try.f82, ef, DFunc.c_eq]
      repeat' (with_reducible first | intro _ | refine And.intro ?_ ?_)
      · exact no fun z => by simp_all
      · rename_i q1 q2 q3
        refine loopF (keep := keep82) (ib := ib82) (mk := mk82) mix (by kernel_rfl) (fun j : Nat => [(0, .ip 1 [p.c] 0 0), (1, I k), (5, .ip 3 (p.fFuncs.map DFunc.c) k 0), (6, I j)]) (fun _ => h) (fun j => j ≤ k ∧ ∀ g ∈ p.fFuncs.take j, g.fName ≠ f.fName) (fun j => k - j) 0 (by refine ⟨by simp [SatL, tget, DProgram.c_eq], by repeat' (with_reducible first | exact Heap.le_refl _ | refine (le_upd (by first | assumption | exact And.right (by assumption) | exact upd_none.2 (by assumption))).2 ?_), by simp⟩) ?_
        intro j ⟨hj, hp⟩
        simp only [DProgram.c_eq]
        rcases Nat.lt_or_ge j k with hlt | hge
        · have eg : p.fFuncs[j]? = some p.fFuncs[j] := List.getElem?_eq_getElem (by omega)
          simp (maxSteps := 1000000) -dsimp -implicitDefEqProofs only [go_sem, ↓reduceIte, keep82, ib82, mk82, Try.f82, ef, eg, DFunc.c_eq, Int.toNat_natCast]
          repeat' (with_reducible first | intro _ | refine And.intro ?_ ?_)
          all_goals try omega
          · rename_i he
            refine (decide_eq_false fun z => z.2.2.2.1 p.fFuncs[j] ?_ he).symm
            exact List.mem_take_iff_getElem.2 ⟨j, by omega, rfl⟩
          · rename_i he
            refine ⟨j + 1, ?_⟩
            repeat' (with_reducible refine And.intro ?_ ?_)
            all_goals try (rw [IntWalk.i64_in _ (by omega)]; first | rfl | omega)
            all_goals try omega
            all_goals try (repeat' (with_reducible first | exact Heap.le_refl _ | refine (le_upd (by first | assumption | exact And.right (by assumption) | exact upd_none.2 (by assumption))).2 ?_))
            all_goals try (simp only [DProgram.c_eq]; done)
            exact all_step (P := fun g : DFunc => g.fName ≠ f.fName) (by omega) hp he
        · have hj' : j = k := by omega
          rw [hj'] at hp
          simp (maxSteps := 1000000) -dsimp -implicitDefEqProofs only [go_sem, ↓reduceIte, keep82, ib82, mk82, Try.f82, hj', Int.lt_irrefl]
          have part (i : Nat) (hi : i < f.fOuts.length) : i + ((f.fOuts.take i).map DExpr.s).sum + f.fOuts[i].s + 1 ≤ szs DExpr.s f.fOuts := by
            have h1 := sum_take_succ DExpr.s f.fOuts i hi
            have h2 := sum_take_le DExpr.s f.fOuts (i + 1)
            rw [szs_eq]; omega
          have hszs : szs DExpr.s f.fOuts ≤ f.s := by rw [f.s_eq]; omega
          refine loopF (keep := keep82) (ib := ib82) (mk := mk82) mix (by kernel_rfl) (fun i : Nat => [(0, .ip 1 [p.c] 0 0), (1, I k), (5, .ip 3 (p.fFuncs.map DFunc.c) k 0), (7, I (400 - (i + ((f.fOuts.take i).map DExpr.s).sum : Nat))), (8, I i)]) (fun _ => h) (fun i => i ≤ f.fOuts.length ∧ i + ((f.fOuts.take i).map DExpr.s).sum ≤ 400 ∧ ∀ e ∈ f.fOuts.take i, exprOK p e f.fParams k) (fun i => f.fOuts.length - i) 0 (by refine ⟨by simp [SatL, tget, DProgram.c_eq], by repeat' (with_reducible first | exact Heap.le_refl _ | refine (le_upd (by first | assumption | exact And.right (by assumption) | exact upd_none.2 (by assumption))).2 ?_), by simp⟩) ?_
          intro i ⟨hi, hsum, hall⟩
          simp only [DProgram.c_eq]
          rcases Nat.lt_or_ge i f.fOuts.length with hlt | hge
          · have h1 := sum_take_succ DExpr.s f.fOuts i hlt
            have hpt := part i hlt
            have hout := DFunc.out_s (List.getElem_mem hlt)
            simp (maxSteps := 1000000) -dsimp -implicitDefEqProofs only [go_sem, ↓reduceIte, keep82, ib82, mk82, Try.f82, ef, DFunc.c_eq, Int.toNat_natCast]
            repeat' (with_reducible first | intro _ | refine And.intro ?_ ?_)
            all_goals try omega
            first | refine CallSF.mk ((l02Left f.fOuts[i] (400 - (i + ((f.fOuts.take i).map DExpr.s).sum : Nat)) (by omega) (by omega) (by omega)).sub (by repeat' (first | exact SubL.nil | refine SubL.cons ?_ ?_ | exact Sub.refl _ | (rw [DExpr.c_eq]; exact Sub.refl _) | exact Sub.ipAt rfl rfl rfl | exact Sub.ip (map_get (by omega)) (by simp) | exact Sub.ipAt (map_get (by omega)) rfl rfl | exact Sub.ip (by simp [*]) (by simp) | exact Sub.ipAt (by simp [*]) (by rfl) (by rfl)))) ?_ | refine HFnF.mk ((l02Left f.fOuts[i] (400 - (i + ((f.fOuts.take i).map DExpr.s).sum : Nat)) (by omega) (by omega) (by omega)).sub (by repeat' (first | exact SubL.nil | refine SubL.cons ?_ ?_ | exact Sub.refl _ | (rw [DExpr.c_eq]; exact Sub.refl _) | exact Sub.ipAt rfl rfl rfl | exact Sub.ip (map_get (by omega)) (by simp) | exact Sub.ipAt (map_get (by omega)) rfl rfl | exact Sub.ip (by simp [*]) (by simp) | exact Sub.ipAt (by simp [*]) (by rfl) (by rfl)))) ?_
            simp (maxSteps := 1000000) -dsimp -implicitDefEqProofs only [go_sem, ↓reduceIte, keep82, ib82, mk82, Try.f82, ef, DFunc.c_eq]
            rcases lft_cases (400 - (i + ((f.fOuts.take i).map DExpr.s).sum : Nat)) (f.fOuts[i].s + 1) with ⟨e, hl1⟩ | ⟨e, hl1⟩
            · simp (maxSteps := 1000000) -dsimp -implicitDefEqProofs only [go_sem, ↓reduceIte, keep82, ib82, mk82, Try.f82, e]
              repeat' (with_reducible first | intro _ | refine And.intro ?_ ?_)
              all_goals try omega
              all_goals exact (decide_eq_false fun z => by have := z.2.2.2.2.1; omega).symm
            · simp (maxSteps := 1000000) -dsimp -implicitDefEqProofs only [go_sem, ↓reduceIte, keep82, ib82, mk82, Try.f82, e]
              repeat' (with_reducible first | intro _ | refine And.intro ?_ ?_)
              all_goals try omega
              first | refine CallSF.mk ((l02Expr p f.fOuts[i] f.fParams k (by omega) (by omega)).sub (by repeat' (first | exact SubL.nil | refine SubL.cons ?_ ?_ | exact Sub.refl _ | (rw [DExpr.c_eq]; exact Sub.refl _) | exact Sub.ipAt rfl rfl rfl | exact Sub.ip (map_get (by omega)) (by simp) | exact Sub.ipAt (map_get (by omega)) rfl rfl | exact Sub.ip (by simp [*]) (by simp) | exact Sub.ipAt (by simp [*]) (by rfl) (by rfl)))) ?_ | refine HFnF.mk ((l02Expr p f.fOuts[i] f.fParams k (by omega) (by omega)).sub (by repeat' (first | exact SubL.nil | refine SubL.cons ?_ ?_ | exact Sub.refl _ | (rw [DExpr.c_eq]; exact Sub.refl _) | exact Sub.ipAt rfl rfl rfl | exact Sub.ip (map_get (by omega)) (by simp) | exact Sub.ipAt (map_get (by omega)) rfl rfl | exact Sub.ip (by simp [*]) (by simp) | exact Sub.ipAt (by simp [*]) (by rfl) (by rfl)))) ?_
              simp (maxSteps := 1000000) -dsimp -implicitDefEqProofs only [go_sem, ↓reduceIte, keep82, ib82, mk82, Try.f82, ef, DFunc.c_eq]
              repeat' (with_reducible first | intro _ | refine And.intro ?_ ?_)
              · rename_i hn
                exact (decide_eq_false fun z => hn (z.2.2.2.2.2 _ (List.getElem_mem hlt))).symm
              · rename_i hn
                refine ⟨i + 1, ?_⟩
                repeat' (with_reducible refine And.intro ?_ ?_)
                all_goals try (rw [IntWalk.i64_in _ (by omega)]; first | rfl | omega)
                all_goals try omega
                all_goals try (repeat' (with_reducible first | exact Heap.le_refl _ | refine (le_upd (by first | assumption | exact And.right (by assumption) | exact upd_none.2 (by assumption))).2 ?_))
                all_goals try (simp only [DProgram.c_eq]; done)
                exact all_step (P := fun e => exprOK p e f.fParams k) hlt hall hn
          · have hi' : i = f.fOuts.length := by omega
            subst hi'
            rw [List.take_length] at hsum hall
            simp (maxSteps := 1000000) -dsimp -implicitDefEqProofs only [go_sem, ↓reduceIte, keep82, ib82, mk82, Try.f82, ef, DFunc.c_eq, Nat.lt_irrefl]
            exact fun _ => (decide_eq_true ⟨by assumption, q1, q3, hp, by rw [szs_eq]; omega, hall⟩).symm
    · exact no fun z => by simp_all
  · exact no fun z => by simp_all
def keep66 : List Nat := [0, 2, 3, 9, 16, 22]
def ib66 : List Nat := []
def mk66 : Marks := fun _ => ([], [], [])
set_option maxRecDepth 100000 in
theorem l02Ok (p : DProgram) (hps : p.s ≤ 4194304) : Fn0 Try.prog 66 [.ip 1 [p.c] 0 0] (.bool (decide p.ok)) := by
  simp only [DProgram.c_eq]
  refine fn0F 23 keep66 ib66 mk66 mix Try.func66 rfl (by kernel_rfl) (by simp) fun h => ?_
  simp (maxSteps := 1000000) -dsimp -implicitDefEqProofs only [go_sem, ↓reduceIte, keep66, ib66, mk66, Try.f66]
  repeat' (with_reducible first | intro _ | refine And.intro ?_ ?_)
  · exact (decide_eq_false fun z => by have := z.1; omega).symm
  refine loopF (keep := keep66) (ib := ib66) (mk := mk66) mix (by kernel_rfl) (fun k : Nat => [(0, .ip 1 [p.c] 0 0), (3, I k)]) (fun _ => h) (fun k => k ≤ p.fFuncs.length ∧ ∀ (j : Nat) (f : DFunc), j < k → p.fFuncs[j]? = some f → funcOK p j f) (fun k => p.fFuncs.length - k) 0 (by refine ⟨by simp [SatL, tget, DProgram.c_eq], by repeat' (with_reducible first | exact Heap.le_refl _ | refine (le_upd (by first | assumption | exact And.right (by assumption) | exact upd_none.2 (by assumption))).2 ?_), by simp⟩) ?_
  intro k ⟨hk, hp⟩
  simp only [DProgram.c_eq]
  rcases Nat.lt_or_ge k p.fFuncs.length with hlt | hge
  · have eg : p.fFuncs[k]? = some p.fFuncs[k] := List.getElem?_eq_getElem (by omega)
    simp (maxSteps := 1000000) -dsimp -implicitDefEqProofs only [go_sem, ↓reduceIte, keep66, ib66, mk66, Try.f66]
    repeat' (with_reducible first | intro _ | refine And.intro ?_ ?_)
    all_goals try omega
    first | refine CallSF.mk ((l02Func p k p.fFuncs[k] eg hps).sub (by repeat' (first | exact SubL.nil | refine SubL.cons ?_ ?_ | exact Sub.refl _ | (rw [DExpr.c_eq]; exact Sub.refl _) | exact Sub.ipAt rfl rfl rfl | exact Sub.ip (map_get (by omega)) (by simp) | exact Sub.ipAt (map_get (by omega)) rfl rfl | exact Sub.ip (by simp [*]) (by simp) | exact Sub.ipAt (by simp [*]) (by rfl) (by rfl)))) ?_ | refine HFnF.mk ((l02Func p k p.fFuncs[k] eg hps).sub (by repeat' (first | exact SubL.nil | refine SubL.cons ?_ ?_ | exact Sub.refl _ | (rw [DExpr.c_eq]; exact Sub.refl _) | exact Sub.ipAt rfl rfl rfl | exact Sub.ip (map_get (by omega)) (by simp) | exact Sub.ipAt (map_get (by omega)) rfl rfl | exact Sub.ip (by simp [*]) (by simp) | exact Sub.ipAt (by simp [*]) (by rfl) (by rfl)))) ?_
    simp (maxSteps := 1000000) -dsimp -implicitDefEqProofs only [go_sem, ↓reduceIte, keep66, ib66, mk66, Try.f66]
    repeat' (with_reducible first | intro _ | refine And.intro ?_ ?_)
    · rename_i hn
      exact (decide_eq_false fun z => hn (z.2 k _ eg)).symm
    · rename_i hn
      refine ⟨k + 1, ?_⟩
      repeat' (with_reducible refine And.intro ?_ ?_)
      all_goals try (rw [IntWalk.i64_in _ (by omega)]; first | rfl | omega)
      all_goals try omega
      all_goals try (repeat' (with_reducible first | exact Heap.le_refl _ | refine (le_upd (by first | assumption | exact And.right (by assumption) | exact upd_none.2 (by assumption))).2 ?_))
      all_goals try (simp only [DProgram.c_eq]; done)
      intro j f hj ej
      rcases Nat.lt_succ_iff_lt_or_eq.1 hj with h1 | rfl
      · exact hp j f h1 ej
      · rw [eg] at ej; obtain rfl := Option.some.inj ej; exact hn
  · have hk' : k = p.fFuncs.length := by omega
    subst hk'
    simp (maxSteps := 1000000) -dsimp -implicitDefEqProofs only [go_sem, ↓reduceIte, keep66, ib66, mk66, Try.f66, Nat.lt_irrefl]
    exact fun _ => (decide_eq_true ⟨by omega, fun j f ej => hp j f (List.getElem?_eq_some_iff.1 ej).1 ej⟩).symm
open Go.Proofs
set_option linter.unusedVariables false
set_option linter.unusedSimpArgs false
def keep107 : List Nat := [0, 1, 4, 5, 7, 8, 9, 16]
def ib107 : List Nat := []
def mk107 : Marks := fun _ => ([], [], [])
set_option maxRecDepth 100000 in
theorem idxF_FuncS (a : List DFunc) (p : DFunc → Bool) (g : FuncId) (cap : List HVal) {h0 : Heap} (hc : ∀ x ∈ a, FnAt Try.prog g ([(.agg (DFunc.c x))] ++ cap) (.bool (p x)) h0) : FnAt Try.prog 107 [(sls 3 DFunc.c a), .fn (.func g) [] cap] (I (idxOf p a)) h0 := by
  refine fnAtF 19 keep107 ib107 mk107 mix Try.func107 rfl (by kernel_rfl) (by simp) fun h hle => ?_
  simp -dsimp -implicitDefEqProofs only [go_sem, ↓reduceIte, keep107, ib107, mk107, Try.f107, Try.f107]
  intro _
  refine loopF (keep := keep107) (ib := ib107) (mk := mk107) mix (by kernel_rfl) (fun k : Nat => [(0, (sls 3 DFunc.c a)), (1, .fn (.func g) [] cap), (7, I a.length), (8, I k)]) (fun _ => h) (fun k => k ≤ a.length ∧ ∀ x ∈ a.take k, p x = false) (fun k => a.length - k) 0 (by simp [SatL, tget, Heap.le_refl]) ?_
  intro k ⟨hk, hp⟩
  rcases Nat.lt_or_ge k a.length with hlt | hge
  · have ea : a[k]? = some a[k] := List.getElem?_eq_getElem hlt
    simp -dsimp -implicitDefEqProofs only [go_sem, ↓reduceIte, keep107, ib107, mk107, Try.f107, Try.f107, ea, DFunc.c_eq]
    repeat' (with_reducible first | intro _ | refine And.intro ?_ ?_)
    all_goals try omega
    have hx := hc a[k] (List.getElem_mem hlt)
    simp only [DFunc.c_eq] at hx
    refine HFnF.mkAt (hx.mono hle) ?_
    cases hpk : p a[k] with
    | true =>
      simp -dsimp -implicitDefEqProofs only [go_sem, ↓reduceIte, keep107, ib107, mk107, Try.f107, Try.f107]
      repeat' (with_reducible first | intro _ | refine And.intro ?_ ?_)
      all_goals first | exact (idxOf_some hlt hp hpk).symm | rfl | (rw [idxOf_some hlt hp hpk])
    | false =>
      simp -dsimp -implicitDefEqProofs only [go_sem, ↓reduceIte, keep107, ib107, mk107, Try.f107, Try.f107]
      refine ⟨k + 1, ?_⟩
      repeat' (with_reducible refine And.intro ?_ ?_)
      all_goals try (rw [IntWalk.i64_in _ (by omega)]; first | rfl | omega)
      all_goals try omega
      exact all_step (P := fun x => p x = false) hlt hp hpk
  · have hk' : k = a.length := by omega
    subst hk'
    rw [List.take_length] at hp
    simp -dsimp -implicitDefEqProofs only [go_sem, ↓reduceIte, keep107, ib107, mk107, Try.f107, Try.f107, Nat.lt_irrefl]
    all_goals first | exact (idxOf_none hp).symm | rw [idxOf_none hp]
def keep93 : List Nat := [0, 1, 4]
def ib93 : List Nat := []
def mk93 : Marks := fun _ => ([], [], [])
set_option maxRecDepth 100000 in
theorem hasF_FuncS (a : List DFunc) (p : DFunc → Bool) (g : FuncId) (cap : List HVal) {h0 : Heap} (hc : ∀ x ∈ a, FnAt Try.prog g ([(.agg (DFunc.c x))] ++ cap) (.bool (p x)) h0) : FnAt Try.prog 93 [(sls 3 DFunc.c a), .fn (.func g) [] cap] (.bool (a.any p)) h0 := by
  refine fnAtF 9 keep93 ib93 mk93 mix Try.func93 rfl (by kernel_rfl) (by simp) fun h hle => ?_
  simp -dsimp -implicitDefEqProofs only [go_sem, ↓reduceIte, keep93, ib93, mk93, Try.f93, Try.f93]
  refine HFnF.mkAt ((idxF_FuncS a p g cap hc).mono hle) ?_
  simp -dsimp -implicitDefEqProofs only [go_sem, ↓reduceIte, keep93, ib93, mk93, Try.f93, Try.f93]
  all_goals first | done | exact idxOf_nonneg | rw [idxOf_nonneg]

def keep94 : List Nat := [0, 1, 2, 3]
def ib94 : List Nat := [2]
def mk94 : Marks := fun _ => ([], [], [])
set_option maxRecDepth 100000 in
theorem ValidProgram1 (g f : DFunc) (n : Nat) {h0 : Heap} (hn : h0 n = some (.row 3 [f.c.map .v])) : FnAt Try.prog 94 [.agg g.c, .op n 3 0 0] (.bool (decide (g.fName = f.fName))) h0 := by
  simp only [DFunc.c_eq]
  have hg (h : Heap) (hle : h0.le h) := Heap.le_get hle hn
  refine fnAtF 9 keep94 ib94 mk94 mix Try.func94 rfl (by kernel_rfl) (by simp) fun h hle => ?_
  simp (maxSteps := 1000000) -dsimp -implicitDefEqProofs only [go_sem, ↓reduceIte, keep94, ib94, mk94, Try.f94]
  have hn' := hg h hle
  simp only [DFunc.c_eq] at hn'
  simp (maxSteps := 1000000) -dsimp -implicitDefEqProofs only [go_sem, ↓reduceIte, keep94, ib94, mk94, Try.f94, hn']
def keep77 : List Nat := [0, 1, 2, 3, 4, 5, 7, 11, 13, 14, 15, 16, 31, 42, 44, 45, 46, 47, 56, 63]
def ib77 : List Nat := [1]
def mk77 : Marks := fun _ => ([], [], [])
set_option maxRecDepth 100000 in
theorem ValidProgram (p : DProgram) (hps : p.s ≤ 4194304) : Fn0 Try.prog 77 [.agg p.c] (.bool (decide p.ok)) := by
  simp only [DProgram.c_eq]
  refine fn0F 65 keep77 ib77 mk77 mix Try.func77 rfl (by kernel_rfl) (by simp) fun h => ?_
  simp (maxSteps := 1000000) -dsimp -implicitDefEqProofs only [go_sem, ↓reduceIte, keep77, ib77, mk77, Try.f77]
  repeat' (with_reducible first | intro _ | refine And.intro ?_ ?_)
  · exact (decide_eq_false fun z => by have := z.1; omega).symm
  refine loopF (keep := keep77) (ib := ib77) (mk := mk77) mix (by kernel_rfl) (fun k : Nat => [(1, .ip 1 [p.c] 0 0), (13, sls 3 DFunc.c p.fFuncs), (14, I p.fFuncs.length), (15, I k)]) (fun _ => h) (fun k => k ≤ p.fFuncs.length ∧ ∀ (j : Nat) (f : DFunc), j < k → p.fFuncs[j]? = some f → funcOK p j f) (fun k => p.fFuncs.length - k) 0 (by refine ⟨by simp [SatL, tget, DProgram.c_eq], by repeat' (with_reducible first | exact Heap.le_refl _ | refine (le_upd (by first | assumption | exact And.right (by assumption) | exact upd_none.2 (by assumption))).2 ?_), by simp⟩) ?_
  intro k ⟨hk, hp⟩
  simp only [DProgram.c_eq]
  rcases Nat.lt_or_ge k p.fFuncs.length with hlt | hge
  · obtain ⟨f, eg⟩ : ∃ f, p.fFuncs[k]? = some f := ⟨_, List.getElem?_eq_getElem hlt⟩
    have hfs := DProgram.func_s (List.mem_of_getElem? eg)
    have hos := f.outs_s
    have no (q : ¬ funcOK p k f) : false = decide p.ok := (decide_eq_false fun z => q (z.2 k f eg)).symm
    simp (maxSteps := 1000000) -dsimp -implicitDefEqProofs only [go_sem, ↓reduceIte, keep77, ib77, mk77, Try.f77, eg, DFunc.c_eq, upd_upd]
    repeat' (with_reducible first | intro _ | refine And.intro ?_ ?_)
    all_goals try omega
    rename_i n hn
    first | refine HFnF.mk (IsName f.fName) ?_ | refine CallSF.mk (IsName f.fName) ?_ | refine HFnF.mkAt (IsName f.fName) ?_ | refine CallSF.mk (FnAt.fn0 (IsName f.fName)) ?_
    simp (maxSteps := 1000000) -dsimp -implicitDefEqProofs only [go_sem, ↓reduceIte, keep77, ib77, mk77, Try.f77, upd_get, upd_upd]
    repeat' (with_reducible first | intro _ | refine And.intro ?_ ?_)
    all_goals try (repeat' (with_reducible first | exact Heap.le_refl _ | refine (le_upd (by first | assumption | exact And.right (by assumption) | exact upd_none.2 (by assumption))).2 ?_))
    all_goals try omega
    all_goals try (rename_i hnm; exact no fun z => hnm z.1)
    rename_i hnm
    rw [← List.map_take]
    refine HFnF.mkAt (hasF_FuncS (p.fFuncs.take k) (fun g => decide (g.fName = f.fName)) 94 [.op n 3 0 0] fun g _ => ValidProgram1 g f n (by simp [upd_get, DFunc.c_eq])) ?_
    simp (maxSteps := 1000000) -dsimp -implicitDefEqProofs only [go_sem, ↓reduceIte, keep77, ib77, mk77, Try.f77, upd_get, upd_upd]
    repeat' (with_reducible first | intro _ | refine And.intro ?_ ?_)
    all_goals try (repeat' (with_reducible first | exact Heap.le_refl _ | refine (le_upd (by first | assumption | exact And.right (by assumption) | exact upd_none.2 (by assumption))).2 ?_))
    · rename_i q
      refine no fun z => ?_
      obtain ⟨g, hg1, hg2⟩ := List.any_eq_true.1 q
      exact z.2.2.2.1 g hg1 (by simpa using hg2)
    rename_i hnd
    have hnd' : ∀ g ∈ p.fFuncs.take k, g.fName ≠ f.fName := fun g hg => by
      have := List.any_eq_false.1 hnd g hg
      simpa using this
    first | refine HFnF.mk (within f.fParams 0 12) ?_ | refine CallSF.mk (within f.fParams 0 12) ?_ | refine HFnF.mkAt (within f.fParams 0 12) ?_ | refine CallSF.mk (FnAt.fn0 (within f.fParams 0 12)) ?_
    simp (maxSteps := 1000000) -dsimp -implicitDefEqProofs only [go_sem, ↓reduceIte, keep77, ib77, mk77, Try.f77, upd_get, upd_upd]
    repeat' (with_reducible first | intro _ | refine And.intro ?_ ?_)
    all_goals try (repeat' (with_reducible first | exact Heap.le_refl _ | refine (le_upd (by first | assumption | exact And.right (by assumption) | exact upd_none.2 (by assumption))).2 ?_))
    · first | refine HFnF.mk (within f.fOuts.length 1 12) ?_ | refine CallSF.mk (within f.fOuts.length 1 12) ?_ | refine HFnF.mkAt (within f.fOuts.length 1 12) ?_ | refine CallSF.mk (FnAt.fn0 (within f.fOuts.length 1 12)) ?_
      simp (maxSteps := 1000000) -dsimp -implicitDefEqProofs only [go_sem, ↓reduceIte, keep77, ib77, mk77, Try.f77, upd_get, upd_upd]
      repeat' (with_reducible first | intro _ | refine And.intro ?_ ?_)
      all_goals try (repeat' (with_reducible first | exact Heap.le_refl _ | refine (le_upd (by first | assumption | exact And.right (by assumption) | exact upd_none.2 (by assumption))).2 ?_))
      · rename_i q
        exact no fun z => q z.2.2.1
      · rename_i q1 q2 q3 q4
        have part (i : Nat) (hi : i < f.fOuts.length) : i + ((f.fOuts.take i).map DExpr.s).sum + f.fOuts[i].s + 1 ≤ szs DExpr.s f.fOuts := by
          have h1 := sum_take_succ DExpr.s f.fOuts i hi
          have h2 := sum_take_le DExpr.s f.fOuts (i + 1)
          rw [szs_eq]; omega
        have hszs : szs DExpr.s f.fOuts ≤ f.s := by rw [f.s_eq]; omega
        refine loopF (keep := keep77) (ib := ib77) (mk := mk77) mix (by kernel_rfl) (fun i : Nat => [(1, .ip 1 [p.c] 0 0), (3, I k), (4, .op n 3 0 0), (5, I ((i + ((f.fOuts.take i).map DExpr.s).sum : Nat) : Int)), (13, sls 3 DFunc.c p.fFuncs), (14, I p.fFuncs.length), (15, I k), (44, sls 5 DExpr.c f.fOuts), (45, I f.fOuts.length), (46, I i)]) (fun _ => upd h n (.row 3 [f.c.map .v])) (fun i => i ≤ f.fOuts.length ∧ ∀ e ∈ f.fOuts.take i, exprOK p e f.fParams k) (fun i => f.fOuts.length - i) 0 (by refine ⟨by simp [SatL, tget, DProgram.c_eq], by simp [DFunc.c_eq, Heap.le_refl], by simp⟩) ?_
        intro i ⟨hi, hall⟩
        simp only [DProgram.c_eq, DFunc.c_eq, List.map_cons, List.map_nil]
        rcases Nat.lt_or_ge i f.fOuts.length with hlt2 | hge2
        · have h1 := sum_take_succ DExpr.s f.fOuts i hlt2
          have hpt := part i hlt2
          have hout := DFunc.out_s (List.getElem_mem hlt2)
          have ee : f.fOuts[i]? = some f.fOuts[i] := List.getElem?_eq_getElem hlt2
          have hv := ValidExpr p f.fOuts[i] f.fParams k (by omega) (by omega)
          have hz := ExprSize f.fOuts[i] (by omega)
          simp only [DExpr.c_eq, DProgram.c_eq] at hv hz
          simp (maxSteps := 1000000) -dsimp -implicitDefEqProofs only [go_sem, ↓reduceIte, keep77, ib77, mk77, Try.f77, ee, DExpr.c_eq, upd_upd]
          repeat' (with_reducible first | intro _ | refine And.intro ?_ ?_)
          all_goals try omega
          rename_i m hm
          have hmn : (n = m) = False := eq_false fun e => hm.1 e.symm
          have hnm2 : (m = n) = False := eq_false hm.1
          simp (maxSteps := 1000000) -dsimp -implicitDefEqProofs only [go_sem, ↓reduceIte, keep77, ib77, mk77, Try.f77, upd_get, hmn, hnm2]
          first | refine HFnF.mk (hv) ?_ | refine CallSF.mk (hv) ?_ | refine HFnF.mkAt (hv) ?_ | refine CallSF.mk (FnAt.fn0 (hv)) ?_
          simp (maxSteps := 1000000) -dsimp -implicitDefEqProofs only [go_sem, ↓reduceIte, keep77, ib77, mk77, Try.f77, upd_get, hmn, hnm2]
          repeat' (with_reducible first | intro _ | refine And.intro ?_ ?_)
          · rename_i hne
            exact no fun z => hne (z.2.2.2.2.2 _ (List.getElem_mem hlt2))
          · all_goals try (repeat' (with_reducible first | exact Heap.le_refl _ | refine (le_upd (by first | assumption | exact And.right (by assumption) | exact upd_none.2 (by assumption))).2 ?_))
          · rename_i hne
            first | refine HFnF.mk (hz) ?_ | refine CallSF.mk (hz) ?_ | refine HFnF.mkAt (hz) ?_ | refine CallSF.mk (FnAt.fn0 (hz)) ?_
            simp (maxSteps := 1000000) -dsimp -implicitDefEqProofs only [go_sem, ↓reduceIte, keep77, ib77, mk77, Try.f77, upd_get, hmn, hnm2]
            refine ⟨i + 1, ?_⟩
            repeat' (with_reducible refine And.intro ?_ ?_)
            all_goals try (rw [IntWalk.i64_in _ (by omega)]; first | rfl | omega)
            all_goals try omega
            all_goals try (repeat' (with_reducible first | exact Heap.le_refl _ | refine (le_upd (by first | assumption | exact And.right (by assumption) | exact upd_none.2 (by assumption))).2 ?_))
            all_goals try (simp only [DProgram.c_eq]; done)
            exact all_step (P := fun e => exprOK p e f.fParams k) hlt2 hall hne
        · have hi' : i = f.fOuts.length := by omega
          subst hi'
          rw [List.take_length] at hall ⊢
          simp (maxSteps := 1000000) -dsimp -implicitDefEqProofs only [go_sem, ↓reduceIte, keep77, ib77, mk77, Try.f77, Nat.lt_irrefl]
          have hss : szs DExpr.s f.fOuts = f.fOuts.length + (f.fOuts.map DExpr.s).sum := szs_eq _ _
          repeat' (with_reducible first | intro _ | refine And.intro ?_ ?_)
          all_goals try (repeat' (with_reducible first | exact Heap.le_refl _ | refine (le_upd (by first | assumption | exact And.right (by assumption) | exact upd_none.2 (by assumption))).2 ?_))
          · rename_i q
            exact no fun z => by have := z.2.2.2.2.1; omega
          · rename_i q
            have hfk : funcOK p k f := ⟨hnm, q1, q3, hnd', by omega, hall⟩
            refine ⟨k + 1, ?_⟩
            repeat' (with_reducible refine And.intro ?_ ?_)
            all_goals try (rw [IntWalk.i64_in _ (by omega)]; first | rfl | omega)
            all_goals try omega
            all_goals try (repeat' (with_reducible first | exact Heap.le_refl _ | refine (le_upd (by first | assumption | exact And.right (by assumption) | exact upd_none.2 (by assumption))).2 ?_))
            intro j f' hj ej
            rcases Nat.lt_succ_iff_lt_or_eq.1 hj with h1 | rfl
            · exact hp j f' h1 ej
            · rw [eg] at ej; obtain rfl := Option.some.inj ej; exact hfk
    · rename_i q
      exact no fun z => q z.2.1
  · have hk' : k = p.fFuncs.length := by omega
    subst hk'
    simp (maxSteps := 1000000) -dsimp -implicitDefEqProofs only [go_sem, ↓reduceIte, keep77, ib77, mk77, Try.f77, Nat.lt_irrefl]
    exact (decide_eq_true ⟨by omega, fun j f ej => hp j f (List.getElem?_eq_some_iff.1 ej).1 ej⟩).symm
open Go.Proofs
set_option linter.unusedVariables false
set_option linter.unusedSimpArgs false
def keep58 : List Nat := [0, 1, 2, 4, 5, 9]
def ib58 : List Nat := [2]
def mk58 : Marks := fun _ => ([], [], [])
set_option maxRecDepth 100000 in
theorem isFunc (p : DProgram) (f : Int) (hps : p.s ≤ 4194304) : Fn0 Try.prog 58 [.agg p.c, I f] (I (if p.ok then if 0 ≤ f ∧ f ≤ (p.fFuncs.length : Int) - 1 then 0 else 2 else 1)) := by
  have hv := ValidProgram p hps
  simp only [DProgram.c_eq] at hv ⊢
  refine fn0F 17 keep58 ib58 mk58 mix Try.func58 rfl (by kernel_rfl) (by simp) fun h => ?_
  simp (maxSteps := 1000000) -dsimp -implicitDefEqProofs only [go_sem, ↓reduceIte, keep58, ib58, mk58, Try.f58]
  first | refine HFnF.mk (hv) ?_ | refine CallSF.mk (hv) ?_ | refine HFnF.mkAt (hv) ?_ | refine CallSF.mk (FnAt.fn0 (hv)) ?_
  simp (maxSteps := 1000000) -dsimp -implicitDefEqProofs only [go_sem, ↓reduceIte, keep58, ib58, mk58, Try.f58]
  repeat' (with_reducible first | intro _ | refine And.intro ?_ ?_)
  · rename_i hn
    rw [if_neg hn]
  · rename_i hn _
    rw [if_pos hn]
    all_goals try simp (disch := omega) only [IntWalk.i64_in]
    first | refine HFnF.mk (within f 0 (p.fFuncs.length - 1)) ?_ | refine CallSF.mk (within f 0 (p.fFuncs.length - 1)) ?_ | refine HFnF.mkAt (within f 0 (p.fFuncs.length - 1)) ?_ | refine CallSF.mk (FnAt.fn0 (within f 0 (p.fFuncs.length - 1))) ?_
    simp (maxSteps := 1000000) -dsimp -implicitDefEqProofs only [go_sem, ↓reduceIte, keep58, ib58, mk58, Try.f58]
    repeat' (with_reducible first | intro _ | refine And.intro ?_ ?_)
    · rename_i q
      rw [if_neg q]
    · rename_i q
      rw [if_pos q]
def DJob.okF (j : DJob) (f : DFunc) : Prop := (0 ≤ j.fShared ∧ j.fShared ≤ f.fParams) ∧ ((j.fPoint.length : Int) = j.fShared ∧ Nums j.fPoint) ∧ (j.fTerms.length : Int) ≤ 10 ∧ ∀ t ∈ j.fTerms, (t.length : Int) = f.fParams - j.fShared ∧ Nums t
def DJob.ok (j : DJob) : Prop := j.fProgram.ok ∧ (0 ≤ j.fFunc ∧ j.fFunc ≤ (j.fProgram.fFuncs.length : Int) - 1) ∧ ∀ f, j.fProgram.fFuncs[j.fFunc.toNat]? = some f → j.okF f
noncomputable instance (j : DJob) : Decidable j.ok := Classical.propDecidable _
def keep42 : List Nat := [0, 2, 3, 4, 24, 71, 78, 106]
def ib42 : List Nat := []
def mk42 : Marks := fun id => match id with | 1 => ([], [0, 1, 2, 3, 4, 5, 6, 7, 8, 9, 10, 11, 12, 13, 14, 15, 16, 17, 18, 19], []) | 3 => ([], [0, 1, 2, 3, 4, 5, 6, 7, 8, 9, 10, 11, 12], []) | 4 => ([], [0, 1, 2, 3, 4, 5, 6, 7, 8, 9, 10, 11, 12, 13, 14, 15, 16, 17, 18, 19, 20, 21, 22, 23, 24, 25, 26, 27, 28, 29, 30, 31, 32, 33, 34], []) | 9 => ([], [0, 1, 2, 3, 4, 5, 6, 7, 8, 9, 10, 11, 12, 13, 14, 15, 16, 17, 18, 19, 20, 21, 22, 23, 24, 25], []) | _ => ([], [], [])
set_option maxRecDepth 100000 in
theorem l08Job (j : DJob) (hps : j.fProgram.s ≤ 4194304) : Fn0 Try.prog 42 [.ip 5 [j.c] 0 0] (.bool (decide j.ok)) := by
  have hl := j.fProgram.len_s
  have e1 : IntKind.i64.wrap ((j.fProgram.fFuncs.length : Int) - 1) = j.fProgram.fFuncs.length - 1 := IntWalk.i64_in _ (by omega)
  simp only [DJob.c_eq]
  refine fn0F 107 keep42 ib42 mk42 mix Try.func42 rfl (by kernel_rfl) (by simp) fun h => ?_
  simp (maxSteps := 1000000) -dsimp -implicitDefEqProofs only [go_sem, ↓reduceIte, keep42, ib42, mk42, Try.f42, e1]
  first | refine CallSF.mk ((l02Ok j.fProgram hps).sub (by repeat' (first | exact SubL.nil | refine SubL.cons ?_ ?_ | exact Sub.refl _ | (rw [DExpr.c_eq]; exact Sub.refl _) | exact Sub.ipAt rfl rfl rfl | exact Sub.ip (map_get (by omega)) (by simp) | exact Sub.ipAt (map_get (by omega)) rfl rfl | exact Sub.ip (by simp [*]) (by simp) | exact Sub.ipAt (by simp [*]) (by rfl) (by rfl)))) ?_ | refine HFnF.mk ((l02Ok j.fProgram hps).sub (by repeat' (first | exact SubL.nil | refine SubL.cons ?_ ?_ | exact Sub.refl _ | (rw [DExpr.c_eq]; exact Sub.refl _) | exact Sub.ipAt rfl rfl rfl | exact Sub.ip (map_get (by omega)) (by simp) | exact Sub.ipAt (map_get (by omega)) rfl rfl | exact Sub.ip (by simp [*]) (by simp) | exact Sub.ipAt (by simp [*]) (by rfl) (by rfl)))) ?_
  simp (maxSteps := 1000000) -dsimp -implicitDefEqProofs only [go_sem, ↓reduceIte, keep42, ib42, mk42, Try.f42, e1]
  repeat' (with_reducible first | intro _ | refine And.intro ?_ ?_)
  · rename_i hp
    first | refine HFnF.mk (l00In j.fFunc 0 (j.fProgram.fFuncs.length - 1)) ?_ | refine CallSF.mk (l00In j.fFunc 0 (j.fProgram.fFuncs.length - 1)) ?_ | refine HFnF.mkAt (l00In j.fFunc 0 (j.fProgram.fFuncs.length - 1)) ?_ | refine CallSF.mk (FnAt.fn0 (l00In j.fFunc 0 (j.fProgram.fFuncs.length - 1))) ?_
    simp (maxSteps := 1000000) -dsimp -implicitDefEqProofs only [go_sem, ↓reduceIte, keep42, ib42, mk42, Try.f42, e1]
    repeat' (with_reducible first | intro _ | refine And.intro ?_ ?_)
    · rename_i hr
      exact (decide_eq_false fun z => hr z.2.1).symm
    all_goals try omega
    rename_i hr
    obtain ⟨f, ef⟩ : ∃ f, j.fProgram.fFuncs[j.fFunc.toNat]? = some f := ⟨_, List.getElem?_eq_getElem (by omega)⟩
    have hfo := hp.2 _ f ef
    have hj : j.ok ↔ j.okF f := ⟨fun z => z.2.2 f ef, fun z => ⟨hp, hr, fun g eg => by rw [ef] at eg; obtain rfl := Option.some.inj eg; exact z⟩⟩
    have hp1 := hfo.2.1
    simp (maxSteps := 1000000) -dsimp -implicitDefEqProofs only [go_sem, ↓reduceIte, keep42, ib42, mk42, Try.f42, ef, DFunc.c_eq]
    first | refine HFnF.mk (l00In j.fShared 0 f.fParams) ?_ | refine CallSF.mk (l00In j.fShared 0 f.fParams) ?_ | refine HFnF.mkAt (l00In j.fShared 0 f.fParams) ?_ | refine CallSF.mk (FnAt.fn0 (l00In j.fShared 0 f.fParams)) ?_
    simp (maxSteps := 1000000) -dsimp -implicitDefEqProofs only [go_sem, ↓reduceIte, keep42, ib42, mk42, Try.f42]
    repeat' (with_reducible first | intro _ | refine And.intro ?_ ?_)
    · rename_i hsh hlen
      first | refine HFnF.mk (l01Numbers j.fPoint) ?_ | refine CallSF.mk (l01Numbers j.fPoint) ?_ | refine HFnF.mkAt (l01Numbers j.fPoint) ?_ | refine CallSF.mk (FnAt.fn0 (l01Numbers j.fPoint)) ?_
      simp (maxSteps := 1000000) -dsimp -implicitDefEqProofs only [go_sem, ↓reduceIte, keep42, ib42, mk42, Try.f42]
      repeat' (with_reducible first | intro _ | refine And.intro ?_ ?_)
      · exact (decide_eq_false fun z => by have := (hj.1 z).2.2.1; omega).symm
      · have e4 : IntKind.i64.wrap (f.fParams - j.fShared) = f.fParams - j.fShared := IntWalk.i64_in _ (by omega)
        refine loopF (keep := keep42) (ib := ib42) (mk := mk42) mix (by kernel_rfl) (fun k : Nat => [(0, .ip 5 [j.c] 0 0), (3, I f.fParams), (4, I k)]) (fun _ => h) (fun k => k ≤ j.fTerms.length ∧ ∀ t ∈ j.fTerms.take k, (t.length : Int) = f.fParams - j.fShared ∧ Nums t) (fun k => j.fTerms.length - k) 0 (by refine ⟨by simp [SatL, tget, DJob.c_eq], by repeat' (with_reducible first | exact Heap.le_refl _ | refine (le_upd (by first | assumption | exact And.right (by assumption) | exact upd_none.2 (by assumption))).2 ?_), by simp⟩) ?_
        intro k ⟨hk, hall⟩
        simp only [DJob.c_eq]
        rcases Nat.lt_or_ge k j.fTerms.length with hlt | hge
        · have ea : j.fTerms[k]? = some j.fTerms[k] := List.getElem?_eq_getElem hlt
          have no (q : ¬ ((j.fTerms[k].length : Int) = f.fParams - j.fShared ∧ Nums j.fTerms[k])) : false = decide j.ok := (decide_eq_false fun z => q ((hj.1 z).2.2.2 _ (List.getElem_mem hlt))).symm
          simp (maxSteps := 1000000) -dsimp -implicitDefEqProofs only [go_sem, ↓reduceIte, keep42, ib42, mk42, Try.f42, ea, e4]
          repeat' (with_reducible first | intro _ | refine And.intro ?_ ?_)
          all_goals try omega
          · first | refine HFnF.mk (l01Numbers j.fTerms[k]) ?_ | refine CallSF.mk (l01Numbers j.fTerms[k]) ?_ | refine HFnF.mkAt (l01Numbers j.fTerms[k]) ?_ | refine CallSF.mk (FnAt.fn0 (l01Numbers j.fTerms[k])) ?_
            simp (maxSteps := 1000000) -dsimp -implicitDefEqProofs only [go_sem, ↓reduceIte, keep42, ib42, mk42, Try.f42]
            repeat' (with_reducible first | intro _ | refine And.intro ?_ ?_)
            · rename_i q4 q5
              exact no fun z => q5 z.2
            · rename_i q4 q5
              refine ⟨k + 1, ?_⟩
              repeat' (with_reducible refine And.intro ?_ ?_)
              all_goals try (rw [IntWalk.i64_in _ (by omega)]; first | rfl | omega)
              all_goals try omega
              all_goals try (repeat' (with_reducible first | exact Heap.le_refl _ | refine (le_upd (by first | assumption | exact And.right (by assumption) | exact upd_none.2 (by assumption))).2 ?_))
              all_goals try (simp only [DJob.c_eq]; done)
              exact all_step (P := fun t : List Int => (t.length : Int) = f.fParams - j.fShared ∧ Nums t) hlt hall ⟨q4, q5⟩
          · rename_i q4
            exact no fun z => q4 z.1
        · have hk' : k = j.fTerms.length := by omega
          subst hk'
          rw [List.take_length] at hall
          simp (maxSteps := 1000000) -dsimp -implicitDefEqProofs only [go_sem, ↓reduceIte, keep42, ib42, mk42, Try.f42, Nat.lt_irrefl]
          exact fun _ => (decide_eq_true (hj.2 ⟨hsh, ⟨by assumption, by assumption⟩, by omega, hall⟩)).symm
      · rename_i q2
        exact (decide_eq_false fun z => q2 (hj.1 z).2.1.2).symm
    · rename_i q
      exact (decide_eq_false fun z => q (hj.1 z).2.1.1).symm
    · rename_i q
      exact (decide_eq_false fun z => q (hj.1 z).1).symm
  · rename_i hp
    exact (decide_eq_false fun z => hp z.1).symm
def keep61 : List Nat := [0, 1, 3]
def ib61 : List Nat := []
def mk61 : Marks := fun _ => ([], [], [])
set_option maxRecDepth 100000 in
theorem ValidJob1 (l : List Int) (c : Int) (n : Nat) {h0 : Heap} (hn : h0 n = some (.row 1 [[.v (I c)]])) : FnAt Try.prog 61 [sls 1 (fun n => [I n]) l, .op n 1 0 0] (.bool (!decide ((l.length : Int) = c ∧ Nums l))) h0 := by
  have hg (h : Heap) (hle : h0.le h) := Heap.le_get hle hn
  refine fnAtF 8 keep61 ib61 mk61 mix Try.func61 rfl (by kernel_rfl) (by simp) fun h hle => ?_
  simp (maxSteps := 1000000) -dsimp -implicitDefEqProofs only [go_sem, ↓reduceIte, keep61, ib61, mk61, Try.f61]
  have hn' := hg h hle
  simp (maxSteps := 1000000) -dsimp -implicitDefEqProofs only [go_sem, ↓reduceIte, keep61, ib61, mk61, Try.f61, hn']
  first | refine HFnF.mk (areNumbers l c) ?_ | refine CallSF.mk (areNumbers l c) ?_ | refine HFnF.mkAt (areNumbers l c) ?_ | refine CallSF.mk (FnAt.fn0 (areNumbers l c)) ?_
  simp (maxSteps := 1000000) -dsimp -implicitDefEqProofs only [go_sem, ↓reduceIte, keep61, ib61, mk61, Try.f61]
def keep80 : List Nat := [0, 1, 4, 5, 7, 8, 9, 16]
def ib80 : List Nat := []
def mk80 : Marks := fun _ => ([], [], [])
set_option maxRecDepth 100000 in
theorem idxF_Int64SS (a : List (List Int)) (p : (List Int) → Bool) (g : FuncId) (cap : List HVal) {h0 : Heap} (hc : ∀ x ∈ a, FnAt Try.prog g ([(sls 1 (fun n => [I n]) x)] ++ cap) (.bool (p x)) h0) : FnAt Try.prog 80 [(sls 1 (fun x => [sls 1 (fun n => [I n]) x]) a), .fn (.func g) [] cap] (I (idxOf p a)) h0 := by
  refine fnAtF 19 keep80 ib80 mk80 mix Try.func80 rfl (by kernel_rfl) (by simp) fun h hle => ?_
  simp -dsimp -implicitDefEqProofs only [go_sem, ↓reduceIte, keep80, ib80, mk80, Try.f80, Try.f80]
  intro _
  refine loopF (keep := keep80) (ib := ib80) (mk := mk80) mix (by kernel_rfl) (fun k : Nat => [(0, (sls 1 (fun x => [sls 1 (fun n => [I n]) x]) a)), (1, .fn (.func g) [] cap), (7, I a.length), (8, I k)]) (fun _ => h) (fun k => k ≤ a.length ∧ ∀ x ∈ a.take k, p x = false) (fun k => a.length - k) 0 (by simp [SatL, tget, Heap.le_refl]) ?_
  intro k ⟨hk, hp⟩
  rcases Nat.lt_or_ge k a.length with hlt | hge
  · have ea : a[k]? = some a[k] := List.getElem?_eq_getElem hlt
    simp -dsimp -implicitDefEqProofs only [go_sem, ↓reduceIte, keep80, ib80, mk80, Try.f80, Try.f80, ea]
    repeat' (with_reducible first | intro _ | refine And.intro ?_ ?_)
    all_goals try omega
    have hx := hc a[k] (List.getElem_mem hlt)
    refine HFnF.mkAt (hx.mono hle) ?_
    cases hpk : p a[k] with
    | true =>
      simp -dsimp -implicitDefEqProofs only [go_sem, ↓reduceIte, keep80, ib80, mk80, Try.f80, Try.f80]
      repeat' (with_reducible first | intro _ | refine And.intro ?_ ?_)
      all_goals first | exact (idxOf_some hlt hp hpk).symm | rfl | (rw [idxOf_some hlt hp hpk])
    | false =>
      simp -dsimp -implicitDefEqProofs only [go_sem, ↓reduceIte, keep80, ib80, mk80, Try.f80, Try.f80]
      refine ⟨k + 1, ?_⟩
      repeat' (with_reducible refine And.intro ?_ ?_)
      all_goals try (rw [IntWalk.i64_in _ (by omega)]; first | rfl | omega)
      all_goals try omega
      exact all_step (P := fun x => p x = false) hlt hp hpk
  · have hk' : k = a.length := by omega
    subst hk'
    rw [List.take_length] at hp
    simp -dsimp -implicitDefEqProofs only [go_sem, ↓reduceIte, keep80, ib80, mk80, Try.f80, Try.f80, Nat.lt_irrefl]
    all_goals first | exact (idxOf_none hp).symm | rw [idxOf_none hp]
def keep60 : List Nat := [0, 1, 4]
def ib60 : List Nat := []
def mk60 : Marks := fun _ => ([], [], [])
set_option maxRecDepth 100000 in
theorem hasF_Int64SS (a : List (List Int)) (p : (List Int) → Bool) (g : FuncId) (cap : List HVal) {h0 : Heap} (hc : ∀ x ∈ a, FnAt Try.prog g ([(sls 1 (fun n => [I n]) x)] ++ cap) (.bool (p x)) h0) : FnAt Try.prog 60 [(sls 1 (fun x => [sls 1 (fun n => [I n]) x]) a), .fn (.func g) [] cap] (.bool (a.any p)) h0 := by
  refine fnAtF 9 keep60 ib60 mk60 mix Try.func60 rfl (by kernel_rfl) (by simp) fun h hle => ?_
  simp -dsimp -implicitDefEqProofs only [go_sem, ↓reduceIte, keep60, ib60, mk60, Try.f60, Try.f60]
  refine HFnF.mkAt ((idxF_Int64SS a p g cap hc).mono hle) ?_
  simp -dsimp -implicitDefEqProofs only [go_sem, ↓reduceIte, keep60, ib60, mk60, Try.f60, Try.f60]
  all_goals first | done | exact idxOf_nonneg | rw [idxOf_nonneg]

def keep31 : List Nat := [0, 1, 2, 3, 31]
def ib31 : List Nat := [1]
def mk31 : Marks := fun id => match id with | 1 => ([], [0, 1, 2, 3, 4, 5, 6, 7, 8, 9, 10, 11, 12, 13, 14, 15, 16, 17, 18, 19, 20, 21, 22, 23, 24, 25, 26, 27], []) | 3 => ([11, 12], [0, 1, 2, 3, 4, 5, 6, 7, 8, 9, 10, 11, 12], []) | _ => ([], [], [])
set_option maxRecDepth 100000 in
theorem ValidJob (j : DJob) (hps : j.fProgram.s ≤ 4194304) : Fn0 Try.prog 31 [.agg j.c] (.bool (decide j.ok)) := by
  have hif := isFunc j.fProgram j.fFunc hps
  have hl := j.fProgram.len_s
  simp only [DJob.c_eq, DProgram.c_eq] at hif ⊢
  by_cases hp : j.fProgram.ok ∧ (0 ≤ j.fFunc ∧ j.fFunc ≤ (j.fProgram.fFuncs.length : Int) - 1)
  · obtain ⟨hp, hr⟩ := hp
    rw [if_pos hp, if_pos hr] at hif
    obtain ⟨f, ef⟩ : ∃ f, j.fProgram.fFuncs[j.fFunc.toNat]? = some f := ⟨_, List.getElem?_eq_getElem (by omega)⟩
    have hfo := hp.2 _ f ef
    have hj : j.ok ↔ j.okF f := ⟨fun z => z.2.2 f ef, fun z => ⟨hp, hr, fun g eg => by rw [ef] at eg; obtain rfl := Option.some.inj eg; exact z⟩⟩
    have hp1 := hfo.2.1
    refine fn0F 54 keep31 ib31 mk31 mix Try.func31 rfl (by kernel_rfl) (by simp) fun h => ?_
    simp (maxSteps := 1000000) -dsimp -implicitDefEqProofs only [go_sem, ↓reduceIte, keep31, ib31, mk31, Try.f31]
    first | refine HFnF.mk (hif) ?_ | refine CallSF.mk (hif) ?_ | refine HFnF.mkAt (hif) ?_ | refine CallSF.mk (FnAt.fn0 (hif)) ?_
    simp (maxSteps := 1000000) -dsimp -implicitDefEqProofs only [go_sem, ↓reduceIte, keep31, ib31, mk31, Try.f31, ef, DFunc.c_eq]
    repeat' (with_reducible first | intro _ | refine And.intro ?_ ?_)
    all_goals try omega
    first | refine HFnF.mk (within j.fShared 0 f.fParams) ?_ | refine CallSF.mk (within j.fShared 0 f.fParams) ?_ | refine HFnF.mkAt (within j.fShared 0 f.fParams) ?_ | refine CallSF.mk (FnAt.fn0 (within j.fShared 0 f.fParams)) ?_
    simp (maxSteps := 1000000) -dsimp -implicitDefEqProofs only [go_sem, ↓reduceIte, keep31, ib31, mk31, Try.f31, ef, DFunc.c_eq]
    repeat' (with_reducible first | intro _ | refine And.intro ?_ ?_)
    · first | refine HFnF.mk (areNumbers j.fPoint j.fShared) ?_ | refine CallSF.mk (areNumbers j.fPoint j.fShared) ?_ | refine HFnF.mkAt (areNumbers j.fPoint j.fShared) ?_ | refine CallSF.mk (FnAt.fn0 (areNumbers j.fPoint j.fShared)) ?_
      simp (maxSteps := 1000000) -dsimp -implicitDefEqProofs only [go_sem, ↓reduceIte, keep31, ib31, mk31, Try.f31, ef, DFunc.c_eq]
      repeat' (with_reducible first | intro _ | refine And.intro ?_ ?_)
      all_goals try omega
      · rename_i q
        exact (decide_eq_false fun z => q (hj.1 z).2.1).symm
      · rename_i n hn q1 q2
        rw [IntWalk.i64_in _ (by omega)]
        refine HFnF.mkAt (hasF_Int64SS j.fTerms (fun t => !decide ((t.length : Int) = f.fParams - j.fShared ∧ Nums t)) 61 [.op n 1 0 0] fun t _ => ValidJob1 t (f.fParams - j.fShared) n (by simp [upd_get])) ?_
        simp (maxSteps := 1000000) -dsimp -implicitDefEqProofs only [go_sem, ↓reduceIte, keep31, ib31, mk31, Try.f31]
        repeat' (with_reducible first | intro _ | refine And.intro ?_ ?_)
        all_goals try (repeat' (with_reducible first | exact Heap.le_refl _ | refine (le_upd (by first | assumption | exact And.right (by assumption) | exact upd_none.2 (by assumption))).2 ?_))
        rw [any_not, decide_eq_decide, hj]
        exact ⟨fun q => ⟨by assumption, by assumption, by omega, q⟩, fun q => q.2.2.2⟩
      · rename_i q
        exact (decide_eq_false fun z => q (by have := (hj.1 z).2.2.1; omega)).symm
      · all_goals try (repeat' (with_reducible first | exact Heap.le_refl _ | refine (le_upd (by first | assumption | exact And.right (by assumption) | exact upd_none.2 (by assumption))).2 ?_))
    · rename_i q
      exact (decide_eq_false fun z => q (hj.1 z).1).symm
  · have hne : ¬ (if j.fProgram.ok then if 0 ≤ j.fFunc ∧ j.fFunc ≤ (j.fProgram.fFuncs.length : Int) - 1 then 0 else 2 else 1 : Int) = 0 := by
      intro q
      split at q
      · split at q
        · rename_i a b
          exact hp ⟨a, b⟩
        · cases q
      · cases q
    refine fn0F 54 keep31 ib31 mk31 mix Try.func31 rfl (by kernel_rfl) (by simp) fun h => ?_
    simp (maxSteps := 1000000) -dsimp -implicitDefEqProofs only [go_sem, ↓reduceIte, keep31, ib31, mk31, Try.f31]
    first | refine HFnF.mk (hif) ?_ | refine CallSF.mk (hif) ?_ | refine HFnF.mkAt (hif) ?_ | refine CallSF.mk (FnAt.fn0 (hif)) ?_
    simp (maxSteps := 1000000) -dsimp -implicitDefEqProofs only [go_sem, ↓reduceIte, keep31, ib31, mk31, Try.f31]
    repeat' (with_reducible first | intro _ | refine And.intro ?_ ?_)
    all_goals try (exact absurd (by assumption) hne)
    exact (decide_eq_false fun z => hp ⟨z.1, z.2.1⟩).symm
open Go.Proofs
set_option linter.unusedVariables false
set_option linter.unusedSimpArgs false
def pointOK (j : DJob) (l : List Int) : Prop := (l.length : Int) = j.fShared ∧ Nums l
def partOK (j : DJob) (p : DPart) : Prop := if p.fCode = 0 then Num p.fValue ∧ pointOK j p.fGrad else (p.fCode = 6 ∨ p.fCode = 7) ∧ p.fValue = 0 ∧ p.fGrad = []
noncomputable instance (j : DJob) (p : DPart) : Decidable (partOK j p) := Classical.propDecidable _
def svcAt (j : DJob) (st ow : Int) (kn : Bool) (p : DPart) : Prop := (0 ≤ st ∧ st ≤ 50) ∧ (-1 ≤ ow ∧ ow ≤ 3) ∧ (kn = true → ow = -1 ∧ partOK j p) ∧ (kn = false → p.fCode = 0 ∧ p.fValue = 0 ∧ p.fGrad = [])
def DService.ok (s : DService) : Prop := s.fJob.ok ∧ (s.fStamps.length = s.fJob.fTerms.length ∧ s.fKnown.length = s.fJob.fTerms.length ∧ s.fParts.length = s.fJob.fTerms.length ∧ s.fOwners.length = s.fJob.fTerms.length) ∧
  ∀ (k : Nat) (st ow : Int) (kn : Bool) (p : DPart), s.fStamps[k]? = some st → s.fOwners[k]? = some ow → s.fKnown[k]? = some kn → s.fParts[k]? = some p → svcAt s.fJob st ow kn p
noncomputable instance (s : DService) : Decidable s.ok := Classical.propDecidable _
theorem len0 {α : Type} (l : List α) : (l.length : Int) = 0 ↔ l = [] := by cases l <;> simp; omega
def keep76 : List Nat := [0, 1, 4]
def ib76 : List Nat := []
def mk76 : Marks := fun _ => ([], [], [])
set_option maxRecDepth 100000 in
theorem l08Point (j : DJob) (l : List Int) : Fn0 Try.prog 76 [.ip 5 [j.c] 0 0, sls 1 (fun n => [I n]) l] (.bool (decide ((l.length : Int) = j.fShared ∧ Nums l))) := by
  simp only [DJob.c_eq]
  refine fn0F 16 keep76 ib76 mk76 mix Try.func76 rfl (by kernel_rfl) (by simp) fun h => ?_
  simp (maxSteps := 1000000) -dsimp -implicitDefEqProofs only [go_sem, ↓reduceIte, keep76, ib76, mk76, Try.f76]
  repeat' (with_reducible first | intro _ | refine And.intro ?_ ?_)
  all_goals try (first | (simp [*]; done) | omega | grind)
  first | refine HFnF.mk (l01Numbers l) ?_ | refine CallSF.mk (l01Numbers l) ?_ | refine HFnF.mkAt (l01Numbers l) ?_ | refine CallSF.mk (FnAt.fn0 (l01Numbers l)) ?_
  simp (maxSteps := 1000000) -dsimp -implicitDefEqProofs only [go_sem, ↓reduceIte, keep76, ib76, mk76, Try.f76]
  all_goals try (first | (simp [*]; done) | omega | grind)
def keep56 : List Nat := [0, 1, 4, 8, 9, 24]
def ib56 : List Nat := []
def mk56 : Marks := fun _ => ([], [], [])
set_option maxRecDepth 100000 in
theorem l08Form (j : DJob) (p : DPart) : Fn0 Try.prog 56 [.ip 5 [j.c] 0 0, .ip 3 [p.c] 0 0] (.bool (decide (partOK j p))) := by
  simp only [DJob.c_eq, DPart.c_eq]
  refine fn0F 40 keep56 ib56 mk56 mix Try.func56 rfl (by kernel_rfl) (by simp) fun h => ?_
  simp (maxSteps := 1000000) -dsimp -implicitDefEqProofs only [go_sem, ↓reduceIte, keep56, ib56, mk56, Try.f56]
  repeat' (with_reducible first | intro _ | refine And.intro ?_ ?_)
  all_goals try (first | (simp [partOK, len0, *]; done) | omega | (grind [partOK, len0]) | (simp [partOK, len0]; omega))
  rename_i hc
  have hp : partOK j p ↔ Num p.fValue ∧ pointOK j p.fGrad := by unfold partOK; rw [if_pos hc]
  first | refine HFnF.mk (l01Number p.fValue) ?_ | refine CallSF.mk (l01Number p.fValue) ?_ | refine HFnF.mkAt (l01Number p.fValue) ?_ | refine CallSF.mk (FnAt.fn0 (l01Number p.fValue)) ?_
  simp (maxSteps := 1000000) -dsimp -implicitDefEqProofs only [go_sem, ↓reduceIte, keep56, ib56, mk56, Try.f56]
  repeat' (with_reducible first | intro _ | refine And.intro ?_ ?_)
  · first | refine CallSF.mk ((l08Point j p.fGrad).sub (by repeat' (first | exact SubL.nil | refine SubL.cons ?_ ?_ | exact Sub.refl _ | (rw [DExpr.c_eq]; exact Sub.refl _) | exact Sub.ipAt rfl rfl rfl | exact Sub.ip (map_get (by omega)) (by simp) | exact Sub.ipAt (map_get (by omega)) rfl rfl | exact Sub.ip (by simp [*]) (by simp) | exact Sub.ipAt (by simp [*]) (by rfl) (by rfl)))) ?_ | refine HFnF.mk ((l08Point j p.fGrad).sub (by repeat' (first | exact SubL.nil | refine SubL.cons ?_ ?_ | exact Sub.refl _ | (rw [DExpr.c_eq]; exact Sub.refl _) | exact Sub.ipAt rfl rfl rfl | exact Sub.ip (map_get (by omega)) (by simp) | exact Sub.ipAt (map_get (by omega)) rfl rfl | exact Sub.ip (by simp [*]) (by simp) | exact Sub.ipAt (by simp [*]) (by rfl) (by rfl)))) ?_
    simp (maxSteps := 1000000) -dsimp -implicitDefEqProofs only [go_sem, ↓reduceIte, keep56, ib56, mk56, Try.f56]
    rw [decide_eq_decide, hp]
    exact ⟨fun q => ⟨by assumption, q⟩, fun q => q.2⟩
  · exact (decide_eq_false fun q => by simp_all).symm
def keep33 : List Nat := [0, 1, 2, 3, 4, 7]
def ib33 : List Nat := [2, 3]
def mk33 : Marks := fun _ => ([], [], [])
set_option maxRecDepth 100000 in
theorem isPart (j : DJob) (p : DPart) : Fn0 Try.prog 33 [.agg j.c, .agg p.c] (.bool (decide (partOK j p))) := by
  simp only [DJob.c_eq, DPart.c_eq]
  refine fn0F 37 keep33 ib33 mk33 mix Try.func33 rfl (by kernel_rfl) (by simp) fun h => ?_
  simp (maxSteps := 1000000) -dsimp -implicitDefEqProofs only [go_sem, ↓reduceIte, keep33, ib33, mk33, Try.f33]
  repeat' (with_reducible first | intro _ | refine And.intro ?_ ?_)
  all_goals try (first | (simp [partOK, len0, *]; done) | omega | (grind [partOK, len0]) | (simp [partOK, len0]; omega))
  rename_i hc
  have hp : partOK j p ↔ Num p.fValue ∧ pointOK j p.fGrad := by unfold partOK; rw [if_pos hc]
  first | refine HFnF.mk (isNumber p.fValue) ?_ | refine CallSF.mk (isNumber p.fValue) ?_ | refine HFnF.mkAt (isNumber p.fValue) ?_ | refine CallSF.mk (FnAt.fn0 (isNumber p.fValue)) ?_
  simp (maxSteps := 1000000) -dsimp -implicitDefEqProofs only [go_sem, ↓reduceIte, keep33, ib33, mk33, Try.f33]
  repeat' (with_reducible first | intro _ | refine And.intro ?_ ?_)
  · first | refine HFnF.mk (areNumbers p.fGrad j.fShared) ?_ | refine CallSF.mk (areNumbers p.fGrad j.fShared) ?_ | refine HFnF.mkAt (areNumbers p.fGrad j.fShared) ?_ | refine CallSF.mk (FnAt.fn0 (areNumbers p.fGrad j.fShared)) ?_
    simp (maxSteps := 1000000) -dsimp -implicitDefEqProofs only [go_sem, ↓reduceIte, keep33, ib33, mk33, Try.f33]
    rw [decide_eq_decide, hp]
    exact ⟨fun q => ⟨by assumption, q⟩, fun q => q.2⟩
  · exact (decide_eq_false fun q => by simp_all).symm
def keep27 : List Nat := [0, 2, 3, 4, 9, 49, 52, 74, 104, 146]
def ib27 : List Nat := []
def mk27 : Marks := fun id => match id with | 11 => ([], [0, 1, 2, 3, 4, 5, 6, 7, 8, 9, 10, 11, 12, 13, 14, 15, 16, 17, 18, 19, 20, 21, 22, 23, 24, 25, 26, 27, 28, 29], []) | _ => ([], [], [])
set_option maxRecDepth 100000 in
theorem l08Ok (s : DService) (hps : s.fJob.fProgram.s ≤ 4194304) : Fn0 Try.prog 27 [.ip 9 [s.c] 0 0] (.bool (decide s.ok)) := by
  simp only [DService.c_eq]
  refine fn0F 147 keep27 ib27 mk27 mix Try.func27 rfl (by kernel_rfl) (by simp) fun h => ?_
  simp (maxSteps := 1000000) -dsimp -implicitDefEqProofs only [go_sem, ↓reduceIte, keep27, ib27, mk27, Try.f27]
  first | refine CallSF.mk ((l08Job s.fJob hps).sub (by repeat' (first | exact SubL.nil | refine SubL.cons ?_ ?_ | exact Sub.refl _ | (rw [DExpr.c_eq]; exact Sub.refl _) | exact Sub.ipAt rfl rfl rfl | exact Sub.ip (map_get (by omega)) (by simp) | exact Sub.ipAt (map_get (by omega)) rfl rfl | exact Sub.ip (by simp [*]) (by simp) | exact Sub.ipAt (by simp [*]) (by rfl) (by rfl)))) ?_ | refine HFnF.mk ((l08Job s.fJob hps).sub (by repeat' (first | exact SubL.nil | refine SubL.cons ?_ ?_ | exact Sub.refl _ | (rw [DExpr.c_eq]; exact Sub.refl _) | exact Sub.ipAt rfl rfl rfl | exact Sub.ip (map_get (by omega)) (by simp) | exact Sub.ipAt (map_get (by omega)) rfl rfl | exact Sub.ip (by simp [*]) (by simp) | exact Sub.ipAt (by simp [*]) (by rfl) (by rfl)))) ?_
  simp (maxSteps := 1000000) -dsimp -implicitDefEqProofs only [go_sem, ↓reduceIte, keep27, ib27, mk27, Try.f27]
  repeat' (with_reducible first | intro _ | refine And.intro ?_ ?_)
  all_goals try (exact (decide_eq_false fun z => by have := z.2.1; omega).symm)
  all_goals try (rename_i hn; exact (decide_eq_false fun z => hn z.1).symm)
  have hjob : s.fJob.ok := by assumption
  have h1 : s.fStamps.length = s.fJob.fTerms.length := by assumption
  have h2 : s.fKnown.length = s.fJob.fTerms.length := by assumption
  have h3 : s.fParts.length = s.fJob.fTerms.length := by assumption
  have h4 : s.fOwners.length = s.fJob.fTerms.length := by assumption
  refine loopF (keep := keep27) (ib := ib27) (mk := mk27) mix (by kernel_rfl) (fun k : Nat => [(0, .ip 9 [s.c] 0 0), (3, I s.fJob.fTerms.length), (4, I k)]) (fun _ => h) (fun k => k ≤ s.fJob.fTerms.length ∧ ∀ (j : Nat) (st ow : Int) (kn : Bool) (p : DPart), j < k → s.fStamps[j]? = some st → s.fOwners[j]? = some ow → s.fKnown[j]? = some kn → s.fParts[j]? = some p → svcAt s.fJob st ow kn p) (fun k => s.fJob.fTerms.length - k) 0 (by refine ⟨by simp [SatL, tget, DService.c_eq], by repeat' (with_reducible first | exact Heap.le_refl _ | refine (le_upd (by first | assumption | exact And.right (by assumption) | exact upd_none.2 (by assumption))).2 ?_), by simp⟩) ?_
  intro k ⟨hk, hall⟩
  simp only [DService.c_eq]
  rcases Nat.lt_or_ge k s.fJob.fTerms.length with hlt | hge
  · have k1 : k < s.fStamps.length := by omega
    have k2 : k < s.fKnown.length := by omega
    have k3 : k < s.fParts.length := by omega
    have k4 : k < s.fOwners.length := by omega
    have g1 : s.fStamps[k]? = some s.fStamps[k] := List.getElem?_eq_getElem k1
    have g2 : s.fKnown[k]? = some s.fKnown[k] := List.getElem?_eq_getElem k2
    have g3 : s.fParts[k]? = some s.fParts[k] := List.getElem?_eq_getElem k3
    have g4 : s.fOwners[k]? = some s.fOwners[k] := List.getElem?_eq_getElem k4
    have no (q : ¬ svcAt s.fJob s.fStamps[k] s.fOwners[k] s.fKnown[k] s.fParts[k]) : false = decide s.ok := (decide_eq_false fun z => q (z.2.2 k _ _ _ _ g1 g4 g2 g3)).symm
    have nx (q : svcAt s.fJob s.fStamps[k] s.fOwners[k] s.fKnown[k] s.fParts[k]) : ∀ (j : Nat) (st ow : Int) (kn : Bool) (p : DPart), j < k + 1 → s.fStamps[j]? = some st → s.fOwners[j]? = some ow → s.fKnown[j]? = some kn → s.fParts[j]? = some p → svcAt s.fJob st ow kn p := by
      intro j st ow kn p hj a b c d
      rcases Nat.lt_succ_iff_lt_or_eq.1 hj with hj | rfl
      · exact hall j st ow kn p hj a b c d
      · rw [g1] at a; rw [g4] at b; rw [g2] at c; rw [g3] at d
        obtain rfl := Option.some.inj a
        obtain rfl := Option.some.inj b
        obtain rfl := Option.some.inj c
        obtain rfl := Option.some.inj d
        exact q
    cases hkn : s.fKnown[k]
    all_goals
      rw [hkn] at g2 no nx
      simp (maxSteps := 1000000) -dsimp -implicitDefEqProofs only [go_sem, ↓reduceIte, keep27, ib27, mk27, Try.f27, g1, g2, g3, g4, DPart.c_eq]
      repeat' (with_reducible first | intro _ | refine And.intro ?_ ?_)
      all_goals try omega
    all_goals (first | refine HFnF.mk (l00In s.fStamps[k] 0 50) ?_ | refine CallSF.mk (l00In s.fStamps[k] 0 50) ?_)
    all_goals simp (maxSteps := 1000000) -dsimp -implicitDefEqProofs only [go_sem, ↓reduceIte, keep27, ib27, mk27, Try.f27, g1, g2, g3, g4, DPart.c_eq]
    all_goals repeat' (with_reducible first | intro _ | refine And.intro ?_ ?_)
    all_goals try omega
    all_goals try (rename_i q; exact no fun z => q z.1)
    all_goals (first | refine HFnF.mk (l00In s.fOwners[k] (-1) 3) ?_ | refine CallSF.mk (l00In s.fOwners[k] (-1) 3) ?_)
    all_goals simp (maxSteps := 1000000) -dsimp -implicitDefEqProofs only [go_sem, ↓reduceIte, keep27, ib27, mk27, Try.f27, g1, g2, g3, g4, DPart.c_eq]
    all_goals repeat' (with_reducible first | intro _ | refine And.intro ?_ ?_)
    all_goals try omega
    all_goals try (rename_i q; exact no fun z => q z.2.1)
    all_goals try (rename_i q; exact no fun z => q (z.2.2.2 rfl).1)
    all_goals try (rename_i q; exact no fun z => q (z.2.2.2 rfl).2.1)
    all_goals try (rename_i q; exact no fun z => q (z.2.2.1 rfl).1)
    all_goals try (rename_i q; exact no fun z => by have := (z.2.2.2 rfl).2.2; rw [this] at q; simp at q)
    · refine ⟨k + 1, ?_⟩
      repeat' (with_reducible refine And.intro ?_ ?_)
      all_goals try (rw [IntWalk.i64_in _ (by omega)]; first | rfl | omega)
      all_goals try omega
      all_goals try (repeat' (with_reducible first | exact Heap.le_refl _ | refine (le_upd (by first | assumption | exact And.right (by assumption) | exact upd_none.2 (by assumption))).2 ?_))
      all_goals try (simp only [DService.c_eq]; done)
      exact nx ⟨by assumption, by assumption, fun z => by simp at z, fun _ => ⟨by assumption, by assumption, (len0 _).1 (by omega)⟩⟩
    · have hq1 : s.fOwners[k] = -1 := by assumption
      first | refine CallSF.mk ((l08Form s.fJob s.fParts[k]).sub (by repeat' (first | exact SubL.nil | refine SubL.cons ?_ ?_ | exact Sub.refl _ | (rw [DExpr.c_eq]; exact Sub.refl _) | exact Sub.ipAt rfl rfl rfl | exact Sub.ip (map_get (by omega)) (by simp) | exact Sub.ipAt (map_get (by omega)) rfl rfl | exact Sub.ip (by simp [*]) (by simp) | exact Sub.ipAt (by simp [*]) (by rfl) (by rfl)))) ?_ | refine HFnF.mk ((l08Form s.fJob s.fParts[k]).sub (by repeat' (first | exact SubL.nil | refine SubL.cons ?_ ?_ | exact Sub.refl _ | (rw [DExpr.c_eq]; exact Sub.refl _) | exact Sub.ipAt rfl rfl rfl | exact Sub.ip (map_get (by omega)) (by simp) | exact Sub.ipAt (map_get (by omega)) rfl rfl | exact Sub.ip (by simp [*]) (by simp) | exact Sub.ipAt (by simp [*]) (by rfl) (by rfl)))) ?_
      simp (maxSteps := 1000000) -dsimp -implicitDefEqProofs only [go_sem, ↓reduceIte, keep27, ib27, mk27, Try.f27, g1, g2, g3, g4, DPart.c_eq]
      repeat' (with_reducible first | intro _ | refine And.intro ?_ ?_)
      all_goals try omega
      all_goals try (rename_i q; exact no fun z => q (z.2.2.1 rfl).2)
      refine ⟨k + 1, ?_⟩
      repeat' (with_reducible refine And.intro ?_ ?_)
      all_goals try (rw [IntWalk.i64_in _ (by omega)]; first | rfl | omega)
      all_goals try omega
      all_goals try (repeat' (with_reducible first | exact Heap.le_refl _ | refine (le_upd (by first | assumption | exact And.right (by assumption) | exact upd_none.2 (by assumption))).2 ?_))
      all_goals try (simp only [DService.c_eq]; done)
      exact nx ⟨by assumption, by assumption, fun _ => ⟨hq1, by assumption⟩, fun z => by simp at z⟩
  · have hk' : k = s.fJob.fTerms.length := by omega
    subst hk'
    simp (maxSteps := 1000000) -dsimp -implicitDefEqProofs only [go_sem, ↓reduceIte, keep27, ib27, mk27, Try.f27, Int.lt_irrefl, Nat.lt_irrefl]
    exact (decide_eq_true ⟨hjob, ⟨h1, h2, h3, h4⟩, fun j st ow kn p a b c d => hall j st ow kn p (by have := (List.getElem?_eq_some_iff.1 a).1; omega) a b c d⟩).symm
open Go.Proofs
set_option linter.unusedVariables false
set_option linter.unusedSimpArgs false
def keep9 : List Nat := [0, 1, 2, 3, 4, 5, 41, 43, 44, 45, 46, 65, 99]
def ib9 : List Nat := [1]
def mk9 : Marks := fun id => match id with | 9 => ([], [0, 1, 2, 3, 4, 5, 6, 7, 8, 9, 10, 11, 12, 13, 14, 15, 16, 17, 18, 19, 20, 21, 22, 23, 24, 25, 26, 27, 28, 29, 30, 31, 32, 33], []) | _ => ([], [], [])
set_option maxRecDepth 100000 in
theorem ValidService (s : DService) (hps : s.fJob.fProgram.s ≤ 4194304) : Fn0 Try.prog 9 [.agg s.c] (.bool (decide s.ok)) := by
  have hj := ValidJob s.fJob hps
  simp only [DService.c_eq, DJob.c_eq] at hj ⊢
  refine fn0F 101 keep9 ib9 mk9 mix Try.func9 rfl (by kernel_rfl) (by simp) fun h => ?_
  simp (maxSteps := 1000000) -dsimp -implicitDefEqProofs only [go_sem, ↓reduceIte, keep9, ib9, mk9, Try.f9]
  intro _
  first | refine HFnF.mk (hj) ?_ | refine CallSF.mk (hj) ?_ | refine HFnF.mkAt (hj) ?_ | refine CallSF.mk (FnAt.fn0 (hj)) ?_
  simp (maxSteps := 1000000) -dsimp -implicitDefEqProofs only [go_sem, ↓reduceIte, keep9, ib9, mk9, Try.f9]
  repeat' (with_reducible first | intro _ | refine And.intro ?_ ?_)
  all_goals try (exact (decide_eq_false fun z => by have := z.2.1; omega).symm)
  all_goals try (rename_i hn; exact (decide_eq_false fun z => hn z.1).symm)
  have hjob : s.fJob.ok := by assumption
  have h1 : s.fStamps.length = s.fJob.fTerms.length := by assumption
  have h2 : s.fKnown.length = s.fJob.fTerms.length := by assumption
  have h3 : s.fParts.length = s.fJob.fTerms.length := by assumption
  have h4 : s.fOwners.length = s.fJob.fTerms.length := by assumption
  refine loopF (keep := keep9) (ib := ib9) (mk := mk9) mix (by kernel_rfl) (fun k : Nat => [(1, .ip 9 [s.c] 0 0), (43, sls 1 (fun b => [.bool b]) s.fKnown), (44, I s.fJob.fTerms.length), (45, I k)]) (fun _ => h) (fun k => k ≤ s.fJob.fTerms.length ∧ ∀ (j : Nat) (st ow : Int) (kn : Bool) (p : DPart), j < k → s.fStamps[j]? = some st → s.fOwners[j]? = some ow → s.fKnown[j]? = some kn → s.fParts[j]? = some p → svcAt s.fJob st ow kn p) (fun k => s.fJob.fTerms.length - k) 0 (by refine ⟨by simp [SatL, tget, DService.c_eq, h2], by simp [Heap.le_refl], by simp⟩) ?_
  intro k ⟨hk, hall⟩
  simp only [DService.c_eq]
  rcases Nat.lt_or_ge k s.fJob.fTerms.length with hlt | hge
  · have k1 : k < s.fStamps.length := by omega
    have k2 : k < s.fKnown.length := by omega
    have k3 : k < s.fParts.length := by omega
    have k4 : k < s.fOwners.length := by omega
    have g1 : s.fStamps[k]? = some s.fStamps[k] := List.getElem?_eq_getElem k1
    have g2 : s.fKnown[k]? = some s.fKnown[k] := List.getElem?_eq_getElem k2
    have g3 : s.fParts[k]? = some s.fParts[k] := List.getElem?_eq_getElem k3
    have g4 : s.fOwners[k]? = some s.fOwners[k] := List.getElem?_eq_getElem k4
    have no (q : ¬ svcAt s.fJob s.fStamps[k] s.fOwners[k] s.fKnown[k] s.fParts[k]) : false = decide s.ok := (decide_eq_false fun z => q (z.2.2 k _ _ _ _ g1 g4 g2 g3)).symm
    have nx (q : svcAt s.fJob s.fStamps[k] s.fOwners[k] s.fKnown[k] s.fParts[k]) : ∀ (j : Nat) (st ow : Int) (kn : Bool) (p : DPart), j < k + 1 → s.fStamps[j]? = some st → s.fOwners[j]? = some ow → s.fKnown[j]? = some kn → s.fParts[j]? = some p → svcAt s.fJob st ow kn p := by
      intro j st ow kn p hj a b c d
      rcases Nat.lt_succ_iff_lt_or_eq.1 hj with hj | rfl
      · exact hall j st ow kn p hj a b c d
      · rw [g1] at a; rw [g4] at b; rw [g2] at c; rw [g3] at d
        obtain rfl := Option.some.inj a
        obtain rfl := Option.some.inj b
        obtain rfl := Option.some.inj c
        obtain rfl := Option.some.inj d
        exact q
    cases hkn : s.fKnown[k]
    all_goals
      rw [hkn] at g2 no nx
      simp (maxSteps := 1000000) -dsimp -implicitDefEqProofs only [go_sem, ↓reduceIte, keep9, ib9, mk9, Try.f9, g1, g2, g3, g4, DPart.c_eq]
      repeat' (with_reducible first | intro _ | refine And.intro ?_ ?_)
      all_goals try omega
    all_goals (first | refine HFnF.mk (within s.fStamps[k] 0 50) ?_ | refine CallSF.mk (within s.fStamps[k] 0 50) ?_)
    all_goals simp (maxSteps := 1000000) -dsimp -implicitDefEqProofs only [go_sem, ↓reduceIte, keep9, ib9, mk9, Try.f9, g1, g2, g3, g4, DPart.c_eq]
    all_goals repeat' (with_reducible first | intro _ | refine And.intro ?_ ?_)
    all_goals try omega
    all_goals try (rename_i q; exact no fun z => q z.1)
    all_goals (first | refine HFnF.mk (within s.fOwners[k] (-1) 3) ?_ | refine CallSF.mk (within s.fOwners[k] (-1) 3) ?_)
    all_goals simp (maxSteps := 1000000) -dsimp -implicitDefEqProofs only [go_sem, ↓reduceIte, keep9, ib9, mk9, Try.f9, g1, g2, g3, g4, DPart.c_eq]
    all_goals repeat' (with_reducible first | intro _ | refine And.intro ?_ ?_)
    all_goals try omega
    all_goals try (rename_i q; exact no fun z => q z.2.1)
    · have hsp := (samePart s.fParts[k] ⟨0, 0, []⟩).sub (.cons (.refl _) (.cons (Sub.agg (.cons (.refl (I 0)) (.cons (.refl (I 0)) (.cons (Sub.nil 1 false) .nil)))) .nil))
      simp only [DPart.c_eq] at hsp
      first | refine HFnF.mk (hsp) ?_ | refine CallSF.mk (hsp) ?_ | refine HFnF.mkAt (hsp) ?_ | refine CallSF.mk (FnAt.fn0 (hsp)) ?_
      simp (maxSteps := 1000000) -dsimp -implicitDefEqProofs only [go_sem, ↓reduceIte, keep9, ib9, mk9, Try.f9]
      repeat' (with_reducible first | intro _ | refine And.intro ?_ ?_)
      · rename_i q
        exact no fun z => q (DPart.eq_iff.2 (z.2.2.2 rfl))
      · rename_i q
        have := DPart.eq_iff.1 q
        refine ⟨k + 1, ?_⟩
        repeat' (with_reducible refine And.intro ?_ ?_)
        all_goals try (rw [IntWalk.i64_in _ (by omega)]; first | rfl | omega)
        all_goals try omega
        all_goals try (repeat' (with_reducible first | exact Heap.le_refl _ | refine (le_upd (by first | assumption | exact And.right (by assumption) | exact upd_none.2 (by assumption))).2 ?_))
        all_goals try (simp only [DService.c_eq]; done)
        exact nx ⟨by assumption, by assumption, fun z => by simp at z, fun _ => this⟩
    · have hip := isPart s.fJob s.fParts[k]
      simp only [DPart.c_eq, DJob.c_eq] at hip
      first | refine HFnF.mk (hip) ?_ | refine CallSF.mk (hip) ?_ | refine HFnF.mkAt (hip) ?_ | refine CallSF.mk (FnAt.fn0 (hip)) ?_
      simp (maxSteps := 1000000) -dsimp -implicitDefEqProofs only [go_sem, ↓reduceIte, keep9, ib9, mk9, Try.f9, g1, g2, g3, g4, DPart.c_eq]
      repeat' (with_reducible first | intro _ | refine And.intro ?_ ?_)
      all_goals try omega
      all_goals try (rename_i q; exact no fun z => q (z.2.2.1 rfl).2)
      all_goals try (rename_i q; exact no fun z => q (z.2.2.1 rfl).1)
      refine ⟨k + 1, ?_⟩
      repeat' (with_reducible refine And.intro ?_ ?_)
      all_goals try (rw [IntWalk.i64_in _ (by omega)]; first | rfl | omega)
      all_goals try omega
      all_goals try (repeat' (with_reducible first | exact Heap.le_refl _ | refine (le_upd (by first | assumption | exact And.right (by assumption) | exact upd_none.2 (by assumption))).2 ?_))
      all_goals try (simp only [DService.c_eq]; done)
      exact nx ⟨by assumption, by assumption, fun _ => ⟨by assumption, by assumption⟩, fun z => by simp at z⟩
  · have hk' : k = s.fJob.fTerms.length := by omega
    subst hk'
    simp (maxSteps := 1000000) -dsimp -implicitDefEqProofs only [go_sem, ↓reduceIte, keep9, ib9, mk9, Try.f9, Int.lt_irrefl, Nat.lt_irrefl]
    exact (decide_eq_true ⟨hjob, ⟨h1, h2, h3, h4⟩, fun j st ow kn p a b c d => hall j st ow kn p (by have := (List.getElem?_eq_some_iff.1 a).1; omega) a b c d⟩).symm
def keep7 : List Nat := [0, 1, 2]
def ib7 : List Nat := [1]
def mk7 : Marks := fun _ => ([], [], [])
theorem specValidService (s : DService) (hps : s.fJob.fProgram.s ≤ 4194304) : Fn0 Try.prog 7 [.agg s.c] (.bool (decide s.ok)) := by
  simp only [DService.c_eq]
  refine fn0F 4 keep7 ib7 mk7 mix Try.func7 rfl (by kernel_rfl) (by simp) fun h => ?_
  simp (maxSteps := 1000000) -dsimp -implicitDefEqProofs only [go_sem, ↓reduceIte, keep7, ib7, mk7, Try.f7]
  first | refine CallSF.mk ((l08Ok s hps).sub (by repeat' (first | exact SubL.nil | refine SubL.cons ?_ ?_ | exact Sub.refl _ | (rw [DExpr.c_eq]; exact Sub.refl _) | exact Sub.ipAt rfl rfl rfl | exact Sub.ip (map_get (by omega)) (by simp) | exact Sub.ipAt (map_get (by omega)) rfl rfl | exact Sub.ip (by simp [*]) (by simp) | exact Sub.ipAt (by simp [*]) (by rfl) (by rfl)))) ?_ | refine HFnF.mk ((l08Ok s hps).sub (by repeat' (first | exact SubL.nil | refine SubL.cons ?_ ?_ | exact Sub.refl _ | (rw [DExpr.c_eq]; exact Sub.refl _) | exact Sub.ipAt rfl rfl rfl | exact Sub.ip (map_get (by omega)) (by simp) | exact Sub.ipAt (map_get (by omega)) rfl rfl | exact Sub.ip (by simp [*]) (by simp) | exact Sub.ipAt (by simp [*]) (by rfl) (by rfl)))) ?_
  simp (maxSteps := 1000000) -dsimp -implicitDefEqProofs only [go_sem, ↓reduceIte, keep7, ib7, mk7, Try.f7]
open Go.Proofs
set_option linter.unusedVariables false
set_option linter.unusedSimpArgs false
/-- The terms below k that are neither known nor given. -/
def openUp (kn : List Bool) (ow : List Int) : Nat → List Int
  | 0 => []
  | k + 1 => openUp kn ow k ++ (if kn[k]? = some false ∧ ow[k]? = some (-1) then [(k : Int)] else [])
def openL (kn : List Bool) (ow : List Int) : List Int := openUp kn ow kn.length
theorem openUp_len (kn : List Bool) (ow : List Int) : ∀ k, (openUp kn ow k).length ≤ k
  | 0 => by simp [openUp]
  | k + 1 => by
    have := openUp_len kn ow k
    rw [openUp]
    split <;> simp <;> omega
def keep37 : List Nat := [0, 2, 3, 4, 12, 32]
def ib37 : List Nat := [5, 35]
def mk37 : Marks := fun _ => ([], [], [])
set_option maxRecDepth 100000 in
theorem l08Open (s : DService) (hl : s.fKnown.length = s.fOwners.length) (hb : s.fKnown.length ≤ 1048576) : FnN Try.prog 37 [.ip 9 [s.c] 0 0] (QS (OS (oP I) 1 (openL s.fKnown s.fOwners))) := by
  simp only [DService.c_eq]
  refine fnNF 38 keep37 ib37 mk37 mix Try.func37 rfl (by kernel_rfl) (by simp) fun h => ?_
  simp (maxSteps := 1000000) -dsimp -implicitDefEqProofs only [go_sem, ↓reduceIte, keep37, ib37, mk37, Try.f37]
  repeat' (with_reducible first | intro _ | refine And.intro ?_ ?_)
  all_goals try omega
  refine loopF (keep := keep37) (ib := ib37) (mk := mk37) mix (by kernel_rfl) (fun x : Nat × Option Nat => [(0, .ip 9 [s.c] 0 0), (3, oval 1 (openUp s.fKnown s.fOwners x.1).length x.2), (4, I x.1)]) (fun x => oheap h (.row 1 (((openUp s.fKnown s.fOwners x.1).map fun n => [I n]).map (List.map .v))) x.2) (fun x => x.1 ≤ s.fKnown.length ∧ oside h (openUp s.fKnown s.fOwners x.1) x.2) (fun x => s.fKnown.length - x.1) (0, none) (by simp [SatL, tget, openUp, oval, oheap, oside, Heap.le_refl, DService.c_eq]) ?_
  rintro ⟨k, o⟩ ⟨hk, ho⟩
  simp only [DService.c_eq] at hk ho ⊢
  rcases Nat.lt_or_ge k s.fKnown.length with hlt | hge
  · have g2 : s.fKnown[k]? = some s.fKnown[k] := List.getElem?_eq_getElem hlt
    have g4 : s.fOwners[k]? = some s.fOwners[k] := List.getElem?_eq_getElem (by omega)
    have hul := openUp_len s.fKnown s.fOwners k
    have hno (q : ¬ (s.fKnown[k]? = some false ∧ s.fOwners[k]? = some (-1))) : openUp s.fKnown s.fOwners (k + 1) = openUp s.fKnown s.fOwners k := by rw [openUp, if_neg q, List.append_nil]
    have hyes (q : s.fKnown[k]? = some false ∧ s.fOwners[k]? = some (-1)) : openUp s.fKnown s.fOwners (k + 1) = openUp s.fKnown s.fOwners k ++ [(k : Int)] := by rw [openUp, if_pos q]
    simp (maxSteps := 1000000) -dsimp -implicitDefEqProofs only [go_sem, ↓reduceIte, keep37, ib37, mk37, Try.f37, g2, g4]
    repeat' (with_reducible first | intro _ | refine And.intro ?_ ?_)
    all_goals try omega
    · have hy := hyes ⟨by rw [g2]; congr 1, by rw [g4]; congr 1⟩
      cases o with
      | none =>
        rw [oside_none] at ho
        rw [ho] at hy ⊢
        simp (maxSteps := 1000000) -dsimp -implicitDefEqProofs only [go_sem, ↓reduceIte, keep37, ib37, mk37, Try.f37, oval_none, oheap_none]
        repeat' (with_reducible first | intro _ | refine And.intro ?_ ?_)
        all_goals try omega
        all_goals try (simp; done)
        rename_i n hn
        refine ⟨(k + 1, some n), ?_⟩
        simp only [hy]
        refine ⟨?_, Heap.le_refl _, ?_⟩
        · repeat' (with_reducible first | intro _ | refine And.intro ?_ ?_)
          all_goals first | rfl | trivial | (rw [IntWalk.i64_in _ (by omega)]; omega)
        · repeat' (with_reducible first | intro _ | refine And.intro ?_ ?_)
          all_goals first | omega | exact hn
      | some n =>
        rw [oside_some] at ho
        simp (maxSteps := 1000000) -dsimp -implicitDefEqProofs only [go_sem, ↓reduceIte, keep37, ib37, mk37, Try.f37, oval_some, oheap_some]
        repeat' (with_reducible first | intro _ | refine And.intro ?_ ?_)
        all_goals try omega
        all_goals try (simp; done)
        rename_i b hb
        refine ⟨(k + 1, some b), ?_⟩
        simp only [hy, oheap_some, oval_some, oside_some]
        refine ⟨?_, ?_, ?_⟩
        · repeat' (with_reducible first | intro _ | refine And.intro ?_ ?_)
          all_goals first | rfl | trivial | (rw [IntWalk.i64_in _ (by omega)]; omega) | simp
        · rw [← grow_row]; exact le_app ho
        · repeat' (with_reducible first | intro _ | refine And.intro ?_ ?_)
          all_goals first | omega | exact hb.2
    all_goals
      have hy := hno (by rw [g2, g4]; simp_all)
      refine ⟨(k + 1, o), ?_⟩
      simp only [hy]
      exact ⟨⟨trivial, by rw [IntWalk.i64_in _ (by omega)]; rfl⟩, Heap.le_refl _, ⟨by omega, ho⟩, by omega⟩
  · have hk' : k = s.fKnown.length := by omega
    subst hk'
    simp (maxSteps := 1000000) -dsimp -implicitDefEqProofs only [go_sem, ↓reduceIte, keep37, ib37, mk37, Try.f37, Int.lt_irrefl, Nat.lt_irrefl]
    intro _
    obtain ⟨y, h1, h2, h3⟩ := grown (c := I) (sz := 1) ho
    exact ⟨_, _, _, shift_self _ _, ⟨y, h1, h2.symm, rfl⟩, h3⟩
noncomputable def openRes (s : DService) : List Int × Int := if s.ok then (openL s.fKnown s.fOwners, 0) else ([], 1)
theorem openRes_ok {s : DService} (h : s.ok) : openRes s = (openL s.fKnown s.fOwners, 0) := if_pos h
theorem openRes_no {s : DService} (h : ¬ s.ok) : openRes s = ([], 1) := if_neg h
theorem openRes_len (s : DService) : (openRes s).1.length ≤ s.fKnown.length := by
  unfold openRes; split
  · exact openUp_len _ _ _
  · simp
theorem sub_empty1 (x : HVal) : Sub (.tup [.sl 1 [] true, x]) (.tup [.sl 1 [] false, x]) := Sub.tup (.cons (Sub.loose _ _ _) (.cons (.refl _) .nil))
theorem sub_nil1 (x : HVal) : Sub (.tup [.nilsl, x]) (.tup [.sl 1 [] true, x]) := Sub.tup (.cons (Sub.nil _ _) (.cons (.refl _) .nil))
def keep11 : List Nat := [0, 1, 2, 3, 5]
def ib11 : List Nat := [1, 6]
def mk11 : Marks := fun _ => ([], [], [])
set_option maxRecDepth 100000 in
theorem specOpenTerms (s : DService) (hps : s.s ≤ 1048576) : Fn0 Try.prog 11 [.agg s.c] (.tup [sls 1 (fun n => [I n]) (openRes s).1, I (openRes s).2]) := by
  have h1 := s.s_eq
  have h2 := s.fJob.s_eq
  have hok := l08Ok s (by omega)
  simp only [DService.c_eq] at hok ⊢
  refine fn0S 8 keep11 ib11 mk11 mix Try.func11 rfl (by kernel_rfl) (by simp) fun h => ?_
  simp (maxSteps := 1000000) -dsimp -implicitDefEqProofs only [go_sem, ↓reduceIte, keep11, ib11, mk11, Try.f11]
  repeat' (with_reducible first | intro _ | refine And.intro ?_ ?_)
  first | refine CallSF.mk ((l08Ok s (by omega)).sub (by repeat' (first | exact SubL.nil | refine SubL.cons ?_ ?_ | exact Sub.refl _ | (rw [DExpr.c_eq]; exact Sub.refl _) | exact Sub.ipAt rfl rfl rfl | exact Sub.ip (map_get (by omega)) (by simp) | exact Sub.ipAt (map_get (by omega)) rfl rfl | exact Sub.ip (by simp [*]) (by simp) | exact Sub.ipAt (by simp [*]) (by rfl) (by rfl)))) ?_ | refine HFnF.mk ((l08Ok s (by omega)).sub (by repeat' (first | exact SubL.nil | refine SubL.cons ?_ ?_ | exact Sub.refl _ | (rw [DExpr.c_eq]; exact Sub.refl _) | exact Sub.ipAt rfl rfl rfl | exact Sub.ip (map_get (by omega)) (by simp) | exact Sub.ipAt (map_get (by omega)) rfl rfl | exact Sub.ip (by simp [*]) (by simp) | exact Sub.ipAt (by simp [*]) (by rfl) (by rfl)))) ?_
  simp (maxSteps := 1000000) -dsimp -implicitDefEqProofs only [go_sem, ↓reduceIte, keep11, ib11, mk11, Try.f11]
  repeat' (with_reducible first | intro _ | refine And.intro ?_ ?_)
  all_goals try omega
  · rename_i hs
    rw [openRes_no hs]
    exact Shift.of (sub_empty1 _) (Heap.le_refl _)
  · rename_i hs
    have ho : s.fKnown.length = s.fOwners.length := by have := hs.2.1; omega
    rw [openRes_ok hs]
    first | refine CallSF.mk ((((l08Open s ho (by omega)).fn0S fun y hy => OS.dat (c := fun n => [I n]) (fun _ _ q => oP_dat q) hy)).sub (by repeat' (first | exact SubL.nil | refine SubL.cons ?_ ?_ | exact Sub.refl _ | (rw [DExpr.c_eq]; exact Sub.refl _) | exact Sub.ipAt rfl rfl rfl | exact Sub.ip (map_get (by omega)) (by simp) | exact Sub.ipAt (map_get (by omega)) rfl rfl | exact Sub.ip (by simp [*]) (by simp) | exact Sub.ipAt (by simp [*]) (by rfl) (by rfl)))) ?_ | refine HFnF.mk ((((l08Open s ho (by omega)).fn0S fun y hy => OS.dat (c := fun n => [I n]) (fun _ _ q => oP_dat q) hy)).sub (by repeat' (first | exact SubL.nil | refine SubL.cons ?_ ?_ | exact Sub.refl _ | (rw [DExpr.c_eq]; exact Sub.refl _) | exact Sub.ipAt rfl rfl rfl | exact Sub.ip (map_get (by omega)) (by simp) | exact Sub.ipAt (map_get (by omega)) rfl rfl | exact Sub.ip (by simp [*]) (by simp) | exact Sub.ipAt (by simp [*]) (by rfl) (by rfl)))) ?_
    simp (maxSteps := 1000000) -dsimp -implicitDefEqProofs only [go_sem, ↓reduceIte, keep11, ib11, mk11, Try.f11]
    exact shift_self _ _
def keep12 : List Nat := [0, 1, 2, 3, 4, 5, 6, 9, 12, 13, 14, 15, 28]
def ib12 : List Nat := [1, 10, 31]
def mk12 : Marks := fun _ => ([], [], [])
set_option maxRecDepth 100000 in
theorem OpenTerms (s : DService) (hps : s.s ≤ 1048576) : FnN Try.prog 12 [.agg s.c] (QS (OS (oP I) 1 (openRes s).1) (fun x => .tup [x, I (openRes s).2])) := by
  have h1 := s.s_eq
  have h2 := s.fJob.s_eq
  have hok := ValidService s (by omega)
  simp only [DService.c_eq] at hok ⊢
  refine fnNF 35 keep12 ib12 mk12 mix Try.func12 rfl (by kernel_rfl) (by simp) fun h => ?_
  simp (maxSteps := 1000000) -dsimp -implicitDefEqProofs only [go_sem, ↓reduceIte, keep12, ib12, mk12, Try.f12]
  repeat' (with_reducible first | intro _ | refine And.intro ?_ ?_)
  first | refine HFnF.mk (hok) ?_ | refine CallSF.mk (hok) ?_ | refine HFnF.mkAt (hok) ?_ | refine CallSF.mk (FnAt.fn0 (hok)) ?_
  simp (maxSteps := 1000000) -dsimp -implicitDefEqProofs only [go_sem, ↓reduceIte, keep12, ib12, mk12, Try.f12]
  repeat' (with_reducible first | intro _ | refine And.intro ?_ ?_)
  all_goals try omega
  · rename_i hs
    rw [openRes_no hs]
    exact ⟨_, _, _, Shift.of (sub_nil1 _) (Heap.le_refl _), ⟨.nil 1, OS.nil, rfl, (OV.nil_rows 1).symm⟩, New.nil h⟩
  · rename_i hs _
    have hl : s.fKnown.length = s.fOwners.length := by have := hs.2.1; omega
    rw [openRes_ok hs]
    refine loopF (keep := keep12) (ib := ib12) (mk := mk12) mix (by kernel_rfl) (fun x : Nat × Option Nat => [(1, .ip 9 [s.c] 0 0), (4, oval 1 (openUp s.fKnown s.fOwners x.1).length x.2), (12, sls 1 (fun b => [.bool b]) s.fKnown), (13, I s.fKnown.length), (14, I x.1)]) (fun x => oheap h (.row 1 (((openUp s.fKnown s.fOwners x.1).map fun n => [I n]).map (List.map .v))) x.2) (fun x => x.1 ≤ s.fKnown.length ∧ oside h (openUp s.fKnown s.fOwners x.1) x.2) (fun x => s.fKnown.length - x.1) (0, none) (by simp [SatL, tget, openUp, oval, oheap, oside, Heap.le_refl, DService.c_eq]) ?_
    rintro ⟨k, o⟩ ⟨hk, ho⟩
    simp only [DService.c_eq] at hk ho ⊢
    rcases Nat.lt_or_ge k s.fKnown.length with hlt | hge
    · have g2 : s.fKnown[k]? = some s.fKnown[k] := List.getElem?_eq_getElem hlt
      have g4 : s.fOwners[k]? = some s.fOwners[k] := List.getElem?_eq_getElem (by omega)
      have hul := openUp_len s.fKnown s.fOwners k
      have hno (q : ¬ (s.fKnown[k]? = some false ∧ s.fOwners[k]? = some (-1))) : openUp s.fKnown s.fOwners (k + 1) = openUp s.fKnown s.fOwners k := by rw [openUp, if_neg q, List.append_nil]
      have hyes (q : s.fKnown[k]? = some false ∧ s.fOwners[k]? = some (-1)) : openUp s.fKnown s.fOwners (k + 1) = openUp s.fKnown s.fOwners k ++ [(k : Int)] := by rw [openUp, if_pos q]
      simp (maxSteps := 1000000) -dsimp -implicitDefEqProofs only [go_sem, ↓reduceIte, keep12, ib12, mk12, Try.f12, g2, g4]
      repeat' (with_reducible first | intro _ | refine And.intro ?_ ?_)
      all_goals try omega
      · have hy := hyes ⟨by rw [g2]; congr 1, by rw [g4]; congr 1⟩
        cases o with
        | none =>
          rw [oside_none] at ho
          rw [ho] at hy ⊢
          simp (maxSteps := 1000000) -dsimp -implicitDefEqProofs only [go_sem, ↓reduceIte, keep12, ib12, mk12, Try.f12, oval_none, oheap_none]
          repeat' (with_reducible first | intro _ | refine And.intro ?_ ?_)
          all_goals try omega
          all_goals try (simp; done)
          rename_i n hn
          refine ⟨(k + 1, some n), ?_⟩
          simp only [hy]
          refine ⟨?_, Heap.le_refl _, ?_⟩
          · repeat' (with_reducible first | intro _ | refine And.intro ?_ ?_)
            all_goals first | rfl | trivial | (rw [IntWalk.i64_in _ (by omega)]; omega)
          · repeat' (with_reducible first | intro _ | refine And.intro ?_ ?_)
            all_goals first | omega | exact hn
        | some n =>
          rw [oside_some] at ho
          simp (maxSteps := 1000000) -dsimp -implicitDefEqProofs only [go_sem, ↓reduceIte, keep12, ib12, mk12, Try.f12, oval_some, oheap_some]
          repeat' (with_reducible first | intro _ | refine And.intro ?_ ?_)
          all_goals try omega
          all_goals try (simp; done)
          rename_i b hb
          refine ⟨(k + 1, some b), ?_⟩
          simp only [hy, oheap_some, oval_some, oside_some]
          refine ⟨?_, ?_, ?_⟩
          · repeat' (with_reducible first | intro _ | refine And.intro ?_ ?_)
            all_goals first | rfl | trivial | (rw [IntWalk.i64_in _ (by omega)]; omega) | simp
          · rw [← grow_row]; exact le_app ho
          · repeat' (with_reducible first | intro _ | refine And.intro ?_ ?_)
            all_goals first | omega | exact hb.2
      all_goals
        have hy := hno (by rw [g2, g4]; simp_all)
        refine ⟨(k + 1, o), ?_⟩
        simp only [hy]
        exact ⟨⟨trivial, by rw [IntWalk.i64_in _ (by omega)]; rfl⟩, Heap.le_refl _, ⟨by omega, ho⟩, by omega⟩
    · have hk' : k = s.fKnown.length := by omega
      subst hk'
      simp (maxSteps := 1000000) -dsimp -implicitDefEqProofs only [go_sem, ↓reduceIte, keep12, ib12, mk12, Try.f12, Int.lt_irrefl, Nat.lt_irrefl]
      obtain ⟨y, h1, h2, h3⟩ := grown (c := I) (sz := 1) ho
      exact ⟨_, _, _, shift_self _ _, ⟨y, h1, by rw [h2], rfl⟩, h3⟩
open Go.Proofs
set_option linter.unusedVariables false
set_option linter.unusedSimpArgs false
def keep4 : List Nat := [0, 1, 2, 3, 4, 5, 6, 7, 8, 9, 10, 11, 12, 13, 18, 40, 45, 61, 69, 72, 87, 92, 95]
def ib4 : List Nat := [1]
def mk4 : Marks := fun id => match id with | 10 => ([0, 2, 3], [1, 0, 2, 3, 4], [(0, 2)]) | _ => ([], [], [])
set_option maxRecDepth 100000 in
set_option maxHeartbeats 1000000 in
theorem law_FnExactOpenTerms (a : DService) (h : Heap) : HFn Try.prog 4 [.agg a.c] h fun r _ => r = .bool true := by
  simp only [DService.c_eq]
  refine fnHF 96 keep4 ib4 mk4 mix Try.func4 rfl (by kernel_rfl) (by simp) ?_
  simp (maxSteps := 1000000) -dsimp -implicitDefEqProofs only [go_sem, ↓reduceIte, keep4, ib4, mk4, Try.f4, Bool.true_or, Bool.or_true, Bool.false_or, Bool.or_false, protF, eq_self, decide_true, Bool.not_true, bne_self_eq_false, upd_upd, upd_get, OV.map_val, OV.map_val_nil, OV.val_v, DService.c_eq]
  refine HFnF.mk (sz_Service a 1048576 (by omega) (by omega)) ?_
  generalize hL0 : lft 1048576 (DService.s a) = L0
  have hs0 := lft_step hL0
  simp (maxSteps := 1000000) -dsimp -implicitDefEqProofs only [go_sem, ↓reduceIte, keep4, ib4, mk4, Try.f4, Bool.true_or, Bool.or_true, Bool.false_or, Bool.or_false, protF, eq_self, decide_true, Bool.not_true, bne_self_eq_false, upd_upd, upd_get, OV.map_val, OV.map_val_nil, OV.val_v, DService.c_eq]
  repeat' (with_reducible first | intro _ | refine And.intro ?_ ?_)
  all_goals try (first | exact ⟨_, Heap.le_refl _, rfl⟩ | exact ⟨_, Heap.le_refl _⟩)
  all_goals try omega
  have hn0 := hs0.2 (by omega)
  clear hs0 hL0
  have hz_a : (DService.s a) ≤ 1048576 := by omega
  have hseal := QS.fn0W (OpenTerms a (by omega)) (fun y hy => OS.dat (c := fun n => [I n]) (fun _ _ q => oP_dat q) hy) (wrap_tup [] [I (openRes a).2])
  refine HFnF.mk (to_Service a hz_a) ?_
  simp (maxSteps := 1000000) -dsimp -implicitDefEqProofs only [go_sem, ↓reduceIte, keep4, ib4, mk4, Try.f4, Bool.true_or, Bool.or_true, Bool.false_or, Bool.or_false, protF, eq_self, decide_true, Bool.not_true, bne_self_eq_false, upd_upd, upd_get, OV.map_val, OV.map_val_nil, OV.val_v, DService.c_eq]
  repeat' (with_reducible first | intro _ | refine And.intro ?_ ?_)
  all_goals try trivial
  refine HFnF.mk (specOpenTerms a (by omega)) ?_
  simp (maxSteps := 1000000) -dsimp -implicitDefEqProofs only [go_sem, ↓reduceIte, keep4, ib4, mk4, Try.f4, Bool.true_or, Bool.or_true, Bool.false_or, Bool.or_false, protF, eq_self, decide_true, Bool.not_true, bne_self_eq_false, upd_upd, upd_get, OV.map_val, OV.map_val_nil, OV.val_v, DService.c_eq]
  refine HFnF.wn0 (toO_Service a hz_a)  ?_
  rintro r l1 g1 ⟨e0_, oe0, rfl, rfl⟩ w1 
  have oo0 := oe0
  obtain ⟨ya0_0, ya0_3, ya0_4, ya0_5, ya0_6, ya0_7, ya0_8, rfl, oa0_0, oa0_3, oa0_4, oa0_5, oa0_6, oa0_7, oa0_8⟩ := oo0
  have H0x_1 : Owns g1 (OV.rowsRow [ya0_0, .v (.int .i64 a.fJob.fFunc), .v (.int .i64 a.fJob.fShared), ya0_3, ya0_4, ya0_5, ya0_6, ya0_7, ya0_8]) := w1.owns
  simp (maxSteps := 1000000) -dsimp -implicitDefEqProofs only [go_sem, ↓reduceIte, keep4, ib4, mk4, Try.f4, Bool.true_or, Bool.or_true, Bool.false_or, Bool.or_false, protF, eq_self, decide_true, Bool.not_true, bne_self_eq_false, upd_upd, upd_get, OV.map_val, OV.map_val_nil, OV.val_v, DService.c_eq, oa0_0.flat, oa0_0.one, oa0_3.flat, oa0_3.one, oa0_4.flat, oa0_4.one, oa0_5.flat, oa0_5.one, oa0_6.flat, oa0_6.one, oa0_7.flat, oa0_7.one, oa0_8.flat, oa0_8.one]
  intro nx0 qnx0
  have z1_nx0 := qnx0
  clear qnx0
  refine HFnF.wl1 (OpenTerms a (by omega)) (ViewL.cons (View.aggD [ya0_0, .v (.int .i64 a.fJob.fFunc), .v (.int .i64 a.fJob.fShared), ya0_3, ya0_4, ya0_5, ya0_6, ya0_7, ya0_8] (DService.o_dat oe0) (Owns.up1 z1_nx0 H0x_1)) ViewL.nil) (QS.solid (fun y hy => OS.solm (fun _ _ _ q => oP_sol (fun _ => rfl) q) hy) (fun x hx => by simp [HVal.solid, HVal.solidL, hx])) z1_nx0 ?_
  rintro r l2 g2 ⟨yg_0, og_0, rfl, rfl⟩ w2 z2_nx0
  have H0x_2 : Owns g2 (OV.rowsRow [ya0_0, .v (.int .i64 a.fJob.fFunc), .v (.int .i64 a.fJob.fShared), ya0_3, ya0_4, ya0_5, ya0_6, ya0_7, ya0_8]) := fun p hp => w2.keep (H0x_1 p hp)
  have Hg_2 : Owns g2 yg_0.rows := w2.owns
  have apH0x : ∀ m ∈ namesOf (OV.rowsRow [ya0_0, .v (.int .i64 a.fJob.fFunc), .v (.int .i64 a.fJob.fShared), ya0_3, ya0_4, ya0_5, ya0_6, ya0_7, ya0_8]), m ∉ namesOf yg_0.rows := fun m hm hq => by
    obtain ⟨x, hx⟩ := mem_namesOf.1 hm
    have h1 := w2.fresh m hq
    have h2 := H0x_1 (m, x) hx
    rw [h1] at h2; cases h2
  have nd0 := w1.nodup
  have ndg := w2.nodup
  simp (maxSteps := 1000000) -dsimp -implicitDefEqProofs only [go_sem, ↓reduceIte, keep4, ib4, mk4, Try.f4, Bool.true_or, Bool.or_true, Bool.false_or, Bool.or_false, protF, eq_self, decide_true, Bool.not_true, bne_self_eq_false, upd_upd, upd_get, OV.map_val, OV.map_val_nil, OV.val_v, DService.c_eq, oa0_0.flat, oa0_0.one, oa0_3.flat, oa0_3.one, oa0_4.flat, oa0_4.one, oa0_5.flat, oa0_5.one, oa0_6.flat, oa0_6.one, oa0_7.flat, oa0_7.one, oa0_8.flat, oa0_8.one, og_0.flat, og_0.one]
  refine HFnF.lend0 (eq_Int64S (openRes a).1 (openRes a).1) (ViewL.cons (View.ovD yg_0 (OS.dat (c := (fun n => [I n])) (fun _ _ q => oP_dat q) og_0) (Owns.up1 z2_nx0 Hg_2)) (ViewL.cons (View.same _ _) ViewL.nil)) rfl ?_
  simp (maxSteps := 1000000) -dsimp -implicitDefEqProofs only [go_sem, ↓reduceIte, keep4, ib4, mk4, Try.f4, Bool.true_or, Bool.or_true, Bool.false_or, Bool.or_false, protF, eq_self, decide_true, Bool.not_true, bne_self_eq_false, upd_upd, upd_get, OV.map_val, OV.map_val_nil, OV.val_v, DService.c_eq, oa0_0.flat, oa0_0.one, oa0_3.flat, oa0_3.one, oa0_4.flat, oa0_4.one, oa0_5.flat, oa0_5.one, oa0_6.flat, oa0_6.one, oa0_7.flat, oa0_7.one, oa0_8.flat, oa0_8.one, og_0.flat, og_0.one]
  repeat' (with_reducible first | intro _ | refine And.intro ?_ ?_)
  all_goals try (first | exact ⟨_, Heap.le_refl _, rfl⟩ | exact ⟨_, Heap.le_refl _⟩)
  all_goals try omega
  refine HFnF.mk (to_Service a hz_a) ?_
  simp (maxSteps := 1000000) -dsimp -implicitDefEqProofs only [go_sem, ↓reduceIte, keep4, ib4, mk4, Try.f4, Bool.true_or, Bool.or_true, Bool.false_or, Bool.or_false, protF, eq_self, decide_true, Bool.not_true, bne_self_eq_false, upd_upd, upd_get, OV.map_val, OV.map_val_nil, OV.val_v, DService.c_eq, oa0_0.flat, oa0_0.one, oa0_3.flat, oa0_3.one, oa0_4.flat, oa0_4.one, oa0_5.flat, oa0_5.one, oa0_6.flat, oa0_6.one, oa0_7.flat, oa0_7.one, oa0_8.flat, oa0_8.one, og_0.flat, og_0.one]
  repeat' (with_reducible first | intro _ | refine And.intro ?_ ?_)
  all_goals try trivial
  refine HFnF.lend0 (eq_Service a a) (ViewL.cons (View.aggD [ya0_0, .v (.int .i64 a.fJob.fFunc), .v (.int .i64 a.fJob.fShared), ya0_3, ya0_4, ya0_5, ya0_6, ya0_7, ya0_8] (DService.o_dat oe0) (Owns.up1 z2_nx0 H0x_2)) (ViewL.cons (by first | exact View.same _ _ | (simp only [DService.c_eq]; exact View.same _ _)) ViewL.nil)) rfl ?_
  simp (maxSteps := 1000000) -dsimp -implicitDefEqProofs only [go_sem, ↓reduceIte, keep4, ib4, mk4, Try.f4, Bool.true_or, Bool.or_true, Bool.false_or, Bool.or_false, protF, eq_self, decide_true, Bool.not_true, bne_self_eq_false, upd_upd, upd_get, OV.map_val, OV.map_val_nil, OV.val_v, DService.c_eq, oa0_0.flat, oa0_0.one, oa0_3.flat, oa0_3.one, oa0_4.flat, oa0_4.one, oa0_5.flat, oa0_5.one, oa0_6.flat, oa0_6.one, oa0_7.flat, oa0_7.one, oa0_8.flat, oa0_8.one, og_0.flat, og_0.one]
  repeat' (with_reducible first | intro _ | refine And.intro ?_ ?_)
  all_goals try (first | exact ⟨_, Heap.le_refl _, rfl⟩ | exact ⟨_, Heap.le_refl _⟩)
  all_goals try omega
  have hct0 := DService.o_top a _ oe0
  refine HFnF.wc1 (mark_Service a [ya0_0, .v (.int .i64 a.fJob.fFunc), .v (.int .i64 a.fJob.fShared), ya0_3, ya0_4, ya0_5, ya0_6, ya0_7, ya0_8] (1 : Int) _ oe0 (by omega) (by omega) (Owns.up1 z2_nx0 H0x_2) nd0) H0x_2 z2_nx0 ?_
  rintro g3 cg3 z3_nx0
  obtain ⟨cc0, hcc0⟩ : ∃ z : Int, z = (1 : Int) + ((OV.ctTop [ya0_0, .v (.int .i64 a.fJob.fFunc), .v (.int .i64 a.fJob.fShared), ya0_3, ya0_4, ya0_5, ya0_6, ya0_7, ya0_8] : Nat) : Int) := ⟨_, rfl⟩
  rw [← hcc0]
  have Hg_3 : Owns g3 yg_0.rows := fun p hp => by
    have hm : p.1 ∈ namesOf yg_0.rows := mem_namesOf.2 ⟨p.2, hp⟩
    rw [cg3.upto p.1 (fun hq => apH0x p.1 hq hm)]
    exact Hg_2 p hp
  simp (maxSteps := 1000000) -dsimp -implicitDefEqProofs only [go_sem, ↓reduceIte, keep4, ib4, mk4, Try.f4, Bool.true_or, Bool.or_true, Bool.false_or, Bool.or_false, protF, eq_self, decide_true, Bool.not_true, bne_self_eq_false, upd_upd, upd_get, OV.map_val, OV.map_val_nil, OV.val_v, DService.c_eq, oa0_0.flat, oa0_0.one, oa0_3.flat, oa0_3.one, oa0_4.flat, oa0_4.one, oa0_5.flat, oa0_5.one, oa0_6.flat, oa0_6.one, oa0_7.flat, oa0_7.one, oa0_8.flat, oa0_8.one, og_0.flat, og_0.one]
  repeat' (with_reducible first | intro _ | refine And.intro ?_ ?_)
  all_goals try (first | exact ⟨_, Heap.le_refl _, rfl⟩ | exact ⟨_, Heap.le_refl _⟩)
  all_goals try omega
  refine HFnF.lend0 (eq_Int64S (openRes a).1 (openRes a).1) (ViewL.cons (View.ovD yg_0 (OS.dat (c := (fun n => [I n])) (fun _ _ q => oP_dat q) og_0) (Owns.up1 z3_nx0 Hg_3)) (ViewL.cons (View.same _ _) ViewL.nil)) rfl ?_
  simp (maxSteps := 1000000) -dsimp -implicitDefEqProofs only [go_sem, ↓reduceIte, keep4, ib4, mk4, Try.f4, Bool.true_or, Bool.or_true, Bool.false_or, Bool.or_false, protF, eq_self, decide_true, Bool.not_true, bne_self_eq_false, upd_upd, upd_get, OV.map_val, OV.map_val_nil, OV.val_v, DService.c_eq, oa0_0.flat, oa0_0.one, oa0_3.flat, oa0_3.one, oa0_4.flat, oa0_4.one, oa0_5.flat, oa0_5.one, oa0_6.flat, oa0_6.one, oa0_7.flat, oa0_7.one, oa0_8.flat, oa0_8.one, og_0.flat, og_0.one]
  repeat' (with_reducible first | intro _ | refine And.intro ?_ ?_)
  all_goals try (first | exact ⟨_, Heap.le_refl _, rfl⟩ | exact ⟨_, Heap.le_refl _⟩)
  all_goals try omega
  have hctg : yg_0.ct ≤ 4000000000000000000 := by have h1 := og_0.ctP; have h2 := openRes_len a; have h3 := a.s_eq; omega
  refine HFnF.wc1 (mark_Int64S _ yg_0 1 _ og_0 (by omega) (by omega) (Owns.up1 z3_nx0 Hg_3) ndg) Hg_3 z3_nx0 ?_
  rintro g4 cg4 z4_nx0
  obtain ⟨ccg, hccg⟩ : ∃ z : Int, z = 1 + ((yg_0.ct : Nat) : Int) := ⟨_, rfl⟩
  rw [← hccg]
  simp (maxSteps := 1000000) -dsimp -implicitDefEqProofs only [go_sem, ↓reduceIte, keep4, ib4, mk4, Try.f4, Bool.true_or, Bool.or_true, Bool.false_or, Bool.or_false, protF, eq_self, decide_true, Bool.not_true, bne_self_eq_false, upd_upd, upd_get, OV.map_val, OV.map_val_nil, OV.val_v, DService.c_eq, oa0_0.flat, oa0_0.one, oa0_3.flat, oa0_3.one, oa0_4.flat, oa0_4.one, oa0_5.flat, oa0_5.one, oa0_6.flat, oa0_6.one, oa0_7.flat, oa0_7.one, oa0_8.flat, oa0_8.one, og_0.flat, og_0.one]
  repeat' (with_reducible first | intro _ | refine And.intro ?_ ?_)
  all_goals try (first | exact ⟨_, Heap.le_refl _, rfl⟩ | exact ⟨_, Heap.le_refl _⟩)
  all_goals try omega
  have hh := held_Int64S _ yg_0 1 og_0 (by omega) (by omega)
  rw [← hccg] at hh
  refine HFnF.lend0 hh (ViewL.cons (View.ovM 1 og_0 (Owns.up1 z4_nx0 cg4.owns)) (ViewL.cons (View.same _ _) ViewL.nil)) rfl ?_
  simp (maxSteps := 1000000) -dsimp -implicitDefEqProofs only [go_sem, ↓reduceIte, keep4, ib4, mk4, Try.f4, Bool.true_or, Bool.or_true, Bool.false_or, Bool.or_false, protF, eq_self, decide_true, Bool.not_true, bne_self_eq_false, upd_upd, upd_get, OV.map_val, OV.map_val_nil, OV.val_v, DService.c_eq, oa0_0.flat, oa0_0.one, oa0_3.flat, oa0_3.one, oa0_4.flat, oa0_4.one, oa0_5.flat, oa0_5.one, oa0_6.flat, oa0_6.one, oa0_7.flat, oa0_7.one, oa0_8.flat, oa0_8.one, og_0.flat, og_0.one]
  repeat' (with_reducible first | intro _ | refine And.intro ?_ ?_)
  all_goals try (first | exact ⟨_, Heap.le_refl _, rfl⟩ | exact ⟨_, Heap.le_refl _⟩)
  all_goals try omega
  refine HFnF.mk (to_Service a hz_a) ?_
  simp (maxSteps := 1000000) -dsimp -implicitDefEqProofs only [go_sem, ↓reduceIte, keep4, ib4, mk4, Try.f4, Bool.true_or, Bool.or_true, Bool.false_or, Bool.or_false, protF, eq_self, decide_true, Bool.not_true, bne_self_eq_false, upd_upd, upd_get, OV.map_val, OV.map_val_nil, OV.val_v, DService.c_eq, oa0_0.flat, oa0_0.one, oa0_3.flat, oa0_3.one, oa0_4.flat, oa0_4.one, oa0_5.flat, oa0_5.one, oa0_6.flat, oa0_6.one, oa0_7.flat, oa0_7.one, oa0_8.flat, oa0_8.one, og_0.flat, og_0.one]
  repeat' (with_reducible first | intro _ | refine And.intro ?_ ?_)
  all_goals try trivial
  refine HFnF.mk (hseal) ?_
  simp (maxSteps := 1000000) -dsimp -implicitDefEqProofs only [go_sem, ↓reduceIte, keep4, ib4, mk4, Try.f4, Bool.true_or, Bool.or_true, Bool.false_or, Bool.or_false, protF, eq_self, decide_true, Bool.not_true, bne_self_eq_false, upd_upd, upd_get, OV.map_val, OV.map_val_nil, OV.val_v, DService.c_eq, oa0_0.flat, oa0_0.one, oa0_3.flat, oa0_3.one, oa0_4.flat, oa0_4.one, oa0_5.flat, oa0_5.one, oa0_6.flat, oa0_6.one, oa0_7.flat, oa0_7.one, oa0_8.flat, oa0_8.one, og_0.flat, og_0.one]
  refine HFnF.mk (eq_Int64S (openRes a).1 (openRes a).1) ?_
  simp (maxSteps := 1000000) -dsimp -implicitDefEqProofs only [go_sem, ↓reduceIte, keep4, ib4, mk4, Try.f4, Bool.true_or, Bool.or_true, Bool.false_or, Bool.or_false, protF, eq_self, decide_true, Bool.not_true, bne_self_eq_false, upd_upd, upd_get, OV.map_val, OV.map_val_nil, OV.val_v, DService.c_eq, oa0_0.flat, oa0_0.one, oa0_3.flat, oa0_3.one, oa0_4.flat, oa0_4.one, oa0_5.flat, oa0_5.one, oa0_6.flat, oa0_6.one, oa0_7.flat, oa0_7.one, oa0_8.flat, oa0_8.one, og_0.flat, og_0.one]
  repeat' (with_reducible first | intro _ | refine And.intro ?_ ?_)
  all_goals try (first | exact ⟨_, Heap.le_refl _, rfl⟩ | exact ⟨_, Heap.le_refl _⟩)
  all_goals try omega
  have hh := held_Int64S _ yg_0 1 og_0 (by omega) (by omega)
  rw [← hccg] at hh
  refine HFnF.lend0 hh (ViewL.cons (View.ovM 1 og_0 (Owns.up1 z4_nx0 cg4.owns)) (ViewL.cons (View.same _ _) ViewL.nil)) rfl ?_
  simp (maxSteps := 1000000) -dsimp -implicitDefEqProofs only [go_sem, ↓reduceIte, keep4, ib4, mk4, Try.f4, Bool.true_or, Bool.or_true, Bool.false_or, Bool.or_false, protF, eq_self, decide_true, Bool.not_true, bne_self_eq_false, upd_upd, upd_get, OV.map_val, OV.map_val_nil, OV.val_v, DService.c_eq, oa0_0.flat, oa0_0.one, oa0_3.flat, oa0_3.one, oa0_4.flat, oa0_4.one, oa0_5.flat, oa0_5.one, oa0_6.flat, oa0_6.one, oa0_7.flat, oa0_7.one, oa0_8.flat, oa0_8.one, og_0.flat, og_0.one]
  repeat' (with_reducible first | intro _ | refine And.intro ?_ ?_)
  all_goals try (first | exact ⟨_, Heap.le_refl _, rfl⟩ | exact ⟨_, Heap.le_refl _⟩)
  all_goals try omega


end Go.Hl

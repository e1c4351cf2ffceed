/-
  Contracts of functions and laws of the layer over the walk.
-/
import Derived.Test.YthgfmobhhdmkpaaDa
namespace Go.Hl
open Go.Proofs
set_option linter.unusedVariables false
set_option linter.unusedSimpArgs false


def keep103 : List Nat := [0, 2, 3, 4, 11]
def ib103 : List Nat := []
def mk103 : Marks := fun _ => ([], [])
set_option maxRecDepth 100000 in
theorem to_ExprS (l : List DExpr) (h1 : l.length ≤ 1048576) (hc : ∀ x ∈ l, Fn0 Try.prog 115 [(.agg (DExpr.c x))] (.agg (DExpr.c x))) : Fn0 Try.prog 103 [(sls 5 DExpr.c l)] (sls 5 DExpr.c l) := by
  refine fn0S 23 keep103 ib103 mk103 mix Try.func103 rfl (by kernel_rfl) (by simp) fun h => ?_
  simp -dsimp -implicitDefEqProofs only [go_sem, Try.f103, ↓reduceIte, keep103, ib103, mk103]
  refine fun _ => ⟨by omega, by omega, by omega, by omega, fun n hn => ?_⟩
  refine loopF (keep := keep103) (ib := ib103) (mk := mk103) mix (by kernel_rfl) (fun k : Nat => [(0, (sls 5 DExpr.c l)), (3, .os n 5 0 l.length), (4, I k)]) (fun k => upd h n (.row 5 (fillUp DExpr.c [.int .i64 0, .int .i64 0, .int .i64 0, .int .i64 0, .nilsl] l k))) (fun k => k ≤ l.length) (fun k => l.length - k) 0 (by simp [SatL, tget, Heap.le_refl, fillUp_zero]) ?_
  intro k hk
  rcases Nat.lt_or_ge k l.length with hlt | hge
  · have ea : l[k]? = some l[k] := List.getElem?_eq_getElem hlt
    simp -dsimp -implicitDefEqProofs only [go_sem, ↓reduceIte, keep103, ib103, mk103, Try.f103, ea, fillUp_get _ _ _ _ hlt, DExpr.c_eq]
    refine fun _ => ⟨fun _ => ⟨hlt, ?_⟩, fun hn => absurd hlt hn⟩
    have hx := hc l[k] (List.getElem_mem hlt)
    simp only [DExpr.c_eq] at hx
    refine HFnF.mk hx ?_
    simp -dsimp -implicitDefEqProofs only [go_sem, ↓reduceIte, keep103, ib103, mk103, Try.f103, fillUp_get _ _ _ _ hlt]
    refine ⟨hlt, k + 1, by rw [IntWalk.i64_in _ (by omega)]; rfl, ?_, by omega, by omega⟩
    exact le_fill hlt (by first | rfl | (simp only [List.map_cons, List.map_nil, DExpr.c_eq]))
  · have hk' : k = l.length := by omega
    subst hk'
    simp -dsimp -implicitDefEqProofs only [go_sem, ↓reduceIte, keep103, ib103, mk103, Try.f103, Nat.lt_irrefl]
    rw [fillUp_all]
    exact fun _ => shift_row _ hn (Heap.le_refl _) _ (by simp)

def keep115 : List Nat := [0, 1, 2, 3]
def ib115 : List Nat := [1]
def mk115 : Marks := fun _ => ([], [])
set_option maxRecDepth 100000 in
theorem to_Expr_step (x : DExpr) (hs : x.s ≤ 1048576) (hk : Fn0 Try.prog 103 [(sls 5 DExpr.c x.fKids)] (sls 5 DExpr.c x.fKids)) : Fn0 Try.prog 115 [.agg x.c] (.agg x.c) := by
  rw [DExpr.s_eq] at hs
  simp only [DExpr.c_eq]
  refine fn0S 21 keep115 ib115 mk115 mix Try.func115 rfl (by kernel_rfl) (by simp) fun h => ?_
  simp -dsimp -implicitDefEqProofs only [go_sem, Try.f115, ↓reduceIte, keep115, ib115, mk115]
  intro n2 h2 n3 h3
  have e1 : (n2 = n3) = False := eq_false fun e => h3.1 e.symm
  have e2 : (n3 = n2) = False := eq_false h3.1
  have hzfKids : (x.fKids).length + ((x.fKids).map DExpr.s).sum = (szs DExpr.s x.fKids) := rfl
  refine HFnF.mk hk ?_
  simp -dsimp -implicitDefEqProofs only [go_sem, ↓reduceIte, keep115, ib115, mk115, Try.f115, upd_upd, upd_get, e1, e2]
  exact shift_le (by simp -dsimp -implicitDefEqProofs only [go_sem, h2, h3, e1, e2, upd_get])
theorem to_Expr (x : DExpr) (hs : x.s ≤ 1048576) : Fn0 Try.prog 115 [.agg x.c] (.agg x.c) :=
  to_Expr_step x hs (to_ExprS x.fKids (by rw [DExpr.s_eq] at hs; rw [szs_eq] at hs; omega) fun y hy => to_Expr y (by rw [DExpr.s_eq] at hs; have := sum_mem DExpr.s hy; rw [szs_eq] at hs; omega))
termination_by SizeOf.sizeOf x
decreasing_by exact DExpr.kid_lt hy

def keep85 : List Nat := [0, 1, 2, 3]
def ib85 : List Nat := [1]
def mk85 : Marks := fun _ => ([], [])
set_option maxRecDepth 100000 in
theorem to_Func (x : DFunc) (hs : x.s ≤ 1048576) : Fn0 Try.prog 85 [.agg x.c] (.agg x.c) := by
  rw [DFunc.s_eq] at hs
  simp only [DFunc.c_eq]
  refine fn0S 15 keep85 ib85 mk85 mix Try.func85 rfl (by kernel_rfl) (by simp) fun h => ?_
  simp -dsimp -implicitDefEqProofs only [go_sem, Try.f85, ↓reduceIte, keep85, ib85, mk85]
  intro n2 h2 n3 h3
  have e1 : (n2 = n3) = False := eq_false fun e => h3.1 e.symm
  have e2 : (n3 = n2) = False := eq_false h3.1
  have hzfOuts : (x.fOuts).length + ((x.fOuts).map DExpr.s).sum = (szs DExpr.s x.fOuts) := rfl
  refine HFnF.mk (to_ExprS x.fOuts (by omega) (fun y hy => to_Expr y (by have hq : (DExpr.s y) ≤ ((x.fOuts).map DExpr.s).sum := sum_mem DExpr.s hy; omega))) ?_
  simp -dsimp -implicitDefEqProofs only [go_sem, ↓reduceIte, keep85, ib85, mk85, Try.f85, upd_upd, upd_get, e1, e2]
  exact shift_le (by simp -dsimp -implicitDefEqProofs only [go_sem, h2, h3, e1, e2, upd_get])

def keep69 : List Nat := [0, 2, 3, 4, 11]
def ib69 : List Nat := []
def mk69 : Marks := fun _ => ([], [])
set_option maxRecDepth 100000 in
theorem to_FuncS (l : List DFunc) (h1 : l.length ≤ 1048576) (hc : ∀ x ∈ l, Fn0 Try.prog 85 [(.agg (DFunc.c x))] (.agg (DFunc.c x))) : Fn0 Try.prog 69 [(sls 3 DFunc.c l)] (sls 3 DFunc.c l) := by
  refine fn0S 23 keep69 ib69 mk69 mix Try.func69 rfl (by kernel_rfl) (by simp) fun h => ?_
  simp -dsimp -implicitDefEqProofs only [go_sem, Try.f69, ↓reduceIte, keep69, ib69, mk69]
  refine fun _ => ⟨by omega, by omega, by omega, by omega, fun n hn => ?_⟩
  refine loopF (keep := keep69) (ib := ib69) (mk := mk69) mix (by kernel_rfl) (fun k : Nat => [(0, (sls 3 DFunc.c l)), (3, .os n 3 0 l.length), (4, I k)]) (fun k => upd h n (.row 3 (fillUp DFunc.c [.str [], .int .i64 0, .nilsl] l k))) (fun k => k ≤ l.length) (fun k => l.length - k) 0 (by simp [SatL, tget, Heap.le_refl, fillUp_zero]) ?_
  intro k hk
  rcases Nat.lt_or_ge k l.length with hlt | hge
  · have ea : l[k]? = some l[k] := List.getElem?_eq_getElem hlt
    simp -dsimp -implicitDefEqProofs only [go_sem, ↓reduceIte, keep69, ib69, mk69, Try.f69, ea, fillUp_get _ _ _ _ hlt, DFunc.c_eq]
    refine fun _ => ⟨fun _ => ⟨hlt, ?_⟩, fun hn => absurd hlt hn⟩
    have hx := hc l[k] (List.getElem_mem hlt)
    simp only [DFunc.c_eq] at hx
    refine HFnF.mk hx ?_
    simp -dsimp -implicitDefEqProofs only [go_sem, ↓reduceIte, keep69, ib69, mk69, Try.f69, fillUp_get _ _ _ _ hlt]
    refine ⟨hlt, k + 1, by rw [IntWalk.i64_in _ (by omega)]; rfl, ?_, by omega, by omega⟩
    exact le_fill hlt (by first | rfl | (simp only [List.map_cons, List.map_nil, DFunc.c_eq]))
  · have hk' : k = l.length := by omega
    subst hk'
    simp -dsimp -implicitDefEqProofs only [go_sem, ↓reduceIte, keep69, ib69, mk69, Try.f69, Nat.lt_irrefl]
    rw [fillUp_all]
    exact fun _ => shift_row _ hn (Heap.le_refl _) _ (by simp)

def keep44 : List Nat := [0, 1, 2, 3]
def ib44 : List Nat := [1]
def mk44 : Marks := fun _ => ([], [])
set_option maxRecDepth 100000 in
theorem to_Program (x : DProgram) (hs : x.s ≤ 1048576) : Fn0 Try.prog 44 [.agg x.c] (.agg x.c) := by
  rw [DProgram.s_eq] at hs
  simp only [DProgram.c_eq]
  refine fn0S 9 keep44 ib44 mk44 mix Try.func44 rfl (by kernel_rfl) (by simp) fun h => ?_
  simp -dsimp -implicitDefEqProofs only [go_sem, Try.f44, ↓reduceIte, keep44, ib44, mk44]
  intro n2 h2 n3 h3
  have e1 : (n2 = n3) = False := eq_false fun e => h3.1 e.symm
  have e2 : (n3 = n2) = False := eq_false h3.1
  have hzfFuncs : (x.fFuncs).length + ((x.fFuncs).map DFunc.s).sum = (szs DFunc.s x.fFuncs) := rfl
  refine HFnF.mk (to_FuncS x.fFuncs (by omega) (fun y hy => to_Func y (by have hq : (DFunc.s y) ≤ ((x.fFuncs).map DFunc.s).sum := sum_mem DFunc.s hy; omega))) ?_
  simp -dsimp -implicitDefEqProofs only [go_sem, ↓reduceIte, keep44, ib44, mk44, Try.f44, upd_upd, upd_get, e1, e2]
  exact shift_le (by simp -dsimp -implicitDefEqProofs only [go_sem, h2, h3, e1, e2, upd_get])

def keep28 : List Nat := [0, 2, 3, 4, 11]
def ib28 : List Nat := []
def mk28 : Marks := fun _ => ([], [])
set_option maxRecDepth 100000 in
theorem to_Int64S (l : List Int) (h1 : l.length ≤ 1048576) : Fn0 Try.prog 28 [(sls 1 (fun n => [I n]) l)] (sls 1 (fun n => [I n]) l) := by
  refine fn0S 22 keep28 ib28 mk28 mix Try.func28 rfl (by kernel_rfl) (by simp) fun h => ?_
  simp -dsimp -implicitDefEqProofs only [go_sem, Try.f28, ↓reduceIte, keep28, ib28, mk28]
  refine fun _ => ⟨by omega, by omega, by omega, by omega, fun n hn => ?_⟩
  refine loopF (keep := keep28) (ib := ib28) (mk := mk28) mix (by kernel_rfl) (fun k : Nat => [(0, (sls 1 (fun n => [I n]) l)), (3, .os n 1 0 l.length), (4, I k)]) (fun k => upd h n (.row 1 (fillUp (fun n => [I n]) [.int .i64 0] l k))) (fun k => k ≤ l.length) (fun k => l.length - k) 0 (by simp [SatL, tget, Heap.le_refl, fillUp_zero]) ?_
  intro k hk
  rcases Nat.lt_or_ge k l.length with hlt | hge
  · have ea : l[k]? = some l[k] := List.getElem?_eq_getElem hlt
    simp -dsimp -implicitDefEqProofs only [go_sem, ↓reduceIte, keep28, ib28, mk28, Try.f28, ea, fillUp_get _ _ _ _ hlt]
    refine fun _ => ⟨fun _ => ⟨hlt, hlt, k + 1, by rw [IntWalk.i64_in _ (by omega)]; rfl, ?_, by omega, by omega⟩, fun hn => absurd hlt hn⟩
    exact le_fill hlt rfl
  · have hk' : k = l.length := by omega
    subst hk'
    simp -dsimp -implicitDefEqProofs only [go_sem, ↓reduceIte, keep28, ib28, mk28, Try.f28, Nat.lt_irrefl]
    rw [fillUp_all]
    exact fun _ => shift_row _ hn (Heap.le_refl _) _ (by simp)

def keep45 : List Nat := [0, 2, 3, 4, 11]
def ib45 : List Nat := []
def mk45 : Marks := fun _ => ([], [])
set_option maxRecDepth 100000 in
theorem to_Int64SS (l : List (List Int)) (h1 : l.length ≤ 1048576) (hc : ∀ x ∈ l, Fn0 Try.prog 28 [(sls 1 (fun n => [I n]) x)] (sls 1 (fun n => [I n]) x)) : Fn0 Try.prog 45 [(sls 1 (fun x => [sls 1 (fun n => [I n]) x]) l)] (sls 1 (fun x => [sls 1 (fun n => [I n]) x]) l) := by
  refine fn0S 23 keep45 ib45 mk45 mix Try.func45 rfl (by kernel_rfl) (by simp) fun h => ?_
  simp -dsimp -implicitDefEqProofs only [go_sem, Try.f45, ↓reduceIte, keep45, ib45, mk45]
  refine fun _ => ⟨by omega, by omega, by omega, by omega, fun n hn => ?_⟩
  refine loopF (keep := keep45) (ib := ib45) (mk := mk45) mix (by kernel_rfl) (fun k : Nat => [(0, (sls 1 (fun x => [sls 1 (fun n => [I n]) x]) l)), (3, .os n 1 0 l.length), (4, I k)]) (fun k => upd h n (.row 1 (fillUp (fun x => [sls 1 (fun n => [I n]) x]) [.nilsl] l k))) (fun k => k ≤ l.length) (fun k => l.length - k) 0 (by simp [SatL, tget, Heap.le_refl, fillUp_zero]) ?_
  intro k hk
  rcases Nat.lt_or_ge k l.length with hlt | hge
  · have ea : l[k]? = some l[k] := List.getElem?_eq_getElem hlt
    simp -dsimp -implicitDefEqProofs only [go_sem, ↓reduceIte, keep45, ib45, mk45, Try.f45, ea, fillUp_get _ _ _ _ hlt]
    refine fun _ => ⟨fun _ => ⟨hlt, ?_⟩, fun hn => absurd hlt hn⟩
    have hx := hc l[k] (List.getElem_mem hlt)
    refine HFnF.mk hx ?_
    simp -dsimp -implicitDefEqProofs only [go_sem, ↓reduceIte, keep45, ib45, mk45, Try.f45, fillUp_get _ _ _ _ hlt]
    refine ⟨hlt, k + 1, by rw [IntWalk.i64_in _ (by omega)]; rfl, ?_, by omega, by omega⟩
    exact le_fill hlt (by first | rfl | (simp only [List.map_cons, List.map_nil]))
  · have hk' : k = l.length := by omega
    subst hk'
    simp -dsimp -implicitDefEqProofs only [go_sem, ↓reduceIte, keep45, ib45, mk45, Try.f45, Nat.lt_irrefl]
    rw [fillUp_all]
    exact fun _ => shift_row _ hn (Heap.le_refl _) _ (by simp)

def keep19 : List Nat := [0, 1, 2, 3]
def ib19 : List Nat := [1]
def mk19 : Marks := fun _ => ([], [])
set_option maxRecDepth 100000 in
theorem to_Job (x : DJob) (hs : x.s ≤ 1048576) : Fn0 Try.prog 19 [.agg x.c] (.agg x.c) := by
  rw [DJob.s_eq] at hs
  simp only [DJob.c_eq]
  refine fn0S 23 keep19 ib19 mk19 mix Try.func19 rfl (by kernel_rfl) (by simp) fun h => ?_
  simp -dsimp -implicitDefEqProofs only [go_sem, Try.f19, ↓reduceIte, keep19, ib19, mk19]
  intro n2 h2 n3 h3
  have e1 : (n2 = n3) = False := eq_false fun e => h3.1 e.symm
  have e2 : (n3 = n2) = False := eq_false h3.1
  have hzfTerms : (x.fTerms).length + ((x.fTerms).map (fun x : List Int => x.length)).sum = (szs (fun x : List Int => x.length) x.fTerms) := rfl
  refine HFnF.mk (to_Program x.fProgram (by omega)) ?_
  simp -dsimp -implicitDefEqProofs only [go_sem, ↓reduceIte, keep19, ib19, mk19, Try.f19, upd_upd, upd_get, e1, e2, DProgram.c_eq]
  refine HFnF.mk (to_Int64S x.fPoint (by omega)) ?_
  simp -dsimp -implicitDefEqProofs only [go_sem, ↓reduceIte, keep19, ib19, mk19, Try.f19, upd_upd, upd_get, e1, e2]
  refine HFnF.mk (to_Int64SS x.fTerms (by omega) (fun y hy => to_Int64S y (by have hq : y.length ≤ ((x.fTerms).map (fun x : List Int => x.length)).sum := sum_mem (fun x : List Int => x.length) hy; omega))) ?_
  simp -dsimp -implicitDefEqProofs only [go_sem, ↓reduceIte, keep19, ib19, mk19, Try.f19, upd_upd, upd_get, e1, e2]
  exact shift_le (by simp -dsimp -implicitDefEqProofs only [go_sem, h2, h3, e1, e2, upd_get])


def keep29 : List Nat := [0, 2, 3, 4, 11]
def ib29 : List Nat := []
def mk29 : Marks := fun _ => ([], [])
set_option maxRecDepth 100000 in
theorem to_BoolS (l : List Bool) (h1 : l.length ≤ 1048576) : Fn0 Try.prog 29 [(sls 1 (fun b => [.bool b]) l)] (sls 1 (fun b => [.bool b]) l) := by
  refine fn0S 22 keep29 ib29 mk29 mix Try.func29 rfl (by kernel_rfl) (by simp) fun h => ?_
  simp -dsimp -implicitDefEqProofs only [go_sem, Try.f29, ↓reduceIte, keep29, ib29, mk29]
  refine fun _ => ⟨by omega, by omega, by omega, by omega, fun n hn => ?_⟩
  refine loopF (keep := keep29) (ib := ib29) (mk := mk29) mix (by kernel_rfl) (fun k : Nat => [(0, (sls 1 (fun b => [.bool b]) l)), (3, .os n 1 0 l.length), (4, I k)]) (fun k => upd h n (.row 1 (fillUp (fun b => [.bool b]) [.bool false] l k))) (fun k => k ≤ l.length) (fun k => l.length - k) 0 (by simp [SatL, tget, Heap.le_refl, fillUp_zero]) ?_
  intro k hk
  rcases Nat.lt_or_ge k l.length with hlt | hge
  · have ea : l[k]? = some l[k] := List.getElem?_eq_getElem hlt
    simp -dsimp -implicitDefEqProofs only [go_sem, ↓reduceIte, keep29, ib29, mk29, Try.f29, ea, fillUp_get _ _ _ _ hlt]
    refine fun _ => ⟨fun _ => ⟨hlt, hlt, k + 1, by rw [IntWalk.i64_in _ (by omega)]; rfl, ?_, by omega, by omega⟩, fun hn => absurd hlt hn⟩
    exact le_fill hlt rfl
  · have hk' : k = l.length := by omega
    subst hk'
    simp -dsimp -implicitDefEqProofs only [go_sem, ↓reduceIte, keep29, ib29, mk29, Try.f29, Nat.lt_irrefl]
    rw [fillUp_all]
    exact fun _ => shift_row _ hn (Heap.le_refl _) _ (by simp)

def keep57 : List Nat := [0, 1, 2, 3]
def ib57 : List Nat := [1]
def mk57 : Marks := fun _ => ([], [])
set_option maxRecDepth 100000 in
theorem to_Part (x : DPart) (hs : x.s ≤ 1048576) : Fn0 Try.prog 57 [.agg x.c] (.agg x.c) := by
  rw [DPart.s_eq] at hs
  simp only [DPart.c_eq]
  refine fn0S 15 keep57 ib57 mk57 mix Try.func57 rfl (by kernel_rfl) (by simp) fun h => ?_
  simp -dsimp -implicitDefEqProofs only [go_sem, Try.f57, ↓reduceIte, keep57, ib57, mk57]
  intro n2 h2 n3 h3
  have e1 : (n2 = n3) = False := eq_false fun e => h3.1 e.symm
  have e2 : (n3 = n2) = False := eq_false h3.1
  refine HFnF.mk (to_Int64S x.fGrad (by omega)) ?_
  simp -dsimp -implicitDefEqProofs only [go_sem, ↓reduceIte, keep57, ib57, mk57, Try.f57, upd_upd, upd_get, e1, e2]
  exact shift_le (by simp -dsimp -implicitDefEqProofs only [go_sem, h2, h3, e1, e2, upd_get])

def keep30 : List Nat := [0, 2, 3, 4, 11]
def ib30 : List Nat := []
def mk30 : Marks := fun _ => ([], [])
set_option maxRecDepth 100000 in
theorem to_PartS (l : List DPart) (h1 : l.length ≤ 1048576) (hc : ∀ x ∈ l, Fn0 Try.prog 57 [(.agg (DPart.c x))] (.agg (DPart.c x))) : Fn0 Try.prog 30 [(sls 3 DPart.c l)] (sls 3 DPart.c l) := by
  refine fn0S 23 keep30 ib30 mk30 mix Try.func30 rfl (by kernel_rfl) (by simp) fun h => ?_
  simp -dsimp -implicitDefEqProofs only [go_sem, Try.f30, ↓reduceIte, keep30, ib30, mk30]
  refine fun _ => ⟨by omega, by omega, by omega, by omega, fun n hn => ?_⟩
  refine loopF (keep := keep30) (ib := ib30) (mk := mk30) mix (by kernel_rfl) (fun k : Nat => [(0, (sls 3 DPart.c l)), (3, .os n 3 0 l.length), (4, I k)]) (fun k => upd h n (.row 3 (fillUp DPart.c [.int .i64 0, .int .i64 0, .nilsl] l k))) (fun k => k ≤ l.length) (fun k => l.length - k) 0 (by simp [SatL, tget, Heap.le_refl, fillUp_zero]) ?_
  intro k hk
  rcases Nat.lt_or_ge k l.length with hlt | hge
  · have ea : l[k]? = some l[k] := List.getElem?_eq_getElem hlt
    simp -dsimp -implicitDefEqProofs only [go_sem, ↓reduceIte, keep30, ib30, mk30, Try.f30, ea, fillUp_get _ _ _ _ hlt, DPart.c_eq]
    refine fun _ => ⟨fun _ => ⟨hlt, ?_⟩, fun hn => absurd hlt hn⟩
    have hx := hc l[k] (List.getElem_mem hlt)
    simp only [DPart.c_eq] at hx
    refine HFnF.mk hx ?_
    simp -dsimp -implicitDefEqProofs only [go_sem, ↓reduceIte, keep30, ib30, mk30, Try.f30, fillUp_get _ _ _ _ hlt]
    refine ⟨hlt, k + 1, by rw [IntWalk.i64_in _ (by omega)]; rfl, ?_, by omega, by omega⟩
    exact le_fill hlt (by first | rfl | (simp only [List.map_cons, List.map_nil, DPart.c_eq]))
  · have hk' : k = l.length := by omega
    subst hk'
    simp -dsimp -implicitDefEqProofs only [go_sem, ↓reduceIte, keep30, ib30, mk30, Try.f30, Nat.lt_irrefl]
    rw [fillUp_all]
    exact fun _ => shift_row _ hn (Heap.le_refl _) _ (by simp)

def keep8 : List Nat := [0, 1, 2, 3]
def ib8 : List Nat := [1]
def mk8 : Marks := fun _ => ([], [])
set_option maxRecDepth 100000 in
theorem to_Service (x : DService) (hs : x.s ≤ 1048576) : Fn0 Try.prog 8 [.agg x.c] (.agg x.c) := by
  rw [DService.s_eq] at hs
  simp only [DService.c_eq]
  refine fn0S 25 keep8 ib8 mk8 mix Try.func8 rfl (by kernel_rfl) (by simp) fun h => ?_
  simp -dsimp -implicitDefEqProofs only [go_sem, Try.f8, ↓reduceIte, keep8, ib8, mk8]
  intro n2 h2 n3 h3
  have e1 : (n2 = n3) = False := eq_false fun e => h3.1 e.symm
  have e2 : (n3 = n2) = False := eq_false h3.1
  have hzfParts : (x.fParts).length + ((x.fParts).map DPart.s).sum = (szs DPart.s x.fParts) := rfl
  refine HFnF.mk (to_Job x.fJob (by omega)) ?_
  simp -dsimp -implicitDefEqProofs only [go_sem, ↓reduceIte, keep8, ib8, mk8, Try.f8, upd_upd, upd_get, e1, e2, DJob.c_eq]
  refine HFnF.mk (to_Int64S x.fStamps (by omega)) ?_
  simp -dsimp -implicitDefEqProofs only [go_sem, ↓reduceIte, keep8, ib8, mk8, Try.f8, upd_upd, upd_get, e1, e2]
  refine HFnF.mk (to_BoolS x.fKnown (by omega)) ?_
  simp -dsimp -implicitDefEqProofs only [go_sem, ↓reduceIte, keep8, ib8, mk8, Try.f8, upd_upd, upd_get, e1, e2]
  refine HFnF.mk (to_PartS x.fParts (by omega) (fun y hy => to_Part y (by have hq : (DPart.s y) ≤ ((x.fParts).map DPart.s).sum := sum_mem DPart.s hy; omega))) ?_
  simp -dsimp -implicitDefEqProofs only [go_sem, ↓reduceIte, keep8, ib8, mk8, Try.f8, upd_upd, upd_get, e1, e2]
  refine HFnF.mk (to_Int64S x.fOwners (by omega)) ?_
  simp -dsimp -implicitDefEqProofs only [go_sem, ↓reduceIte, keep8, ib8, mk8, Try.f8, upd_upd, upd_get, e1, e2]
  exact shift_le (by simp -dsimp -implicitDefEqProofs only [go_sem, h2, h3, e1, e2, upd_get])

end Go.Hl

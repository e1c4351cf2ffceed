/-
  Contracts of functions and laws of the layer over the walk.
-/
import Derived.Test.YthldjpibagallaaDa
namespace Go.Hl
open Go.Proofs
set_option linter.unusedVariables false
set_option linter.unusedSimpArgs false


def keep135 : List Nat := [0, 2, 3, 4, 11]
def ib135 : List Nat := []
def mk135 : Marks := fun _ => ([], [])
set_option maxRecDepth 100000 in
theorem to_ExprS (l : List DExpr) (h1 : l.length ≤ 1048576) (hc : ∀ x ∈ l, Fn0 Try.prog 146 [(.agg (DExpr.c x))] (.agg (DExpr.c x))) : Fn0 Try.prog 135 [(sls 5 DExpr.c l)] (sls 5 DExpr.c l) := by
  refine fn0S 23 keep135 ib135 mk135 mix Try.func135 rfl (by kernel_rfl) (by simp) fun h => ?_
  simp -dsimp -implicitDefEqProofs only [go_sem, Try.f135, ↓reduceIte, keep135, ib135, mk135]
  refine fun _ => ⟨by omega, by omega, by omega, by omega, fun n hn => ?_⟩
  refine loopF (keep := keep135) (ib := ib135) (mk := mk135) mix (by kernel_rfl) (fun k : Nat => [(0, (sls 5 DExpr.c l)), (3, .os n 5 0 l.length), (4, I k)]) (fun k => upd h n (.row 5 (fillUp DExpr.c [.int .i64 0, .int .i64 0, .int .i64 0, .int .i64 0, .nilsl] l k))) (fun k => k ≤ l.length) (fun k => l.length - k) 0 (by simp [SatL, tget, Heap.le_refl, fillUp_zero]) ?_
  intro k hk
  rcases Nat.lt_or_ge k l.length with hlt | hge
  · have ea : l[k]? = some l[k] := List.getElem?_eq_getElem hlt
    simp -dsimp -implicitDefEqProofs only [go_sem, ↓reduceIte, keep135, ib135, mk135, Try.f135, ea, fillUp_get _ _ _ _ hlt, DExpr.c_eq]
    refine fun _ => ⟨fun _ => ⟨hlt, ?_⟩, fun hn => absurd hlt hn⟩
    have hx := hc l[k] (List.getElem_mem hlt)
    simp only [DExpr.c_eq] at hx
    refine HFnF.mk hx ?_
    simp -dsimp -implicitDefEqProofs only [go_sem, ↓reduceIte, keep135, ib135, mk135, Try.f135, fillUp_get _ _ _ _ hlt]
    refine ⟨hlt, k + 1, by rw [IntWalk.i64_in _ (by omega)]; rfl, ?_, by omega, by omega⟩
    exact le_fill hlt (by first | rfl | (simp only [List.map_cons, List.map_nil, DExpr.c_eq]))
  · have hk' : k = l.length := by omega
    subst hk'
    simp -dsimp -implicitDefEqProofs only [go_sem, ↓reduceIte, keep135, ib135, mk135, Try.f135, Nat.lt_irrefl]
    rw [fillUp_all]
    exact fun _ => shift_row _ hn (Heap.le_refl _) _ (by simp)

def keep146 : List Nat := [0, 1, 2, 3]
def ib146 : List Nat := [1]
def mk146 : Marks := fun _ => ([], [])
set_option maxRecDepth 100000 in
theorem to_Expr_step (x : DExpr) (hs : x.s ≤ 1048576) (hk : Fn0 Try.prog 135 [(sls 5 DExpr.c x.fKids)] (sls 5 DExpr.c x.fKids)) : Fn0 Try.prog 146 [.agg x.c] (.agg x.c) := by
  rw [DExpr.s_eq] at hs
  simp only [DExpr.c_eq]
  refine fn0S 21 keep146 ib146 mk146 mix Try.func146 rfl (by kernel_rfl) (by simp) fun h => ?_
  simp -dsimp -implicitDefEqProofs only [go_sem, Try.f146, ↓reduceIte, keep146, ib146, mk146]
  intro n2 h2 n3 h3
  have e1 : (n2 = n3) = False := eq_false fun e => h3.1 e.symm
  have e2 : (n3 = n2) = False := eq_false h3.1
  have hzfKids : (x.fKids).length + ((x.fKids).map DExpr.s).sum = (szs DExpr.s x.fKids) := rfl
  refine HFnF.mk hk ?_
  simp -dsimp -implicitDefEqProofs only [go_sem, ↓reduceIte, keep146, ib146, mk146, Try.f146, upd_upd, upd_get, e1, e2]
  exact shift_le (by simp -dsimp -implicitDefEqProofs only [go_sem, h2, h3, e1, e2, upd_get])
theorem to_Expr (x : DExpr) (hs : x.s ≤ 1048576) : Fn0 Try.prog 146 [.agg x.c] (.agg x.c) :=
  to_Expr_step x hs (to_ExprS x.fKids (by rw [DExpr.s_eq] at hs; rw [szs_eq] at hs; omega) fun y hy => to_Expr y (by rw [DExpr.s_eq] at hs; have := sum_mem DExpr.s hy; rw [szs_eq] at hs; omega))
termination_by SizeOf.sizeOf x
decreasing_by exact DExpr.kid_lt hy

def keep122 : List Nat := [0, 1, 2, 3]
def ib122 : List Nat := [1]
def mk122 : Marks := fun _ => ([], [])
set_option maxRecDepth 100000 in
theorem to_Func (x : DFunc) (hs : x.s ≤ 1048576) : Fn0 Try.prog 122 [.agg x.c] (.agg x.c) := by
  rw [DFunc.s_eq] at hs
  simp only [DFunc.c_eq]
  refine fn0S 15 keep122 ib122 mk122 mix Try.func122 rfl (by kernel_rfl) (by simp) fun h => ?_
  simp -dsimp -implicitDefEqProofs only [go_sem, Try.f122, ↓reduceIte, keep122, ib122, mk122]
  intro n2 h2 n3 h3
  have e1 : (n2 = n3) = False := eq_false fun e => h3.1 e.symm
  have e2 : (n3 = n2) = False := eq_false h3.1
  have hzfOuts : (x.fOuts).length + ((x.fOuts).map DExpr.s).sum = (szs DExpr.s x.fOuts) := rfl
  refine HFnF.mk (to_ExprS x.fOuts (by omega) (fun y hy => to_Expr y (by have hq : (DExpr.s y) ≤ ((x.fOuts).map DExpr.s).sum := sum_mem DExpr.s hy; omega))) ?_
  simp -dsimp -implicitDefEqProofs only [go_sem, ↓reduceIte, keep122, ib122, mk122, Try.f122, upd_upd, upd_get, e1, e2]
  exact shift_le (by simp -dsimp -implicitDefEqProofs only [go_sem, h2, h3, e1, e2, upd_get])

def keep100 : List Nat := [0, 2, 3, 4, 11]
def ib100 : List Nat := []
def mk100 : Marks := fun _ => ([], [])
set_option maxRecDepth 100000 in
theorem to_FuncS (l : List DFunc) (h1 : l.length ≤ 1048576) (hc : ∀ x ∈ l, Fn0 Try.prog 122 [(.agg (DFunc.c x))] (.agg (DFunc.c x))) : Fn0 Try.prog 100 [(sls 3 DFunc.c l)] (sls 3 DFunc.c l) := by
  refine fn0S 23 keep100 ib100 mk100 mix Try.func100 rfl (by kernel_rfl) (by simp) fun h => ?_
  simp -dsimp -implicitDefEqProofs only [go_sem, Try.f100, ↓reduceIte, keep100, ib100, mk100]
  refine fun _ => ⟨by omega, by omega, by omega, by omega, fun n hn => ?_⟩
  refine loopF (keep := keep100) (ib := ib100) (mk := mk100) mix (by kernel_rfl) (fun k : Nat => [(0, (sls 3 DFunc.c l)), (3, .os n 3 0 l.length), (4, I k)]) (fun k => upd h n (.row 3 (fillUp DFunc.c [.str [], .int .i64 0, .nilsl] l k))) (fun k => k ≤ l.length) (fun k => l.length - k) 0 (by simp [SatL, tget, Heap.le_refl, fillUp_zero]) ?_
  intro k hk
  rcases Nat.lt_or_ge k l.length with hlt | hge
  · have ea : l[k]? = some l[k] := List.getElem?_eq_getElem hlt
    simp -dsimp -implicitDefEqProofs only [go_sem, ↓reduceIte, keep100, ib100, mk100, Try.f100, ea, fillUp_get _ _ _ _ hlt, DFunc.c_eq]
    refine fun _ => ⟨fun _ => ⟨hlt, ?_⟩, fun hn => absurd hlt hn⟩
    have hx := hc l[k] (List.getElem_mem hlt)
    simp only [DFunc.c_eq] at hx
    refine HFnF.mk hx ?_
    simp -dsimp -implicitDefEqProofs only [go_sem, ↓reduceIte, keep100, ib100, mk100, Try.f100, fillUp_get _ _ _ _ hlt]
    refine ⟨hlt, k + 1, by rw [IntWalk.i64_in _ (by omega)]; rfl, ?_, by omega, by omega⟩
    exact le_fill hlt (by first | rfl | (simp only [List.map_cons, List.map_nil, DFunc.c_eq]))
  · have hk' : k = l.length := by omega
    subst hk'
    simp -dsimp -implicitDefEqProofs only [go_sem, ↓reduceIte, keep100, ib100, mk100, Try.f100, Nat.lt_irrefl]
    rw [fillUp_all]
    exact fun _ => shift_row _ hn (Heap.le_refl _) _ (by simp)

def keep63 : List Nat := [0, 1, 2, 3]
def ib63 : List Nat := [1]
def mk63 : Marks := fun _ => ([], [])
set_option maxRecDepth 100000 in
theorem to_Program (x : DProgram) (hs : x.s ≤ 1048576) : Fn0 Try.prog 63 [.agg x.c] (.agg x.c) := by
  rw [DProgram.s_eq] at hs
  simp only [DProgram.c_eq]
  refine fn0S 9 keep63 ib63 mk63 mix Try.func63 rfl (by kernel_rfl) (by simp) fun h => ?_
  simp -dsimp -implicitDefEqProofs only [go_sem, Try.f63, ↓reduceIte, keep63, ib63, mk63]
  intro n2 h2 n3 h3
  have e1 : (n2 = n3) = False := eq_false fun e => h3.1 e.symm
  have e2 : (n3 = n2) = False := eq_false h3.1
  have hzfFuncs : (x.fFuncs).length + ((x.fFuncs).map DFunc.s).sum = (szs DFunc.s x.fFuncs) := rfl
  refine HFnF.mk (to_FuncS x.fFuncs (by omega) (fun y hy => to_Func y (by have hq : (DFunc.s y) ≤ ((x.fFuncs).map DFunc.s).sum := sum_mem DFunc.s hy; omega))) ?_
  simp -dsimp -implicitDefEqProofs only [go_sem, ↓reduceIte, keep63, ib63, mk63, Try.f63, upd_upd, upd_get, e1, e2]
  exact shift_le (by simp -dsimp -implicitDefEqProofs only [go_sem, h2, h3, e1, e2, upd_get])

def keep9 : List Nat := [0, 2, 3, 4, 11]
def ib9 : List Nat := []
def mk9 : Marks := fun _ => ([], [])
set_option maxRecDepth 100000 in
theorem to_Int64S (l : List Int) (h1 : l.length ≤ 1048576) : Fn0 Try.prog 9 [(sls 1 (fun n => [I n]) l)] (sls 1 (fun n => [I n]) l) := by
  refine fn0S 22 keep9 ib9 mk9 mix Try.func9 rfl (by kernel_rfl) (by simp) fun h => ?_
  simp -dsimp -implicitDefEqProofs only [go_sem, Try.f9, ↓reduceIte, keep9, ib9, mk9]
  refine fun _ => ⟨by omega, by omega, by omega, by omega, fun n hn => ?_⟩
  refine loopF (keep := keep9) (ib := ib9) (mk := mk9) mix (by kernel_rfl) (fun k : Nat => [(0, (sls 1 (fun n => [I n]) l)), (3, .os n 1 0 l.length), (4, I k)]) (fun k => upd h n (.row 1 (fillUp (fun n => [I n]) [.int .i64 0] l k))) (fun k => k ≤ l.length) (fun k => l.length - k) 0 (by simp [SatL, tget, Heap.le_refl, fillUp_zero]) ?_
  intro k hk
  rcases Nat.lt_or_ge k l.length with hlt | hge
  · have ea : l[k]? = some l[k] := List.getElem?_eq_getElem hlt
    simp -dsimp -implicitDefEqProofs only [go_sem, ↓reduceIte, keep9, ib9, mk9, Try.f9, ea, fillUp_get _ _ _ _ hlt]
    refine fun _ => ⟨fun _ => ⟨hlt, hlt, k + 1, by rw [IntWalk.i64_in _ (by omega)]; rfl, ?_, by omega, by omega⟩, fun hn => absurd hlt hn⟩
    exact le_fill hlt rfl
  · have hk' : k = l.length := by omega
    subst hk'
    simp -dsimp -implicitDefEqProofs only [go_sem, ↓reduceIte, keep9, ib9, mk9, Try.f9, Nat.lt_irrefl]
    rw [fillUp_all]
    exact fun _ => shift_row _ hn (Heap.le_refl _) _ (by simp)

def keep64 : List Nat := [0, 2, 3, 4, 11]
def ib64 : List Nat := []
def mk64 : Marks := fun _ => ([], [])
set_option maxRecDepth 100000 in
theorem to_Int64SS (l : List (List Int)) (h1 : l.length ≤ 1048576) (hc : ∀ x ∈ l, Fn0 Try.prog 9 [(sls 1 (fun n => [I n]) x)] (sls 1 (fun n => [I n]) x)) : Fn0 Try.prog 64 [(sls 1 (fun x => [sls 1 (fun n => [I n]) x]) l)] (sls 1 (fun x => [sls 1 (fun n => [I n]) x]) l) := by
  refine fn0S 23 keep64 ib64 mk64 mix Try.func64 rfl (by kernel_rfl) (by simp) fun h => ?_
  simp -dsimp -implicitDefEqProofs only [go_sem, Try.f64, ↓reduceIte, keep64, ib64, mk64]
  refine fun _ => ⟨by omega, by omega, by omega, by omega, fun n hn => ?_⟩
  refine loopF (keep := keep64) (ib := ib64) (mk := mk64) mix (by kernel_rfl) (fun k : Nat => [(0, (sls 1 (fun x => [sls 1 (fun n => [I n]) x]) l)), (3, .os n 1 0 l.length), (4, I k)]) (fun k => upd h n (.row 1 (fillUp (fun x => [sls 1 (fun n => [I n]) x]) [.nilsl] l k))) (fun k => k ≤ l.length) (fun k => l.length - k) 0 (by simp [SatL, tget, Heap.le_refl, fillUp_zero]) ?_
  intro k hk
  rcases Nat.lt_or_ge k l.length with hlt | hge
  · have ea : l[k]? = some l[k] := List.getElem?_eq_getElem hlt
    simp -dsimp -implicitDefEqProofs only [go_sem, ↓reduceIte, keep64, ib64, mk64, Try.f64, ea, fillUp_get _ _ _ _ hlt]
    refine fun _ => ⟨fun _ => ⟨hlt, ?_⟩, fun hn => absurd hlt hn⟩
    have hx := hc l[k] (List.getElem_mem hlt)
    refine HFnF.mk hx ?_
    simp -dsimp -implicitDefEqProofs only [go_sem, ↓reduceIte, keep64, ib64, mk64, Try.f64, fillUp_get _ _ _ _ hlt]
    refine ⟨hlt, k + 1, by rw [IntWalk.i64_in _ (by omega)]; rfl, ?_, by omega, by omega⟩
    exact le_fill hlt (by first | rfl | (simp only [List.map_cons, List.map_nil]))
  · have hk' : k = l.length := by omega
    subst hk'
    simp -dsimp -implicitDefEqProofs only [go_sem, ↓reduceIte, keep64, ib64, mk64, Try.f64, Nat.lt_irrefl]
    rw [fillUp_all]
    exact fun _ => shift_row _ hn (Heap.le_refl _) _ (by simp)

def keep23 : List Nat := [0, 1, 2, 3]
def ib23 : List Nat := [1]
def mk23 : Marks := fun _ => ([], [])
set_option maxRecDepth 100000 in
theorem to_Job (x : DJob) (hs : x.s ≤ 1048576) : Fn0 Try.prog 23 [.agg x.c] (.agg x.c) := by
  rw [DJob.s_eq] at hs
  simp only [DJob.c_eq]
  refine fn0S 23 keep23 ib23 mk23 mix Try.func23 rfl (by kernel_rfl) (by simp) fun h => ?_
  simp -dsimp -implicitDefEqProofs only [go_sem, Try.f23, ↓reduceIte, keep23, ib23, mk23]
  intro n2 h2 n3 h3
  have e1 : (n2 = n3) = False := eq_false fun e => h3.1 e.symm
  have e2 : (n3 = n2) = False := eq_false h3.1
  have hzfTerms : (x.fTerms).length + ((x.fTerms).map (fun x : List Int => x.length)).sum = (szs (fun x : List Int => x.length) x.fTerms) := rfl
  refine HFnF.mk (to_Program x.fProgram (by omega)) ?_
  simp -dsimp -implicitDefEqProofs only [go_sem, ↓reduceIte, keep23, ib23, mk23, Try.f23, upd_upd, upd_get, e1, e2, DProgram.c_eq]
  refine HFnF.mk (to_Int64S x.fPoint (by omega)) ?_
  simp -dsimp -implicitDefEqProofs only [go_sem, ↓reduceIte, keep23, ib23, mk23, Try.f23, upd_upd, upd_get, e1, e2]
  refine HFnF.mk (to_Int64SS x.fTerms (by omega) (fun y hy => to_Int64S y (by have hq : y.length ≤ ((x.fTerms).map (fun x : List Int => x.length)).sum := sum_mem (fun x : List Int => x.length) hy; omega))) ?_
  simp -dsimp -implicitDefEqProofs only [go_sem, ↓reduceIte, keep23, ib23, mk23, Try.f23, upd_upd, upd_get, e1, e2]
  exact shift_le (by simp -dsimp -implicitDefEqProofs only [go_sem, h2, h3, e1, e2, upd_get])


def keep51 : List Nat := [0, 2, 3, 4, 11]
def ib51 : List Nat := []
def mk51 : Marks := fun _ => ([], [])
set_option maxRecDepth 100000 in
theorem to_BoolS (l : List Bool) (h1 : l.length ≤ 1048576) : Fn0 Try.prog 51 [(sls 1 (fun b => [.bool b]) l)] (sls 1 (fun b => [.bool b]) l) := by
  refine fn0S 22 keep51 ib51 mk51 mix Try.func51 rfl (by kernel_rfl) (by simp) fun h => ?_
  simp -dsimp -implicitDefEqProofs only [go_sem, Try.f51, ↓reduceIte, keep51, ib51, mk51]
  refine fun _ => ⟨by omega, by omega, by omega, by omega, fun n hn => ?_⟩
  refine loopF (keep := keep51) (ib := ib51) (mk := mk51) mix (by kernel_rfl) (fun k : Nat => [(0, (sls 1 (fun b => [.bool b]) l)), (3, .os n 1 0 l.length), (4, I k)]) (fun k => upd h n (.row 1 (fillUp (fun b => [.bool b]) [.bool false] l k))) (fun k => k ≤ l.length) (fun k => l.length - k) 0 (by simp [SatL, tget, Heap.le_refl, fillUp_zero]) ?_
  intro k hk
  rcases Nat.lt_or_ge k l.length with hlt | hge
  · have ea : l[k]? = some l[k] := List.getElem?_eq_getElem hlt
    simp -dsimp -implicitDefEqProofs only [go_sem, ↓reduceIte, keep51, ib51, mk51, Try.f51, ea, fillUp_get _ _ _ _ hlt]
    refine fun _ => ⟨fun _ => ⟨hlt, hlt, k + 1, by rw [IntWalk.i64_in _ (by omega)]; rfl, ?_, by omega, by omega⟩, fun hn => absurd hlt hn⟩
    exact le_fill hlt rfl
  · have hk' : k = l.length := by omega
    subst hk'
    simp -dsimp -implicitDefEqProofs only [go_sem, ↓reduceIte, keep51, ib51, mk51, Try.f51, Nat.lt_irrefl]
    rw [fillUp_all]
    exact fun _ => shift_row _ hn (Heap.le_refl _) _ (by simp)

def keep92 : List Nat := [0, 1, 2, 3]
def ib92 : List Nat := [1]
def mk92 : Marks := fun _ => ([], [])
set_option maxRecDepth 100000 in
theorem to_Part (x : DPart) (hs : x.s ≤ 1048576) : Fn0 Try.prog 92 [.agg x.c] (.agg x.c) := by
  rw [DPart.s_eq] at hs
  simp only [DPart.c_eq]
  refine fn0S 15 keep92 ib92 mk92 mix Try.func92 rfl (by kernel_rfl) (by simp) fun h => ?_
  simp -dsimp -implicitDefEqProofs only [go_sem, Try.f92, ↓reduceIte, keep92, ib92, mk92]
  intro n2 h2 n3 h3
  have e1 : (n2 = n3) = False := eq_false fun e => h3.1 e.symm
  have e2 : (n3 = n2) = False := eq_false h3.1
  refine HFnF.mk (to_Int64S x.fGrad (by omega)) ?_
  simp -dsimp -implicitDefEqProofs only [go_sem, ↓reduceIte, keep92, ib92, mk92, Try.f92, upd_upd, upd_get, e1, e2]
  exact shift_le (by simp -dsimp -implicitDefEqProofs only [go_sem, h2, h3, e1, e2, upd_get])

def keep52 : List Nat := [0, 2, 3, 4, 11]
def ib52 : List Nat := []
def mk52 : Marks := fun _ => ([], [])
set_option maxRecDepth 100000 in
theorem to_PartS (l : List DPart) (h1 : l.length ≤ 1048576) (hc : ∀ x ∈ l, Fn0 Try.prog 92 [(.agg (DPart.c x))] (.agg (DPart.c x))) : Fn0 Try.prog 52 [(sls 3 DPart.c l)] (sls 3 DPart.c l) := by
  refine fn0S 23 keep52 ib52 mk52 mix Try.func52 rfl (by kernel_rfl) (by simp) fun h => ?_
  simp -dsimp -implicitDefEqProofs only [go_sem, Try.f52, ↓reduceIte, keep52, ib52, mk52]
  refine fun _ => ⟨by omega, by omega, by omega, by omega, fun n hn => ?_⟩
  refine loopF (keep := keep52) (ib := ib52) (mk := mk52) mix (by kernel_rfl) (fun k : Nat => [(0, (sls 3 DPart.c l)), (3, .os n 3 0 l.length), (4, I k)]) (fun k => upd h n (.row 3 (fillUp DPart.c [.int .i64 0, .int .i64 0, .nilsl] l k))) (fun k => k ≤ l.length) (fun k => l.length - k) 0 (by simp [SatL, tget, Heap.le_refl, fillUp_zero]) ?_
  intro k hk
  rcases Nat.lt_or_ge k l.length with hlt | hge
  · have ea : l[k]? = some l[k] := List.getElem?_eq_getElem hlt
    simp -dsimp -implicitDefEqProofs only [go_sem, ↓reduceIte, keep52, ib52, mk52, Try.f52, ea, fillUp_get _ _ _ _ hlt, DPart.c_eq]
    refine fun _ => ⟨fun _ => ⟨hlt, ?_⟩, fun hn => absurd hlt hn⟩
    have hx := hc l[k] (List.getElem_mem hlt)
    simp only [DPart.c_eq] at hx
    refine HFnF.mk hx ?_
    simp -dsimp -implicitDefEqProofs only [go_sem, ↓reduceIte, keep52, ib52, mk52, Try.f52, fillUp_get _ _ _ _ hlt]
    refine ⟨hlt, k + 1, by rw [IntWalk.i64_in _ (by omega)]; rfl, ?_, by omega, by omega⟩
    exact le_fill hlt (by first | rfl | (simp only [List.map_cons, List.map_nil, DPart.c_eq]))
  · have hk' : k = l.length := by omega
    subst hk'
    simp -dsimp -implicitDefEqProofs only [go_sem, ↓reduceIte, keep52, ib52, mk52, Try.f52, Nat.lt_irrefl]
    rw [fillUp_all]
    exact fun _ => shift_row _ hn (Heap.le_refl _) _ (by simp)

def keep18 : List Nat := [0, 1, 2, 3]
def ib18 : List Nat := [1]
def mk18 : Marks := fun _ => ([], [])
set_option maxRecDepth 100000 in
theorem to_Service (x : DService) (hs : x.s ≤ 1048576) : Fn0 Try.prog 18 [.agg x.c] (.agg x.c) := by
  rw [DService.s_eq] at hs
  simp only [DService.c_eq]
  refine fn0S 25 keep18 ib18 mk18 mix Try.func18 rfl (by kernel_rfl) (by simp) fun h => ?_
  simp -dsimp -implicitDefEqProofs only [go_sem, Try.f18, ↓reduceIte, keep18, ib18, mk18]
  intro n2 h2 n3 h3
  have e1 : (n2 = n3) = False := eq_false fun e => h3.1 e.symm
  have e2 : (n3 = n2) = False := eq_false h3.1
  have hzfParts : (x.fParts).length + ((x.fParts).map DPart.s).sum = (szs DPart.s x.fParts) := rfl
  refine HFnF.mk (to_Job x.fJob (by omega)) ?_
  simp -dsimp -implicitDefEqProofs only [go_sem, ↓reduceIte, keep18, ib18, mk18, Try.f18, upd_upd, upd_get, e1, e2, DJob.c_eq]
  refine HFnF.mk (to_Int64S x.fStamps (by omega)) ?_
  simp -dsimp -implicitDefEqProofs only [go_sem, ↓reduceIte, keep18, ib18, mk18, Try.f18, upd_upd, upd_get, e1, e2]
  refine HFnF.mk (to_BoolS x.fKnown (by omega)) ?_
  simp -dsimp -implicitDefEqProofs only [go_sem, ↓reduceIte, keep18, ib18, mk18, Try.f18, upd_upd, upd_get, e1, e2]
  refine HFnF.mk (to_PartS x.fParts (by omega) (fun y hy => to_Part y (by have hq : (DPart.s y) ≤ ((x.fParts).map DPart.s).sum := sum_mem DPart.s hy; omega))) ?_
  simp -dsimp -implicitDefEqProofs only [go_sem, ↓reduceIte, keep18, ib18, mk18, Try.f18, upd_upd, upd_get, e1, e2]
  refine HFnF.mk (to_Int64S x.fOwners (by omega)) ?_
  simp -dsimp -implicitDefEqProofs only [go_sem, ↓reduceIte, keep18, ib18, mk18, Try.f18, upd_upd, upd_get, e1, e2]
  exact shift_le (by simp -dsimp -implicitDefEqProofs only [go_sem, h2, h3, e1, e2, upd_get])

def keep110 : List Nat := [0, 1, 2, 3]
def ib110 : List Nat := [1]
def mk110 : Marks := fun _ => ([], [])
set_option maxRecDepth 100000 in
theorem to_Report (x : DReport) (hs : x.s ≤ 1048576) : Fn0 Try.prog 110 [.agg x.c] (.agg x.c) := by
  rw [DReport.s_eq] at hs
  simp only [DReport.c_eq]
  refine fn0S 15 keep110 ib110 mk110 mix Try.func110 rfl (by kernel_rfl) (by simp) fun h => ?_
  simp -dsimp -implicitDefEqProofs only [go_sem, Try.f110, ↓reduceIte, keep110, ib110, mk110]
  intro n2 h2 n3 h3
  have e1 : (n2 = n3) = False := eq_false fun e => h3.1 e.symm
  have e2 : (n3 = n2) = False := eq_false h3.1
  refine HFnF.mk (to_Part x.fPart (by omega)) ?_
  simp -dsimp -implicitDefEqProofs only [go_sem, ↓reduceIte, keep110, ib110, mk110, Try.f110, upd_upd, upd_get, e1, e2, DPart.c_eq]
  exact shift_le (by simp -dsimp -implicitDefEqProofs only [go_sem, h2, h3, e1, e2, upd_get])

def keep77 : List Nat := [0, 2, 3, 4, 11]
def ib77 : List Nat := []
def mk77 : Marks := fun _ => ([], [])
set_option maxRecDepth 100000 in
theorem to_ReportS (l : List DReport) (h1 : l.length ≤ 1048576) (hc : ∀ x ∈ l, Fn0 Try.prog 110 [(.agg (DReport.c x))] (.agg (DReport.c x))) : Fn0 Try.prog 77 [(sls 5 DReport.c l)] (sls 5 DReport.c l) := by
  refine fn0S 23 keep77 ib77 mk77 mix Try.func77 rfl (by kernel_rfl) (by simp) fun h => ?_
  simp -dsimp -implicitDefEqProofs only [go_sem, Try.f77, ↓reduceIte, keep77, ib77, mk77]
  refine fun _ => ⟨by omega, by omega, by omega, by omega, fun n hn => ?_⟩
  refine loopF (keep := keep77) (ib := ib77) (mk := mk77) mix (by kernel_rfl) (fun k : Nat => [(0, (sls 5 DReport.c l)), (3, .os n 5 0 l.length), (4, I k)]) (fun k => upd h n (.row 5 (fillUp DReport.c [.int .i64 0, .int .i64 0, .int .i64 0, .int .i64 0, .nilsl] l k))) (fun k => k ≤ l.length) (fun k => l.length - k) 0 (by simp [SatL, tget, Heap.le_refl, fillUp_zero]) ?_
  intro k hk
  rcases Nat.lt_or_ge k l.length with hlt | hge
  · have ea : l[k]? = some l[k] := List.getElem?_eq_getElem hlt
    simp -dsimp -implicitDefEqProofs only [go_sem, ↓reduceIte, keep77, ib77, mk77, Try.f77, ea, fillUp_get _ _ _ _ hlt, DReport.c_eq]
    refine fun _ => ⟨fun _ => ⟨hlt, ?_⟩, fun hn => absurd hlt hn⟩
    have hx := hc l[k] (List.getElem_mem hlt)
    simp only [DReport.c_eq] at hx
    refine HFnF.mk hx ?_
    simp -dsimp -implicitDefEqProofs only [go_sem, ↓reduceIte, keep77, ib77, mk77, Try.f77, fillUp_get _ _ _ _ hlt]
    refine ⟨hlt, k + 1, by rw [IntWalk.i64_in _ (by omega)]; rfl, ?_, by omega, by omega⟩
    exact le_fill hlt (by first | rfl | (simp only [List.map_cons, List.map_nil, DReport.c_eq]))
  · have hk' : k = l.length := by omega
    subst hk'
    simp -dsimp -implicitDefEqProofs only [go_sem, ↓reduceIte, keep77, ib77, mk77, Try.f77, Nat.lt_irrefl]
    rw [fillUp_all]
    exact fun _ => shift_row _ hn (Heap.le_refl _) _ (by simp)

def keep76 : List Nat := [0, 2, 3, 4, 11]
def ib76 : List Nat := []
def mk76 : Marks := fun _ => ([], [])
set_option maxRecDepth 100000 in
theorem to_ReportSS (l : List (List DReport)) (h1 : l.length ≤ 1048576) (hc : ∀ x ∈ l, Fn0 Try.prog 77 [(sls 5 DReport.c x)] (sls 5 DReport.c x)) : Fn0 Try.prog 76 [(sls 1 (fun x => [sls 5 DReport.c x]) l)] (sls 1 (fun x => [sls 5 DReport.c x]) l) := by
  refine fn0S 23 keep76 ib76 mk76 mix Try.func76 rfl (by kernel_rfl) (by simp) fun h => ?_
  simp -dsimp -implicitDefEqProofs only [go_sem, Try.f76, ↓reduceIte, keep76, ib76, mk76]
  refine fun _ => ⟨by omega, by omega, by omega, by omega, fun n hn => ?_⟩
  refine loopF (keep := keep76) (ib := ib76) (mk := mk76) mix (by kernel_rfl) (fun k : Nat => [(0, (sls 1 (fun x => [sls 5 DReport.c x]) l)), (3, .os n 1 0 l.length), (4, I k)]) (fun k => upd h n (.row 1 (fillUp (fun x => [sls 5 DReport.c x]) [.nilsl] l k))) (fun k => k ≤ l.length) (fun k => l.length - k) 0 (by simp [SatL, tget, Heap.le_refl, fillUp_zero]) ?_
  intro k hk
  rcases Nat.lt_or_ge k l.length with hlt | hge
  · have ea : l[k]? = some l[k] := List.getElem?_eq_getElem hlt
    simp -dsimp -implicitDefEqProofs only [go_sem, ↓reduceIte, keep76, ib76, mk76, Try.f76, ea, fillUp_get _ _ _ _ hlt]
    refine fun _ => ⟨fun _ => ⟨hlt, ?_⟩, fun hn => absurd hlt hn⟩
    have hx := hc l[k] (List.getElem_mem hlt)
    refine HFnF.mk hx ?_
    simp -dsimp -implicitDefEqProofs only [go_sem, ↓reduceIte, keep76, ib76, mk76, Try.f76, fillUp_get _ _ _ _ hlt]
    refine ⟨hlt, k + 1, by rw [IntWalk.i64_in _ (by omega)]; rfl, ?_, by omega, by omega⟩
    exact le_fill hlt (by first | rfl | (simp only [List.map_cons, List.map_nil]))
  · have hk' : k = l.length := by omega
    subst hk'
    simp -dsimp -implicitDefEqProofs only [go_sem, ↓reduceIte, keep76, ib76, mk76, Try.f76, Nat.lt_irrefl]
    rw [fillUp_all]
    exact fun _ => shift_row _ hn (Heap.le_refl _) _ (by simp)

def keep28 : List Nat := [0, 1, 2, 3]
def ib28 : List Nat := [1]
def mk28 : Marks := fun _ => ([], [])
set_option maxRecDepth 100000 in
theorem to_Net (x : DNet) (hs : x.s ≤ 1048576) : Fn0 Try.prog 28 [.agg x.c] (.agg x.c) := by
  rw [DNet.s_eq] at hs
  simp only [DNet.c_eq]
  refine fn0S 27 keep28 ib28 mk28 mix Try.func28 rfl (by kernel_rfl) (by simp) fun h => ?_
  simp -dsimp -implicitDefEqProofs only [go_sem, Try.f28, ↓reduceIte, keep28, ib28, mk28]
  intro n2 h2 n3 h3
  have e1 : (n2 = n3) = False := eq_false fun e => h3.1 e.symm
  have e2 : (n3 = n2) = False := eq_false h3.1
  have hzfQueues : (x.fQueues).length + ((x.fQueues).map (fun x => szs DReport.s x)).sum = (szs (fun x => szs DReport.s x) x.fQueues) := rfl
  have hzfFlying : (x.fFlying).length + ((x.fFlying).map DReport.s).sum = (szs DReport.s x.fFlying) := rfl
  refine HFnF.mk (to_Job x.fStart (by omega)) ?_
  simp -dsimp -implicitDefEqProofs only [go_sem, ↓reduceIte, keep28, ib28, mk28, Try.f28, upd_upd, upd_get, e1, e2, DJob.c_eq]
  refine HFnF.mk (to_Service x.fService (by omega)) ?_
  simp -dsimp -implicitDefEqProofs only [go_sem, ↓reduceIte, keep28, ib28, mk28, Try.f28, upd_upd, upd_get, e1, e2, DService.c_eq]
  refine HFnF.mk (to_ReportSS x.fQueues (by omega) (fun y hy => (by have hq : (szs DReport.s y) ≤ ((x.fQueues).map (fun x => szs DReport.s x)).sum := sum_mem (fun x => szs DReport.s x) hy; have hz : (y).length + ((y).map DReport.s).sum = (szs DReport.s y) := rfl; exact to_ReportS y (by omega) (fun z hy => to_Report z (by have hq : (DReport.s z) ≤ ((y).map DReport.s).sum := sum_mem DReport.s hy; omega))))) ?_
  simp -dsimp -implicitDefEqProofs only [go_sem, ↓reduceIte, keep28, ib28, mk28, Try.f28, upd_upd, upd_get, e1, e2]
  refine HFnF.mk (to_ReportS x.fFlying (by omega) (fun y hy => to_Report y (by have hq : (DReport.s y) ≤ ((x.fFlying).map DReport.s).sum := sum_mem DReport.s hy; omega))) ?_
  simp -dsimp -implicitDefEqProofs only [go_sem, ↓reduceIte, keep28, ib28, mk28, Try.f28, upd_upd, upd_get, e1, e2]
  exact shift_le (by simp -dsimp -implicitDefEqProofs only [go_sem, h2, h3, e1, e2, upd_get])

end Go.Hl

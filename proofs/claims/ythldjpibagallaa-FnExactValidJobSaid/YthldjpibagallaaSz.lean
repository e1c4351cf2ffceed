/-
  Contracts of functions and laws of the layer over the walk.
-/
import Derived.Test.YthldjpibagallaaDa
namespace Go.Hl
open Go.Proofs
set_option linter.unusedVariables false
set_option linter.unusedSimpArgs false


def keep131 : List Nat := [0, 1, 4, 5, 11, 15, 25]
def ib131 : List Nat := []
def mk131 : Marks := fun _ => ([], [])
set_option maxRecDepth 100000 in
theorem sz_ExprS (l : List DExpr) (left : Int) (h0 : 0 ≤ left) (h1 : left ≤ 1048576) (hc : ∀ x ∈ l, ∀ left : Int, 0 ≤ left → left ≤ 1048576 → Fn0 Try.prog 142 [(.agg (DExpr.c x)), I left] (I (lft left ((DExpr.s x))))) : Fn0 Try.prog 131 [sls 5 DExpr.c l, I left] (I (lft left (szs DExpr.s l))) := by
  refine fn0F 27 keep131 ib131 mk131 mix Try.func131 rfl (by kernel_rfl) (by simp) fun h => ?_
  simp -dsimp -implicitDefEqProofs only [go_sem, Try.f131, ↓reduceIte, keep131, ib131, mk131]
  intro hl
  rw [IntWalk.i64_in _ (by omega)]
  refine ⟨fun hn => ?_, fun hn => ?_⟩
  · exact (lft_neg (by rw [szs_eq]; omega)).symm
  · refine loopF (keep := keep131) (ib := ib131) (mk := mk131) mix (by kernel_rfl) (fun k : Nat => [(0, sls 5 DExpr.c l), (1, I (left - l.length - (((l.take k).map DExpr.s).sum : Int))), (5, I k)]) (fun _ => h) (fun k => k ≤ l.length ∧ 0 ≤ left - l.length - (((l.take k).map DExpr.s).sum : Int)) (fun k => l.length - k) 0 (by simp [SatL, tget, Heap.le_refl]; omega) ?_
    intro k ⟨hk, hb⟩
    rcases Nat.lt_or_ge k l.length with hlt | hge
    · have ea : l[k]? = some l[k] := List.getElem?_eq_getElem hlt
      simp -dsimp -implicitDefEqProofs only [go_sem, ↓reduceIte, keep131, ib131, mk131, Try.f131, ea, DExpr.c_eq]
      refine fun _ => ⟨fun _ => ⟨hlt, ?_⟩, fun hn => absurd hlt hn⟩
      have hx := hc l[k] (List.getElem_mem hlt) (left - l.length - (((l.take k).map DExpr.s).sum : Int)) (by omega) (by omega)
      simp only [DExpr.c_eq] at hx
      refine HFnF.mk hx ?_
      have hs := sum_take_succ DExpr.s l k hlt
      have hs' := sum_take_le DExpr.s l (k + 1)
      try dsimp only at hs
      rcases lft_cases (left - l.length - (((l.take k).map DExpr.s).sum : Int)) ((DExpr.s l[k])) with ⟨e, hl1⟩ | ⟨e, hl1⟩
      · simp -dsimp -implicitDefEqProofs only [go_sem, ↓reduceIte, keep131, ib131, mk131, Try.f131, e]
        exact (lft_neg (by rw [szs_eq]; omega)).symm
      · have hn1 : (left - l.length - (((l.take k).map DExpr.s).sum : Int) - ((DExpr.s l[k]) : Int) < 0) = False := eq_false (by omega)
        simp -dsimp -implicitDefEqProofs only [go_sem, ↓reduceIte, keep131, ib131, mk131, Try.f131, e, hn1]
        refine ⟨k + 1, ⟨?_, ?_⟩, ⟨by omega, by rw [hs]; omega⟩, by omega⟩
        · rw [hs]; omega
        · rw [IntWalk.i64_in _ (by omega)]; rfl
    · have hk' : k = l.length := by omega
      subst hk'
      simp -dsimp -implicitDefEqProofs only [go_sem, ↓reduceIte, keep131, ib131, mk131, Try.f131, Nat.lt_irrefl]
      refine fun _ => ?_
      rw [List.take_length] at hb ⊢
      rw [lft_pos (by rw [szs_eq]; omega), szs_eq]
      omega

def keep142 : List Nat := [0, 1, 2, 4, 10]
def ib142 : List Nat := [2]
def mk142 : Marks := fun _ => ([], [])
set_option maxRecDepth 100000 in
theorem sz_Expr_step (x : DExpr) (left : Int) (h0 : 0 ≤ left) (h1 : left ≤ 1048576) (hk : ∀ left : Int, 0 ≤ left → left ≤ 1048576 → Fn0 Try.prog 131 [(sls 5 DExpr.c x.fKids), I left] (I (lft left (szs DExpr.s x.fKids)))) : Fn0 Try.prog 142 [.agg x.c, I left] (I (lft left x.s)) := by
  rw [DExpr.s_eq]
  simp only [DExpr.c_eq]
  refine fn0F 12 keep142 ib142 mk142 mix Try.func142 rfl (by kernel_rfl) (by simp) fun h => ?_
  simp -dsimp -implicitDefEqProofs only [go_sem, Try.f142, ↓reduceIte, keep142, ib142, mk142]
  refine HFnF.mk (hk left (by omega) (by omega)) ?_
  rcases lft_cases left (szs DExpr.s x.fKids) with ⟨e, hl1⟩ | ⟨e, hl1⟩
  · simp -dsimp -implicitDefEqProofs only [go_sem, ↓reduceIte, keep142, ib142, mk142, Try.f142, e]
  · have hn1 : (left - ((szs DExpr.s x.fKids) : Int) < 0) = False := eq_false (by omega)
    simp -dsimp -implicitDefEqProofs only [go_sem, ↓reduceIte, keep142, ib142, mk142, Try.f142, e, hn1]
  try (rw [lft_pos (by omega)]; omega)
theorem sz_Expr (x : DExpr) (left : Int) (h0 : 0 ≤ left) (h1 : left ≤ 1048576) : Fn0 Try.prog 142 [.agg x.c, I left] (I (lft left x.s)) :=
  sz_Expr_step x left h0 h1 fun left h0 h1 => sz_ExprS x.fKids left h0 h1 fun y hy left h0 h1 => sz_Expr y left h0 h1
termination_by SizeOf.sizeOf x
decreasing_by exact DExpr.kid_lt hy

def keep119 : List Nat := [0, 1, 2, 4, 11, 17]
def ib119 : List Nat := [2]
def mk119 : Marks := fun _ => ([], [])
set_option maxRecDepth 100000 in
theorem sz_Func (x : DFunc) (left : Int) (h0 : 0 ≤ left) (h1 : left ≤ 1048576) : Fn0 Try.prog 119 [.agg x.c, I left] (I (lft left x.s)) := by
  rw [DFunc.s_eq]
  simp only [DFunc.c_eq]
  refine fn0F 19 keep119 ib119 mk119 mix Try.func119 rfl (by kernel_rfl) (by simp) fun h => ?_
  simp -dsimp -implicitDefEqProofs only [go_sem, Try.f119, ↓reduceIte, keep119, ib119, mk119]
  refine fun hl0 => ?_
  rw [IntWalk.i64_in _ (by omega)]
  generalize hL0 : left - ((x.fName.length : Nat) : Int) = L0
  refine ⟨fun hn => (lft_neg (by omega)).symm, fun hn0 => ?_⟩
  refine HFnF.mk (sz_ExprS x.fOuts (L0) (by omega) (by omega) (fun x _ left h0 h1 => sz_Expr x left h0 h1)) ?_
  generalize hL1 : lft (L0) (szs DExpr.s x.fOuts) = L1
  simp -dsimp -implicitDefEqProofs only [go_sem, ↓reduceIte, keep119, ib119, mk119, Try.f119]
  have hs1 := lft_step hL1
  refine ⟨fun hn => (lft_neg (by have := hs1.1 hn; omega)).symm, fun hn1 => ?_⟩
  have hp1 := hs1.2 hn1
  clear hs1 hL1
  try (rw [lft_pos (by omega)]; omega)

def keep97 : List Nat := [0, 1, 4, 5, 11, 15, 25]
def ib97 : List Nat := []
def mk97 : Marks := fun _ => ([], [])
set_option maxRecDepth 100000 in
theorem sz_FuncS (l : List DFunc) (left : Int) (h0 : 0 ≤ left) (h1 : left ≤ 1048576) (hc : ∀ x ∈ l, ∀ left : Int, 0 ≤ left → left ≤ 1048576 → Fn0 Try.prog 119 [(.agg (DFunc.c x)), I left] (I (lft left ((DFunc.s x))))) : Fn0 Try.prog 97 [sls 3 DFunc.c l, I left] (I (lft left (szs DFunc.s l))) := by
  refine fn0F 27 keep97 ib97 mk97 mix Try.func97 rfl (by kernel_rfl) (by simp) fun h => ?_
  simp -dsimp -implicitDefEqProofs only [go_sem, Try.f97, ↓reduceIte, keep97, ib97, mk97]
  intro hl
  rw [IntWalk.i64_in _ (by omega)]
  refine ⟨fun hn => ?_, fun hn => ?_⟩
  · exact (lft_neg (by rw [szs_eq]; omega)).symm
  · refine loopF (keep := keep97) (ib := ib97) (mk := mk97) mix (by kernel_rfl) (fun k : Nat => [(0, sls 3 DFunc.c l), (1, I (left - l.length - (((l.take k).map DFunc.s).sum : Int))), (5, I k)]) (fun _ => h) (fun k => k ≤ l.length ∧ 0 ≤ left - l.length - (((l.take k).map DFunc.s).sum : Int)) (fun k => l.length - k) 0 (by simp [SatL, tget, Heap.le_refl]; omega) ?_
    intro k ⟨hk, hb⟩
    rcases Nat.lt_or_ge k l.length with hlt | hge
    · have ea : l[k]? = some l[k] := List.getElem?_eq_getElem hlt
      simp -dsimp -implicitDefEqProofs only [go_sem, ↓reduceIte, keep97, ib97, mk97, Try.f97, ea, DFunc.c_eq]
      refine fun _ => ⟨fun _ => ⟨hlt, ?_⟩, fun hn => absurd hlt hn⟩
      have hx := hc l[k] (List.getElem_mem hlt) (left - l.length - (((l.take k).map DFunc.s).sum : Int)) (by omega) (by omega)
      simp only [DFunc.c_eq] at hx
      refine HFnF.mk hx ?_
      have hs := sum_take_succ DFunc.s l k hlt
      have hs' := sum_take_le DFunc.s l (k + 1)
      try dsimp only at hs
      rcases lft_cases (left - l.length - (((l.take k).map DFunc.s).sum : Int)) ((DFunc.s l[k])) with ⟨e, hl1⟩ | ⟨e, hl1⟩
      · simp -dsimp -implicitDefEqProofs only [go_sem, ↓reduceIte, keep97, ib97, mk97, Try.f97, e]
        exact (lft_neg (by rw [szs_eq]; omega)).symm
      · have hn1 : (left - l.length - (((l.take k).map DFunc.s).sum : Int) - ((DFunc.s l[k]) : Int) < 0) = False := eq_false (by omega)
        simp -dsimp -implicitDefEqProofs only [go_sem, ↓reduceIte, keep97, ib97, mk97, Try.f97, e, hn1]
        refine ⟨k + 1, ⟨?_, ?_⟩, ⟨by omega, by rw [hs]; omega⟩, by omega⟩
        · rw [hs]; omega
        · rw [IntWalk.i64_in _ (by omega)]; rfl
    · have hk' : k = l.length := by omega
      subst hk'
      simp -dsimp -implicitDefEqProofs only [go_sem, ↓reduceIte, keep97, ib97, mk97, Try.f97, Nat.lt_irrefl]
      refine fun _ => ?_
      rw [List.take_length] at hb ⊢
      rw [lft_pos (by rw [szs_eq]; omega), szs_eq]
      omega

def keep60 : List Nat := [0, 1, 2, 4, 10]
def ib60 : List Nat := [2]
def mk60 : Marks := fun _ => ([], [])
set_option maxRecDepth 100000 in
theorem sz_Program (x : DProgram) (left : Int) (h0 : 0 ≤ left) (h1 : left ≤ 1048576) : Fn0 Try.prog 60 [.agg x.c, I left] (I (lft left x.s)) := by
  rw [DProgram.s_eq]
  simp only [DProgram.c_eq]
  refine fn0F 12 keep60 ib60 mk60 mix Try.func60 rfl (by kernel_rfl) (by simp) fun h => ?_
  simp -dsimp -implicitDefEqProofs only [go_sem, Try.f60, ↓reduceIte, keep60, ib60, mk60]
  refine HFnF.mk (sz_FuncS x.fFuncs left (by omega) (by omega) (fun x _ left h0 h1 => sz_Func x left h0 h1)) ?_
  rcases lft_cases left (szs DFunc.s x.fFuncs) with ⟨e, hl1⟩ | ⟨e, hl1⟩
  · simp -dsimp -implicitDefEqProofs only [go_sem, ↓reduceIte, keep60, ib60, mk60, Try.f60, e]
  · have hn1 : (left - ((szs DFunc.s x.fFuncs) : Int) < 0) = False := eq_false (by omega)
    simp -dsimp -implicitDefEqProofs only [go_sem, ↓reduceIte, keep60, ib60, mk60, Try.f60, e, hn1]
  try (rw [lft_pos (by omega)]; omega)

def keep47 : List Nat := [0, 1, 4, 10]
def ib47 : List Nat := []
def mk47 : Marks := fun _ => ([], [])
set_option maxRecDepth 100000 in
theorem sz_Int64S (sz : Nat) (es : List (List HVal)) (tg : Bool) (left : Int) (h0 : 0 ≤ left) (h1 : left ≤ 1048576) : Fn0 Try.prog 47 [.sl sz es tg, I left] (I (lft left es.length)) := by
  refine fn0F 12 keep47 ib47 mk47 mix Try.func47 rfl (by kernel_rfl) (by simp) fun h => ?_
  simp -dsimp -implicitDefEqProofs only [go_sem, Try.f47, ↓reduceIte, keep47, ib47, mk47]
  intro hl
  rw [IntWalk.i64_in _ (by omega)]
  refine ⟨fun hn => ?_, fun hn => ?_⟩
  · exact (lft_neg hn).symm
  · exact (lft_pos (by omega)).symm

def keep61 : List Nat := [0, 1, 4, 5, 11, 15, 25]
def ib61 : List Nat := []
def mk61 : Marks := fun _ => ([], [])
set_option maxRecDepth 100000 in
theorem sz_Int64SS (l : List (List Int)) (left : Int) (h0 : 0 ≤ left) (h1 : left ≤ 1048576) (hc : ∀ x ∈ l, ∀ left : Int, 0 ≤ left → left ≤ 1048576 → Fn0 Try.prog 47 [(sls 1 (fun n => [I n]) x), I left] (I (lft left (x.length)))) : Fn0 Try.prog 61 [sls 1 (fun x => [sls 1 (fun n => [I n]) x]) l, I left] (I (lft left (szs (fun x : List Int => x.length) l))) := by
  refine fn0F 27 keep61 ib61 mk61 mix Try.func61 rfl (by kernel_rfl) (by simp) fun h => ?_
  simp -dsimp -implicitDefEqProofs only [go_sem, Try.f61, ↓reduceIte, keep61, ib61, mk61]
  intro hl
  rw [IntWalk.i64_in _ (by omega)]
  refine ⟨fun hn => ?_, fun hn => ?_⟩
  · exact (lft_neg (by rw [szs_eq]; omega)).symm
  · refine loopF (keep := keep61) (ib := ib61) (mk := mk61) mix (by kernel_rfl) (fun k : Nat => [(0, sls 1 (fun x => [sls 1 (fun n => [I n]) x]) l), (1, I (left - l.length - (((l.take k).map (fun x : List Int => x.length)).sum : Int))), (5, I k)]) (fun _ => h) (fun k => k ≤ l.length ∧ 0 ≤ left - l.length - (((l.take k).map (fun x : List Int => x.length)).sum : Int)) (fun k => l.length - k) 0 (by simp [SatL, tget, Heap.le_refl]; omega) ?_
    intro k ⟨hk, hb⟩
    rcases Nat.lt_or_ge k l.length with hlt | hge
    · have ea : l[k]? = some l[k] := List.getElem?_eq_getElem hlt
      simp -dsimp -implicitDefEqProofs only [go_sem, ↓reduceIte, keep61, ib61, mk61, Try.f61, ea]
      refine fun _ => ⟨fun _ => ⟨hlt, ?_⟩, fun hn => absurd hlt hn⟩
      have hx := hc l[k] (List.getElem_mem hlt) (left - l.length - (((l.take k).map (fun x : List Int => x.length)).sum : Int)) (by omega) (by omega)
      refine HFnF.mk hx ?_
      have hs := sum_take_succ (fun x : List Int => x.length) l k hlt
      have hs' := sum_take_le (fun x : List Int => x.length) l (k + 1)
      try dsimp only at hs
      rcases lft_cases (left - l.length - (((l.take k).map (fun x : List Int => x.length)).sum : Int)) (l[k].length) with ⟨e, hl1⟩ | ⟨e, hl1⟩
      · simp -dsimp -implicitDefEqProofs only [go_sem, ↓reduceIte, keep61, ib61, mk61, Try.f61, e]
        exact (lft_neg (by rw [szs_eq]; omega)).symm
      · have hn1 : (left - l.length - (((l.take k).map (fun x : List Int => x.length)).sum : Int) - (l[k].length : Int) < 0) = False := eq_false (by omega)
        simp -dsimp -implicitDefEqProofs only [go_sem, ↓reduceIte, keep61, ib61, mk61, Try.f61, e, hn1]
        refine ⟨k + 1, ⟨?_, ?_⟩, ⟨by omega, by rw [hs]; omega⟩, by omega⟩
        · rw [hs]; omega
        · rw [IntWalk.i64_in _ (by omega)]; rfl
    · have hk' : k = l.length := by omega
      subst hk'
      simp -dsimp -implicitDefEqProofs only [go_sem, ↓reduceIte, keep61, ib61, mk61, Try.f61, Nat.lt_irrefl]
      refine fun _ => ?_
      rw [List.take_length] at hb ⊢
      rw [lft_pos (by rw [szs_eq]; omega), szs_eq]
      omega

def keep21 : List Nat := [0, 1, 2, 4, 10, 16, 22]
def ib21 : List Nat := [2]
def mk21 : Marks := fun _ => ([], [])
set_option maxRecDepth 100000 in
theorem sz_Job (x : DJob) (left : Int) (h0 : 0 ≤ left) (h1 : left ≤ 1048576) : Fn0 Try.prog 21 [.agg x.c, I left] (I (lft left x.s)) := by
  rw [DJob.s_eq]
  simp only [DJob.c_eq]
  refine fn0F 24 keep21 ib21 mk21 mix Try.func21 rfl (by kernel_rfl) (by simp) fun h => ?_
  simp -dsimp -implicitDefEqProofs only [go_sem, Try.f21, ↓reduceIte, keep21, ib21, mk21]
  refine HFnF.mk (sz_Program x.fProgram (left) (by omega) (by omega)) ?_
  generalize hL0 : lft left (DProgram.s x.fProgram) = L0
  simp -dsimp -implicitDefEqProofs only [go_sem, ↓reduceIte, keep21, ib21, mk21, Try.f21]
  have hs0 := lft_step hL0
  refine ⟨fun hn => (lft_neg (by have := hs0.1 hn; omega)).symm, fun hn0 => ?_⟩
  have hp0 := hs0.2 hn0
  clear hs0 hL0
  refine HFnF.mk (sz_Int64S _ _ _ (L0) (by omega) (by omega)) ?_
  rw [List.length_map]
  generalize hL1 : lft (L0) x.fPoint.length = L1
  simp -dsimp -implicitDefEqProofs only [go_sem, ↓reduceIte, keep21, ib21, mk21, Try.f21]
  have hs1 := lft_step hL1
  refine ⟨fun hn => (lft_neg (by have := hs1.1 hn; omega)).symm, fun hn1 => ?_⟩
  have hp1 := hs1.2 hn1
  clear hs1 hL1
  refine HFnF.mk (sz_Int64SS x.fTerms (L1) (by omega) (by omega) (fun x _ left h0 h1 => (by have hq := sz_Int64S 1 (x.map (fun n => [I n])) false left h0 h1; rw [List.length_map] at hq; exact hq))) ?_
  generalize hL2 : lft (L1) (szs (fun x : List Int => x.length) x.fTerms) = L2
  simp -dsimp -implicitDefEqProofs only [go_sem, ↓reduceIte, keep21, ib21, mk21, Try.f21]
  have hs2 := lft_step hL2
  refine ⟨fun hn => (lft_neg (by have := hs2.1 hn; omega)).symm, fun hn2 => ?_⟩
  have hp2 := hs2.2 hn2
  clear hs2 hL2
  try (rw [lft_pos (by omega)]; omega)


def keep48 : List Nat := [0, 1, 4, 10]
def ib48 : List Nat := []
def mk48 : Marks := fun _ => ([], [])
set_option maxRecDepth 100000 in
theorem sz_BoolS (sz : Nat) (es : List (List HVal)) (tg : Bool) (left : Int) (h0 : 0 ≤ left) (h1 : left ≤ 1048576) : Fn0 Try.prog 48 [.sl sz es tg, I left] (I (lft left es.length)) := by
  refine fn0F 12 keep48 ib48 mk48 mix Try.func48 rfl (by kernel_rfl) (by simp) fun h => ?_
  simp -dsimp -implicitDefEqProofs only [go_sem, Try.f48, ↓reduceIte, keep48, ib48, mk48]
  intro hl
  rw [IntWalk.i64_in _ (by omega)]
  refine ⟨fun hn => ?_, fun hn => ?_⟩
  · exact (lft_neg hn).symm
  · exact (lft_pos (by omega)).symm

def keep89 : List Nat := [0, 1, 2, 4, 10]
def ib89 : List Nat := [2]
def mk89 : Marks := fun _ => ([], [])
set_option maxRecDepth 100000 in
theorem sz_Part (x : DPart) (left : Int) (h0 : 0 ≤ left) (h1 : left ≤ 1048576) : Fn0 Try.prog 89 [.agg x.c, I left] (I (lft left x.s)) := by
  rw [DPart.s_eq]
  simp only [DPart.c_eq]
  refine fn0F 12 keep89 ib89 mk89 mix Try.func89 rfl (by kernel_rfl) (by simp) fun h => ?_
  simp -dsimp -implicitDefEqProofs only [go_sem, Try.f89, ↓reduceIte, keep89, ib89, mk89]
  refine HFnF.mk (sz_Int64S _ _ _ left (by omega) (by omega)) ?_
  rw [List.length_map]
  rcases lft_cases left x.fGrad.length with ⟨e, hl1⟩ | ⟨e, hl1⟩
  · simp -dsimp -implicitDefEqProofs only [go_sem, ↓reduceIte, keep89, ib89, mk89, Try.f89, e]
  · have hn1 : (left - (x.fGrad.length : Int) < 0) = False := eq_false (by omega)
    simp -dsimp -implicitDefEqProofs only [go_sem, ↓reduceIte, keep89, ib89, mk89, Try.f89, e, hn1]
  try (rw [lft_pos (by omega)]; omega)

def keep49 : List Nat := [0, 1, 4, 5, 11, 15, 25]
def ib49 : List Nat := []
def mk49 : Marks := fun _ => ([], [])
set_option maxRecDepth 100000 in
theorem sz_PartS (l : List DPart) (left : Int) (h0 : 0 ≤ left) (h1 : left ≤ 1048576) (hc : ∀ x ∈ l, ∀ left : Int, 0 ≤ left → left ≤ 1048576 → Fn0 Try.prog 89 [(.agg (DPart.c x)), I left] (I (lft left ((DPart.s x))))) : Fn0 Try.prog 49 [sls 3 DPart.c l, I left] (I (lft left (szs DPart.s l))) := by
  refine fn0F 27 keep49 ib49 mk49 mix Try.func49 rfl (by kernel_rfl) (by simp) fun h => ?_
  simp -dsimp -implicitDefEqProofs only [go_sem, Try.f49, ↓reduceIte, keep49, ib49, mk49]
  intro hl
  rw [IntWalk.i64_in _ (by omega)]
  refine ⟨fun hn => ?_, fun hn => ?_⟩
  · exact (lft_neg (by rw [szs_eq]; omega)).symm
  · refine loopF (keep := keep49) (ib := ib49) (mk := mk49) mix (by kernel_rfl) (fun k : Nat => [(0, sls 3 DPart.c l), (1, I (left - l.length - (((l.take k).map DPart.s).sum : Int))), (5, I k)]) (fun _ => h) (fun k => k ≤ l.length ∧ 0 ≤ left - l.length - (((l.take k).map DPart.s).sum : Int)) (fun k => l.length - k) 0 (by simp [SatL, tget, Heap.le_refl]; omega) ?_
    intro k ⟨hk, hb⟩
    rcases Nat.lt_or_ge k l.length with hlt | hge
    · have ea : l[k]? = some l[k] := List.getElem?_eq_getElem hlt
      simp -dsimp -implicitDefEqProofs only [go_sem, ↓reduceIte, keep49, ib49, mk49, Try.f49, ea, DPart.c_eq]
      refine fun _ => ⟨fun _ => ⟨hlt, ?_⟩, fun hn => absurd hlt hn⟩
      have hx := hc l[k] (List.getElem_mem hlt) (left - l.length - (((l.take k).map DPart.s).sum : Int)) (by omega) (by omega)
      simp only [DPart.c_eq] at hx
      refine HFnF.mk hx ?_
      have hs := sum_take_succ DPart.s l k hlt
      have hs' := sum_take_le DPart.s l (k + 1)
      try dsimp only at hs
      rcases lft_cases (left - l.length - (((l.take k).map DPart.s).sum : Int)) ((DPart.s l[k])) with ⟨e, hl1⟩ | ⟨e, hl1⟩
      · simp -dsimp -implicitDefEqProofs only [go_sem, ↓reduceIte, keep49, ib49, mk49, Try.f49, e]
        exact (lft_neg (by rw [szs_eq]; omega)).symm
      · have hn1 : (left - l.length - (((l.take k).map DPart.s).sum : Int) - ((DPart.s l[k]) : Int) < 0) = False := eq_false (by omega)
        simp -dsimp -implicitDefEqProofs only [go_sem, ↓reduceIte, keep49, ib49, mk49, Try.f49, e, hn1]
        refine ⟨k + 1, ⟨?_, ?_⟩, ⟨by omega, by rw [hs]; omega⟩, by omega⟩
        · rw [hs]; omega
        · rw [IntWalk.i64_in _ (by omega)]; rfl
    · have hk' : k = l.length := by omega
      subst hk'
      simp -dsimp -implicitDefEqProofs only [go_sem, ↓reduceIte, keep49, ib49, mk49, Try.f49, Nat.lt_irrefl]
      refine fun _ => ?_
      rw [List.take_length] at hb ⊢
      rw [lft_pos (by rw [szs_eq]; omega), szs_eq]
      omega

def keep16 : List Nat := [0, 1, 2, 4, 10, 16, 22, 28, 34]
def ib16 : List Nat := [2]
def mk16 : Marks := fun _ => ([], [])
set_option maxRecDepth 100000 in
theorem sz_Service (x : DService) (left : Int) (h0 : 0 ≤ left) (h1 : left ≤ 1048576) : Fn0 Try.prog 16 [.agg x.c, I left] (I (lft left x.s)) := by
  rw [DService.s_eq]
  simp only [DService.c_eq]
  refine fn0F 36 keep16 ib16 mk16 mix Try.func16 rfl (by kernel_rfl) (by simp) fun h => ?_
  simp -dsimp -implicitDefEqProofs only [go_sem, Try.f16, ↓reduceIte, keep16, ib16, mk16]
  refine HFnF.mk (sz_Job x.fJob (left) (by omega) (by omega)) ?_
  generalize hL0 : lft left (DJob.s x.fJob) = L0
  simp -dsimp -implicitDefEqProofs only [go_sem, ↓reduceIte, keep16, ib16, mk16, Try.f16]
  have hs0 := lft_step hL0
  refine ⟨fun hn => (lft_neg (by have := hs0.1 hn; omega)).symm, fun hn0 => ?_⟩
  have hp0 := hs0.2 hn0
  clear hs0 hL0
  refine HFnF.mk (sz_Int64S _ _ _ (L0) (by omega) (by omega)) ?_
  rw [List.length_map]
  generalize hL1 : lft (L0) x.fStamps.length = L1
  simp -dsimp -implicitDefEqProofs only [go_sem, ↓reduceIte, keep16, ib16, mk16, Try.f16]
  have hs1 := lft_step hL1
  refine ⟨fun hn => (lft_neg (by have := hs1.1 hn; omega)).symm, fun hn1 => ?_⟩
  have hp1 := hs1.2 hn1
  clear hs1 hL1
  refine HFnF.mk (sz_BoolS _ _ _ (L1) (by omega) (by omega)) ?_
  rw [List.length_map]
  generalize hL2 : lft (L1) x.fKnown.length = L2
  simp -dsimp -implicitDefEqProofs only [go_sem, ↓reduceIte, keep16, ib16, mk16, Try.f16]
  have hs2 := lft_step hL2
  refine ⟨fun hn => (lft_neg (by have := hs2.1 hn; omega)).symm, fun hn2 => ?_⟩
  have hp2 := hs2.2 hn2
  clear hs2 hL2
  refine HFnF.mk (sz_PartS x.fParts (L2) (by omega) (by omega) (fun x _ left h0 h1 => sz_Part x left h0 h1)) ?_
  generalize hL3 : lft (L2) (szs DPart.s x.fParts) = L3
  simp -dsimp -implicitDefEqProofs only [go_sem, ↓reduceIte, keep16, ib16, mk16, Try.f16]
  have hs3 := lft_step hL3
  refine ⟨fun hn => (lft_neg (by have := hs3.1 hn; omega)).symm, fun hn3 => ?_⟩
  have hp3 := hs3.2 hn3
  clear hs3 hL3
  refine HFnF.mk (sz_Int64S _ _ _ (L3) (by omega) (by omega)) ?_
  rw [List.length_map]
  generalize hL4 : lft (L3) x.fOwners.length = L4
  simp -dsimp -implicitDefEqProofs only [go_sem, ↓reduceIte, keep16, ib16, mk16, Try.f16]
  have hs4 := lft_step hL4
  refine ⟨fun hn => (lft_neg (by have := hs4.1 hn; omega)).symm, fun hn4 => ?_⟩
  have hp4 := hs4.2 hn4
  clear hs4 hL4
  try (rw [lft_pos (by omega)]; omega)

def keep107 : List Nat := [0, 1, 2, 4, 10]
def ib107 : List Nat := [2]
def mk107 : Marks := fun _ => ([], [])
set_option maxRecDepth 100000 in
theorem sz_Report (x : DReport) (left : Int) (h0 : 0 ≤ left) (h1 : left ≤ 1048576) : Fn0 Try.prog 107 [.agg x.c, I left] (I (lft left x.s)) := by
  rw [DReport.s_eq]
  simp only [DReport.c_eq]
  refine fn0F 12 keep107 ib107 mk107 mix Try.func107 rfl (by kernel_rfl) (by simp) fun h => ?_
  simp -dsimp -implicitDefEqProofs only [go_sem, Try.f107, ↓reduceIte, keep107, ib107, mk107]
  refine HFnF.mk (sz_Part x.fPart left (by omega) (by omega)) ?_
  rcases lft_cases left (DPart.s x.fPart) with ⟨e, hl1⟩ | ⟨e, hl1⟩
  · simp -dsimp -implicitDefEqProofs only [go_sem, ↓reduceIte, keep107, ib107, mk107, Try.f107, e]
  · have hn1 : (left - ((DPart.s x.fPart) : Int) < 0) = False := eq_false (by omega)
    simp -dsimp -implicitDefEqProofs only [go_sem, ↓reduceIte, keep107, ib107, mk107, Try.f107, e, hn1]
  try (rw [lft_pos (by omega)]; omega)

def keep73 : List Nat := [0, 1, 4, 5, 11, 15, 25]
def ib73 : List Nat := []
def mk73 : Marks := fun _ => ([], [])
set_option maxRecDepth 100000 in
theorem sz_ReportS (l : List DReport) (left : Int) (h0 : 0 ≤ left) (h1 : left ≤ 1048576) (hc : ∀ x ∈ l, ∀ left : Int, 0 ≤ left → left ≤ 1048576 → Fn0 Try.prog 107 [(.agg (DReport.c x)), I left] (I (lft left ((DReport.s x))))) : Fn0 Try.prog 73 [sls 5 DReport.c l, I left] (I (lft left (szs DReport.s l))) := by
  refine fn0F 27 keep73 ib73 mk73 mix Try.func73 rfl (by kernel_rfl) (by simp) fun h => ?_
  simp -dsimp -implicitDefEqProofs only [go_sem, Try.f73, ↓reduceIte, keep73, ib73, mk73]
  intro hl
  rw [IntWalk.i64_in _ (by omega)]
  refine ⟨fun hn => ?_, fun hn => ?_⟩
  · exact (lft_neg (by rw [szs_eq]; omega)).symm
  · refine loopF (keep := keep73) (ib := ib73) (mk := mk73) mix (by kernel_rfl) (fun k : Nat => [(0, sls 5 DReport.c l), (1, I (left - l.length - (((l.take k).map DReport.s).sum : Int))), (5, I k)]) (fun _ => h) (fun k => k ≤ l.length ∧ 0 ≤ left - l.length - (((l.take k).map DReport.s).sum : Int)) (fun k => l.length - k) 0 (by simp [SatL, tget, Heap.le_refl]; omega) ?_
    intro k ⟨hk, hb⟩
    rcases Nat.lt_or_ge k l.length with hlt | hge
    · have ea : l[k]? = some l[k] := List.getElem?_eq_getElem hlt
      simp -dsimp -implicitDefEqProofs only [go_sem, ↓reduceIte, keep73, ib73, mk73, Try.f73, ea, DReport.c_eq]
      refine fun _ => ⟨fun _ => ⟨hlt, ?_⟩, fun hn => absurd hlt hn⟩
      have hx := hc l[k] (List.getElem_mem hlt) (left - l.length - (((l.take k).map DReport.s).sum : Int)) (by omega) (by omega)
      simp only [DReport.c_eq] at hx
      refine HFnF.mk hx ?_
      have hs := sum_take_succ DReport.s l k hlt
      have hs' := sum_take_le DReport.s l (k + 1)
      try dsimp only at hs
      rcases lft_cases (left - l.length - (((l.take k).map DReport.s).sum : Int)) ((DReport.s l[k])) with ⟨e, hl1⟩ | ⟨e, hl1⟩
      · simp -dsimp -implicitDefEqProofs only [go_sem, ↓reduceIte, keep73, ib73, mk73, Try.f73, e]
        exact (lft_neg (by rw [szs_eq]; omega)).symm
      · have hn1 : (left - l.length - (((l.take k).map DReport.s).sum : Int) - ((DReport.s l[k]) : Int) < 0) = False := eq_false (by omega)
        simp -dsimp -implicitDefEqProofs only [go_sem, ↓reduceIte, keep73, ib73, mk73, Try.f73, e, hn1]
        refine ⟨k + 1, ⟨?_, ?_⟩, ⟨by omega, by rw [hs]; omega⟩, by omega⟩
        · rw [hs]; omega
        · rw [IntWalk.i64_in _ (by omega)]; rfl
    · have hk' : k = l.length := by omega
      subst hk'
      simp -dsimp -implicitDefEqProofs only [go_sem, ↓reduceIte, keep73, ib73, mk73, Try.f73, Nat.lt_irrefl]
      refine fun _ => ?_
      rw [List.take_length] at hb ⊢
      rw [lft_pos (by rw [szs_eq]; omega), szs_eq]
      omega

def keep72 : List Nat := [0, 1, 4, 5, 11, 15, 25]
def ib72 : List Nat := []
def mk72 : Marks := fun _ => ([], [])
set_option maxRecDepth 100000 in
theorem sz_ReportSS (l : List (List DReport)) (left : Int) (h0 : 0 ≤ left) (h1 : left ≤ 1048576) (hc : ∀ x ∈ l, ∀ left : Int, 0 ≤ left → left ≤ 1048576 → Fn0 Try.prog 73 [(sls 5 DReport.c x), I left] (I (lft left ((szs DReport.s x))))) : Fn0 Try.prog 72 [sls 1 (fun x => [sls 5 DReport.c x]) l, I left] (I (lft left (szs (fun x => szs DReport.s x) l))) := by
  refine fn0F 27 keep72 ib72 mk72 mix Try.func72 rfl (by kernel_rfl) (by simp) fun h => ?_
  simp -dsimp -implicitDefEqProofs only [go_sem, Try.f72, ↓reduceIte, keep72, ib72, mk72]
  intro hl
  rw [IntWalk.i64_in _ (by omega)]
  refine ⟨fun hn => ?_, fun hn => ?_⟩
  · exact (lft_neg (by rw [szs_eq]; omega)).symm
  · refine loopF (keep := keep72) (ib := ib72) (mk := mk72) mix (by kernel_rfl) (fun k : Nat => [(0, sls 1 (fun x => [sls 5 DReport.c x]) l), (1, I (left - l.length - (((l.take k).map (fun x => szs DReport.s x)).sum : Int))), (5, I k)]) (fun _ => h) (fun k => k ≤ l.length ∧ 0 ≤ left - l.length - (((l.take k).map (fun x => szs DReport.s x)).sum : Int)) (fun k => l.length - k) 0 (by simp [SatL, tget, Heap.le_refl]; omega) ?_
    intro k ⟨hk, hb⟩
    rcases Nat.lt_or_ge k l.length with hlt | hge
    · have ea : l[k]? = some l[k] := List.getElem?_eq_getElem hlt
      simp -dsimp -implicitDefEqProofs only [go_sem, ↓reduceIte, keep72, ib72, mk72, Try.f72, ea]
      refine fun _ => ⟨fun _ => ⟨hlt, ?_⟩, fun hn => absurd hlt hn⟩
      have hx := hc l[k] (List.getElem_mem hlt) (left - l.length - (((l.take k).map (fun x => szs DReport.s x)).sum : Int)) (by omega) (by omega)
      refine HFnF.mk hx ?_
      have hs := sum_take_succ (fun x => szs DReport.s x) l k hlt
      have hs' := sum_take_le (fun x => szs DReport.s x) l (k + 1)
      try dsimp only at hs
      rcases lft_cases (left - l.length - (((l.take k).map (fun x => szs DReport.s x)).sum : Int)) ((szs DReport.s l[k])) with ⟨e, hl1⟩ | ⟨e, hl1⟩
      · simp -dsimp -implicitDefEqProofs only [go_sem, ↓reduceIte, keep72, ib72, mk72, Try.f72, e]
        exact (lft_neg (by rw [szs_eq]; omega)).symm
      · have hn1 : (left - l.length - (((l.take k).map (fun x => szs DReport.s x)).sum : Int) - ((szs DReport.s l[k]) : Int) < 0) = False := eq_false (by omega)
        simp -dsimp -implicitDefEqProofs only [go_sem, ↓reduceIte, keep72, ib72, mk72, Try.f72, e, hn1]
        refine ⟨k + 1, ⟨?_, ?_⟩, ⟨by omega, by rw [hs]; omega⟩, by omega⟩
        · rw [hs]; omega
        · rw [IntWalk.i64_in _ (by omega)]; rfl
    · have hk' : k = l.length := by omega
      subst hk'
      simp -dsimp -implicitDefEqProofs only [go_sem, ↓reduceIte, keep72, ib72, mk72, Try.f72, Nat.lt_irrefl]
      refine fun _ => ?_
      rw [List.take_length] at hb ⊢
      rw [lft_pos (by rw [szs_eq]; omega), szs_eq]
      omega

def keep26 : List Nat := [0, 1, 2, 4, 10, 16, 23, 29, 35]
def ib26 : List Nat := [2]
def mk26 : Marks := fun _ => ([], [])
set_option maxRecDepth 100000 in
theorem sz_Net (x : DNet) (left : Int) (h0 : 0 ≤ left) (h1 : left ≤ 1048576) : Fn0 Try.prog 26 [.agg x.c, I left] (I (lft left x.s)) := by
  rw [DNet.s_eq]
  simp only [DNet.c_eq]
  refine fn0F 37 keep26 ib26 mk26 mix Try.func26 rfl (by kernel_rfl) (by simp) fun h => ?_
  simp -dsimp -implicitDefEqProofs only [go_sem, Try.f26, ↓reduceIte, keep26, ib26, mk26]
  refine HFnF.mk (sz_Job x.fStart (left) (by omega) (by omega)) ?_
  generalize hL0 : lft left (DJob.s x.fStart) = L0
  simp -dsimp -implicitDefEqProofs only [go_sem, ↓reduceIte, keep26, ib26, mk26, Try.f26]
  have hs0 := lft_step hL0
  refine ⟨fun hn => (lft_neg (by have := hs0.1 hn; omega)).symm, fun hn0 => ?_⟩
  have hp0 := hs0.2 hn0
  clear hs0 hL0
  refine HFnF.mk (sz_Service x.fService (L0) (by omega) (by omega)) ?_
  generalize hL1 : lft (L0) (DService.s x.fService) = L1
  simp -dsimp -implicitDefEqProofs only [go_sem, ↓reduceIte, keep26, ib26, mk26, Try.f26]
  have hs1 := lft_step hL1
  refine ⟨fun hn => (lft_neg (by have := hs1.1 hn; omega)).symm, fun hn1 => ?_⟩
  have hp1 := hs1.2 hn1
  clear hs1 hL1
  refine fun hl2 => ?_
  rw [IntWalk.i64_in _ (by omega)]
  generalize hL2 : L1 - ((x.fJournal.length : Nat) : Int) = L2
  refine ⟨fun hn => (lft_neg (by omega)).symm, fun hn2 => ?_⟩
  refine HFnF.mk (sz_ReportSS x.fQueues (L2) (by omega) (by omega) (fun x _ left h0 h1 => sz_ReportS x left h0 h1 (fun x _ left h0 h1 => sz_Report x left h0 h1))) ?_
  generalize hL3 : lft (L2) (szs (fun x => szs DReport.s x) x.fQueues) = L3
  simp -dsimp -implicitDefEqProofs only [go_sem, ↓reduceIte, keep26, ib26, mk26, Try.f26]
  have hs3 := lft_step hL3
  refine ⟨fun hn => (lft_neg (by have := hs3.1 hn; omega)).symm, fun hn3 => ?_⟩
  have hp3 := hs3.2 hn3
  clear hs3 hL3
  refine HFnF.mk (sz_ReportS x.fFlying (L3) (by omega) (by omega) (fun x _ left h0 h1 => sz_Report x left h0 h1)) ?_
  generalize hL4 : lft (L3) (szs DReport.s x.fFlying) = L4
  simp -dsimp -implicitDefEqProofs only [go_sem, ↓reduceIte, keep26, ib26, mk26, Try.f26]
  have hs4 := lft_step hL4
  refine ⟨fun hn => (lft_neg (by have := hs4.1 hn; omega)).symm, fun hn4 => ?_⟩
  have hp4 := hs4.2 hn4
  clear hs4 hL4
  try (rw [lft_pos (by omega)]; omega)

end Go.Hl

/-
  Contracts of functions and laws of the layer over the walk.
-/
import Derived.Test.YthgfmobhhdmkpaaDa
namespace Go.Hl
open Go.Proofs
set_option linter.unusedVariables false
set_option linter.unusedSimpArgs false


def keep105 : List Nat := [0, 1, 4, 5, 10, 14, 26]
def ib105 : List Nat := []
def mk105 : Marks := fun id => match id with | 6 => ([], [0, 1, 2, 3, 4, 5, 6, 7, 8, 9]) | _ => ([], [])
set_option maxRecDepth 100000 in
theorem eq_ExprS (a b : List DExpr) (hc : ∀ x ∈ a, ∀ y, Fn0 Try.prog 116 [(.agg (DExpr.c x)), (.agg (DExpr.c y))] (.bool (decide (x = y)))) : Fn0 Try.prog 105 [(sls 5 DExpr.c a), (sls 5 DExpr.c b)] (.bool (decide (a = b))) := by
  refine fn0F 27 keep105 ib105 mk105 mix Try.func105 rfl (by kernel_rfl) (by simp) fun h => ?_
  simp -dsimp -implicitDefEqProofs only [go_sem, Try.f105, ↓reduceIte, keep105, ib105, mk105]
  refine fun _ _ => ⟨fun hne => ?_, fun heq => ?_⟩
  · exact (decide_eq_false fun e => hne (by rw [e])).symm
  · refine loopF (keep := keep105) (ib := ib105) (mk := mk105) mix (by kernel_rfl) (fun k : Nat => [(0, (sls 5 DExpr.c a)), (1, (sls 5 DExpr.c b)), (5, I k)]) (fun _ => h) (fun k => k ≤ a.length ∧ a.take k = b.take k) (fun k => a.length - k) 0 (by simp [SatL, tget, Heap.le_refl]) ?_
    intro k ⟨hk, hp⟩
    rcases Nat.lt_or_ge k a.length with hlt | hge
    · have hlb : k < b.length := by omega
      have ea : a[k]? = some a[k] := List.getElem?_eq_getElem hlt
      have eb : b[k]? = some b[k] := List.getElem?_eq_getElem hlb
      simp -dsimp -implicitDefEqProofs only [go_sem, ↓reduceIte, keep105, ib105, mk105, Try.f105, ea, eb, DExpr.c_eq]
      refine fun _ => ⟨fun _ => ⟨hlt, hlb, ?_⟩, fun hn => absurd hlt hn⟩
      have hx := hc a[k] (List.getElem_mem hlt) b[k]
      simp only [DExpr.c_eq] at hx
      refine CallSF.mk hx ?_
      by_cases he : a[k] = b[k]
      · have d := decide_eq_true he
        simp -dsimp -implicitDefEqProofs only [go_sem, ↓reduceIte, keep105, ib105, mk105, Try.f105, d]
        exact ⟨k + 1, by rw [IntWalk.i64_in _ (by omega)]; rfl, ⟨by omega, take_step hlt hlb hp he⟩, by omega⟩
      · have d := decide_eq_false he
        simp -dsimp -implicitDefEqProofs only [go_sem, ↓reduceIte, keep105, ib105, mk105, Try.f105, d]
        exact (decide_eq_false fun e => he (getElem_of_eq e hlt)).symm
    · have hk' : k = a.length := by omega
      subst hk'
      simp -dsimp -implicitDefEqProofs only [go_sem, ↓reduceIte, keep105, ib105, mk105, Try.f105, Nat.lt_irrefl]
      exact fun _ => (decide_eq_true (eq_of_take heq hp)).symm

def keep116 : List Nat := [0, 1, 2, 3, 4, 9, 14, 19, 24, 30]
def ib116 : List Nat := [2, 3]
def mk116 : Marks := fun _ => ([], [])
set_option maxRecDepth 100000 in
theorem eq_Expr_step (a b : DExpr) (hk : Fn0 Try.prog 105 [(sls 5 DExpr.c a.fKids), (sls 5 DExpr.c b.fKids)] (.bool (decide (a.fKids = b.fKids)))) : Fn0 Try.prog 116 [.agg a.c, .agg b.c] (.bool (decide (a = b))) := by
  simp only [DExpr.c_eq]
  refine fn0F 31 keep116 ib116 mk116 mix Try.func116 rfl (by kernel_rfl) (by simp) fun h => ?_
  simp -dsimp -implicitDefEqProofs only [go_sem, Try.f116, ↓reduceIte, keep116, ib116, mk116]
  refine ⟨fun hn => (decide_eq_false fun e => hn (by rw [e])).symm, fun efKind => ?_⟩
  refine ⟨fun hn => (decide_eq_false fun e => hn (by rw [e])).symm, fun efNum => ?_⟩
  refine ⟨fun hn => (decide_eq_false fun e => hn (by rw [e])).symm, fun efPick => ?_⟩
  refine ⟨fun hn => (decide_eq_false fun e => hn (by rw [e])).symm, fun efCount => ?_⟩
  refine HFnF.mk hk ?_
  by_cases efKids : a.fKids = b.fKids
  case neg =>
    have d := decide_eq_false efKids
    simp -dsimp -implicitDefEqProofs only [go_sem, ↓reduceIte, keep116, ib116, mk116, Try.f116, d]
    exact (decide_eq_false fun e => efKids (by rw [e])).symm
  have dfKids := decide_eq_true efKids
  simp -dsimp -implicitDefEqProofs only [go_sem, ↓reduceIte, keep116, ib116, mk116, Try.f116, dfKids]
  exact (decide_eq_true (DExpr.eq_iff.2 ⟨efKind, efNum, efPick, efCount, efKids⟩)).symm
theorem eq_Expr (a b : DExpr) : Fn0 Try.prog 116 [.agg a.c, .agg b.c] (.bool (decide (a = b))) :=
  eq_Expr_step a b (eq_ExprS a.fKids b.fKids fun x hx y => eq_Expr x y)
termination_by SizeOf.sizeOf a
decreasing_by exact DExpr.kid_lt hx

def keep88 : List Nat := [0, 1, 2, 3, 4, 9, 14, 20]
def ib88 : List Nat := [2, 3]
def mk88 : Marks := fun _ => ([], [])
set_option maxRecDepth 100000 in
theorem eq_Func (a b : DFunc) : Fn0 Try.prog 88 [.agg a.c, .agg b.c] (.bool (decide (a = b))) := by
  simp only [DFunc.c_eq]
  refine fn0F 21 keep88 ib88 mk88 mix Try.func88 rfl (by kernel_rfl) (by simp) fun h => ?_
  simp -dsimp -implicitDefEqProofs only [go_sem, Try.f88, ↓reduceIte, keep88, ib88, mk88]
  refine ⟨fun hn => (decide_eq_false fun e => hn (by rw [e])).symm, fun efName => ?_⟩
  refine ⟨fun hn => (decide_eq_false fun e => hn (by rw [e])).symm, fun efParams => ?_⟩
  refine HFnF.mk (eq_ExprS a.fOuts b.fOuts (fun x _ y => (eq_Expr x y))) ?_
  by_cases efOuts : a.fOuts = b.fOuts
  case neg =>
    have d := decide_eq_false efOuts
    simp -dsimp -implicitDefEqProofs only [go_sem, ↓reduceIte, keep88, ib88, mk88, Try.f88, d]
    exact (decide_eq_false fun e => efOuts (by rw [e])).symm
  have dfOuts := decide_eq_true efOuts
  simp -dsimp -implicitDefEqProofs only [go_sem, ↓reduceIte, keep88, ib88, mk88, Try.f88, dfOuts]
  exact (decide_eq_true (DFunc.eq_iff.2 ⟨efName, efParams, efOuts⟩)).symm

def keep71 : List Nat := [0, 1, 4, 5, 10, 14, 26]
def ib71 : List Nat := []
def mk71 : Marks := fun id => match id with | 6 => ([], [0, 1, 2, 3, 4, 5, 6, 7, 8, 9]) | _ => ([], [])
set_option maxRecDepth 100000 in
theorem eq_FuncS (a b : List DFunc) (hc : ∀ x ∈ a, ∀ y, Fn0 Try.prog 88 [(.agg (DFunc.c x)), (.agg (DFunc.c y))] (.bool (decide (x = y)))) : Fn0 Try.prog 71 [(sls 3 DFunc.c a), (sls 3 DFunc.c b)] (.bool (decide (a = b))) := by
  refine fn0F 27 keep71 ib71 mk71 mix Try.func71 rfl (by kernel_rfl) (by simp) fun h => ?_
  simp -dsimp -implicitDefEqProofs only [go_sem, Try.f71, ↓reduceIte, keep71, ib71, mk71]
  refine fun _ _ => ⟨fun hne => ?_, fun heq => ?_⟩
  · exact (decide_eq_false fun e => hne (by rw [e])).symm
  · refine loopF (keep := keep71) (ib := ib71) (mk := mk71) mix (by kernel_rfl) (fun k : Nat => [(0, (sls 3 DFunc.c a)), (1, (sls 3 DFunc.c b)), (5, I k)]) (fun _ => h) (fun k => k ≤ a.length ∧ a.take k = b.take k) (fun k => a.length - k) 0 (by simp [SatL, tget, Heap.le_refl]) ?_
    intro k ⟨hk, hp⟩
    rcases Nat.lt_or_ge k a.length with hlt | hge
    · have hlb : k < b.length := by omega
      have ea : a[k]? = some a[k] := List.getElem?_eq_getElem hlt
      have eb : b[k]? = some b[k] := List.getElem?_eq_getElem hlb
      simp -dsimp -implicitDefEqProofs only [go_sem, ↓reduceIte, keep71, ib71, mk71, Try.f71, ea, eb, DFunc.c_eq]
      refine fun _ => ⟨fun _ => ⟨hlt, hlb, ?_⟩, fun hn => absurd hlt hn⟩
      have hx := hc a[k] (List.getElem_mem hlt) b[k]
      simp only [DFunc.c_eq] at hx
      refine CallSF.mk hx ?_
      by_cases he : a[k] = b[k]
      · have d := decide_eq_true he
        simp -dsimp -implicitDefEqProofs only [go_sem, ↓reduceIte, keep71, ib71, mk71, Try.f71, d]
        exact ⟨k + 1, by rw [IntWalk.i64_in _ (by omega)]; rfl, ⟨by omega, take_step hlt hlb hp he⟩, by omega⟩
      · have d := decide_eq_false he
        simp -dsimp -implicitDefEqProofs only [go_sem, ↓reduceIte, keep71, ib71, mk71, Try.f71, d]
        exact (decide_eq_false fun e => he (getElem_of_eq e hlt)).symm
    · have hk' : k = a.length := by omega
      subst hk'
      simp -dsimp -implicitDefEqProofs only [go_sem, ↓reduceIte, keep71, ib71, mk71, Try.f71, Nat.lt_irrefl]
      exact fun _ => (decide_eq_true (eq_of_take heq hp)).symm

def keep47 : List Nat := [0, 1, 2, 3, 4, 10]
def ib47 : List Nat := [2, 3]
def mk47 : Marks := fun _ => ([], [])
set_option maxRecDepth 100000 in
theorem eq_Program (a b : DProgram) : Fn0 Try.prog 47 [.agg a.c, .agg b.c] (.bool (decide (a = b))) := by
  simp only [DProgram.c_eq]
  refine fn0F 11 keep47 ib47 mk47 mix Try.func47 rfl (by kernel_rfl) (by simp) fun h => ?_
  simp -dsimp -implicitDefEqProofs only [go_sem, Try.f47, ↓reduceIte, keep47, ib47, mk47]
  refine HFnF.mk (eq_FuncS a.fFuncs b.fFuncs (fun x _ y => (eq_Func x y))) ?_
  by_cases efFuncs : a.fFuncs = b.fFuncs
  case neg =>
    have d := decide_eq_false efFuncs
    simp -dsimp -implicitDefEqProofs only [go_sem, ↓reduceIte, keep47, ib47, mk47, Try.f47, d]
    exact (decide_eq_false fun e => efFuncs (by rw [e])).symm
  have dfFuncs := decide_eq_true efFuncs
  simp -dsimp -implicitDefEqProofs only [go_sem, ↓reduceIte, keep47, ib47, mk47, Try.f47, dfFuncs]
  exact (decide_eq_true (DProgram.eq_iff.2 efFuncs)).symm

def keep13 : List Nat := [0, 1, 4, 5, 10, 14, 25]
def ib13 : List Nat := []
def mk13 : Marks := fun id => match id with | 6 => ([], [0, 1, 2, 3, 4, 5, 6, 7, 8]) | _ => ([], [])
set_option maxRecDepth 100000 in
theorem eq_Int64S (a b : List Int) : Fn0 Try.prog 13 [(sls 1 (fun n => [I n]) a), (sls 1 (fun n => [I n]) b)] (.bool (decide (a = b))) := by
  refine fn0F 26 keep13 ib13 mk13 mix Try.func13 rfl (by kernel_rfl) (by simp) fun h => ?_
  simp -dsimp -implicitDefEqProofs only [go_sem, Try.f13, ↓reduceIte, keep13, ib13, mk13]
  refine fun _ _ => ⟨fun hne => ?_, fun heq => ?_⟩
  · exact (decide_eq_false fun e => hne (by rw [e])).symm
  · refine loopF (keep := keep13) (ib := ib13) (mk := mk13) mix (by kernel_rfl) (fun k : Nat => [(0, (sls 1 (fun n => [I n]) a)), (1, (sls 1 (fun n => [I n]) b)), (5, I k)]) (fun _ => h) (fun k => k ≤ a.length ∧ a.take k = b.take k) (fun k => a.length - k) 0 (by simp [SatL, tget, Heap.le_refl]) ?_
    intro k ⟨hk, hp⟩
    rcases Nat.lt_or_ge k a.length with hlt | hge
    · have hlb : k < b.length := by omega
      have ea : a[k]? = some a[k] := List.getElem?_eq_getElem hlt
      have eb : b[k]? = some b[k] := List.getElem?_eq_getElem hlb
      simp -dsimp -implicitDefEqProofs only [go_sem, ↓reduceIte, keep13, ib13, mk13, Try.f13, ea, eb]
      refine fun _ => ⟨fun _ => ⟨hlt, hlb, fun hne => ?_, fun he => ?_⟩, fun hn => absurd hlt hn⟩
      · first
          | exact (decide_eq_false fun e => hne (getElem_of_eq e hlt)).symm
          | exact (decide_eq_false fun e => by have := getElem_of_eq e hlt (hb := hlb); rw [this] at hne; simp at hne).symm
      · exact ⟨k + 1, by rw [IntWalk.i64_in _ (by omega)]; rfl, ⟨by omega, take_step hlt hlb hp (by first | exact he | simpa using he)⟩, by omega⟩
    · have hk' : k = a.length := by omega
      subst hk'
      simp -dsimp -implicitDefEqProofs only [go_sem, ↓reduceIte, keep13, ib13, mk13, Try.f13, Nat.lt_irrefl]
      exact fun _ => (decide_eq_true (eq_of_take heq hp)).symm

def keep48 : List Nat := [0, 1, 4, 5, 10, 14, 26]
def ib48 : List Nat := []
def mk48 : Marks := fun id => match id with | 6 => ([], [0, 1, 2, 3, 4, 5, 6, 7, 8, 9]) | _ => ([], [])
set_option maxRecDepth 100000 in
theorem eq_Int64SS (a b : List (List Int)) (hc : ∀ x ∈ a, ∀ y, Fn0 Try.prog 13 [(sls 1 (fun n => [I n]) x), (sls 1 (fun n => [I n]) y)] (.bool (decide (x = y)))) : Fn0 Try.prog 48 [(sls 1 (fun x => [sls 1 (fun n => [I n]) x]) a), (sls 1 (fun x => [sls 1 (fun n => [I n]) x]) b)] (.bool (decide (a = b))) := by
  refine fn0F 27 keep48 ib48 mk48 mix Try.func48 rfl (by kernel_rfl) (by simp) fun h => ?_
  simp -dsimp -implicitDefEqProofs only [go_sem, Try.f48, ↓reduceIte, keep48, ib48, mk48]
  refine fun _ _ => ⟨fun hne => ?_, fun heq => ?_⟩
  · exact (decide_eq_false fun e => hne (by rw [e])).symm
  · refine loopF (keep := keep48) (ib := ib48) (mk := mk48) mix (by kernel_rfl) (fun k : Nat => [(0, (sls 1 (fun x => [sls 1 (fun n => [I n]) x]) a)), (1, (sls 1 (fun x => [sls 1 (fun n => [I n]) x]) b)), (5, I k)]) (fun _ => h) (fun k => k ≤ a.length ∧ a.take k = b.take k) (fun k => a.length - k) 0 (by simp [SatL, tget, Heap.le_refl]) ?_
    intro k ⟨hk, hp⟩
    rcases Nat.lt_or_ge k a.length with hlt | hge
    · have hlb : k < b.length := by omega
      have ea : a[k]? = some a[k] := List.getElem?_eq_getElem hlt
      have eb : b[k]? = some b[k] := List.getElem?_eq_getElem hlb
      simp -dsimp -implicitDefEqProofs only [go_sem, ↓reduceIte, keep48, ib48, mk48, Try.f48, ea, eb]
      refine fun _ => ⟨fun _ => ⟨hlt, hlb, ?_⟩, fun hn => absurd hlt hn⟩
      have hx := hc a[k] (List.getElem_mem hlt) b[k]
      refine CallSF.mk hx ?_
      by_cases he : a[k] = b[k]
      · have d := decide_eq_true he
        simp -dsimp -implicitDefEqProofs only [go_sem, ↓reduceIte, keep48, ib48, mk48, Try.f48, d]
        exact ⟨k + 1, by rw [IntWalk.i64_in _ (by omega)]; rfl, ⟨by omega, take_step hlt hlb hp he⟩, by omega⟩
      · have d := decide_eq_false he
        simp -dsimp -implicitDefEqProofs only [go_sem, ↓reduceIte, keep48, ib48, mk48, Try.f48, d]
        exact (decide_eq_false fun e => he (getElem_of_eq e hlt)).symm
    · have hk' : k = a.length := by omega
      subst hk'
      simp -dsimp -implicitDefEqProofs only [go_sem, ↓reduceIte, keep48, ib48, mk48, Try.f48, Nat.lt_irrefl]
      exact fun _ => (decide_eq_true (eq_of_take heq hp)).symm

def keep21 : List Nat := [0, 1, 2, 3, 4, 10, 15, 20, 26, 32]
def ib21 : List Nat := [2, 3]
def mk21 : Marks := fun _ => ([], [])
set_option maxRecDepth 100000 in
theorem eq_Job (a b : DJob) : Fn0 Try.prog 21 [.agg a.c, .agg b.c] (.bool (decide (a = b))) := by
  simp only [DJob.c_eq]
  refine fn0F 33 keep21 ib21 mk21 mix Try.func21 rfl (by kernel_rfl) (by simp) fun h => ?_
  simp -dsimp -implicitDefEqProofs only [go_sem, Try.f21, ↓reduceIte, keep21, ib21, mk21]
  refine HFnF.mk (eq_Program a.fProgram b.fProgram) ?_
  by_cases efProgram : a.fProgram = b.fProgram
  case neg =>
    have d := decide_eq_false efProgram
    simp -dsimp -implicitDefEqProofs only [go_sem, ↓reduceIte, keep21, ib21, mk21, Try.f21, d]
    exact (decide_eq_false fun e => efProgram (by rw [e])).symm
  have dfProgram := decide_eq_true efProgram
  simp -dsimp -implicitDefEqProofs only [go_sem, ↓reduceIte, keep21, ib21, mk21, Try.f21, dfProgram]
  refine ⟨fun hn => (decide_eq_false fun e => hn (by rw [e])).symm, fun efFunc => ?_⟩
  refine ⟨fun hn => (decide_eq_false fun e => hn (by rw [e])).symm, fun efShared => ?_⟩
  refine HFnF.mk (eq_Int64S a.fPoint b.fPoint) ?_
  by_cases efPoint : a.fPoint = b.fPoint
  case neg =>
    have d := decide_eq_false efPoint
    simp -dsimp -implicitDefEqProofs only [go_sem, ↓reduceIte, keep21, ib21, mk21, Try.f21, d]
    exact (decide_eq_false fun e => efPoint (by rw [e])).symm
  have dfPoint := decide_eq_true efPoint
  simp -dsimp -implicitDefEqProofs only [go_sem, ↓reduceIte, keep21, ib21, mk21, Try.f21, dfPoint]
  refine HFnF.mk (eq_Int64SS a.fTerms b.fTerms (fun x _ y => (eq_Int64S x y))) ?_
  by_cases efTerms : a.fTerms = b.fTerms
  case neg =>
    have d := decide_eq_false efTerms
    simp -dsimp -implicitDefEqProofs only [go_sem, ↓reduceIte, keep21, ib21, mk21, Try.f21, d]
    exact (decide_eq_false fun e => efTerms (by rw [e])).symm
  have dfTerms := decide_eq_true efTerms
  simp -dsimp -implicitDefEqProofs only [go_sem, ↓reduceIte, keep21, ib21, mk21, Try.f21, dfTerms]
  exact (decide_eq_true (DJob.eq_iff.2 ⟨efProgram, efFunc, efShared, efPoint, efTerms⟩)).symm


def keep35 : List Nat := [0, 1, 4, 5, 10, 14, 25]
def ib35 : List Nat := []
def mk35 : Marks := fun id => match id with | 6 => ([], [0, 1, 2, 3, 4, 5, 6, 7, 8]) | _ => ([], [])
set_option maxRecDepth 100000 in
theorem eq_BoolS (a b : List Bool) : Fn0 Try.prog 35 [(sls 1 (fun b => [.bool b]) a), (sls 1 (fun b => [.bool b]) b)] (.bool (decide (a = b))) := by
  refine fn0F 26 keep35 ib35 mk35 mix Try.func35 rfl (by kernel_rfl) (by simp) fun h => ?_
  simp -dsimp -implicitDefEqProofs only [go_sem, Try.f35, ↓reduceIte, keep35, ib35, mk35]
  refine fun _ _ => ⟨fun hne => ?_, fun heq => ?_⟩
  · exact (decide_eq_false fun e => hne (by rw [e])).symm
  · refine loopF (keep := keep35) (ib := ib35) (mk := mk35) mix (by kernel_rfl) (fun k : Nat => [(0, (sls 1 (fun b => [.bool b]) a)), (1, (sls 1 (fun b => [.bool b]) b)), (5, I k)]) (fun _ => h) (fun k => k ≤ a.length ∧ a.take k = b.take k) (fun k => a.length - k) 0 (by simp [SatL, tget, Heap.le_refl]) ?_
    intro k ⟨hk, hp⟩
    rcases Nat.lt_or_ge k a.length with hlt | hge
    · have hlb : k < b.length := by omega
      have ea : a[k]? = some a[k] := List.getElem?_eq_getElem hlt
      have eb : b[k]? = some b[k] := List.getElem?_eq_getElem hlb
      simp -dsimp -implicitDefEqProofs only [go_sem, ↓reduceIte, keep35, ib35, mk35, Try.f35, ea, eb]
      refine fun _ => ⟨fun _ => ⟨hlt, hlb, fun hne => ?_, fun he => ?_⟩, fun hn => absurd hlt hn⟩
      · first
          | exact (decide_eq_false fun e => hne (getElem_of_eq e hlt)).symm
          | exact (decide_eq_false fun e => by have := getElem_of_eq e hlt (hb := hlb); rw [this] at hne; simp at hne).symm
      · exact ⟨k + 1, by rw [IntWalk.i64_in _ (by omega)]; rfl, ⟨by omega, take_step hlt hlb hp (by first | exact he | simpa using he)⟩, by omega⟩
    · have hk' : k = a.length := by omega
      subst hk'
      simp -dsimp -implicitDefEqProofs only [go_sem, ↓reduceIte, keep35, ib35, mk35, Try.f35, Nat.lt_irrefl]
      exact fun _ => (decide_eq_true (eq_of_take heq hp)).symm

def keep64 : List Nat := [0, 1, 2, 3, 4, 9, 14, 20]
def ib64 : List Nat := [2, 3]
def mk64 : Marks := fun _ => ([], [])
set_option maxRecDepth 100000 in
theorem eq_Part (a b : DPart) : Fn0 Try.prog 64 [.agg a.c, .agg b.c] (.bool (decide (a = b))) := by
  simp only [DPart.c_eq]
  refine fn0F 21 keep64 ib64 mk64 mix Try.func64 rfl (by kernel_rfl) (by simp) fun h => ?_
  simp -dsimp -implicitDefEqProofs only [go_sem, Try.f64, ↓reduceIte, keep64, ib64, mk64]
  refine ⟨fun hn => (decide_eq_false fun e => hn (by rw [e])).symm, fun efCode => ?_⟩
  refine ⟨fun hn => (decide_eq_false fun e => hn (by rw [e])).symm, fun efValue => ?_⟩
  refine HFnF.mk (eq_Int64S a.fGrad b.fGrad) ?_
  by_cases efGrad : a.fGrad = b.fGrad
  case neg =>
    have d := decide_eq_false efGrad
    simp -dsimp -implicitDefEqProofs only [go_sem, ↓reduceIte, keep64, ib64, mk64, Try.f64, d]
    exact (decide_eq_false fun e => efGrad (by rw [e])).symm
  have dfGrad := decide_eq_true efGrad
  simp -dsimp -implicitDefEqProofs only [go_sem, ↓reduceIte, keep64, ib64, mk64, Try.f64, dfGrad]
  exact (decide_eq_true (DPart.eq_iff.2 ⟨efCode, efValue, efGrad⟩)).symm

def keep36 : List Nat := [0, 1, 4, 5, 10, 14, 26]
def ib36 : List Nat := []
def mk36 : Marks := fun id => match id with | 6 => ([], [0, 1, 2, 3, 4, 5, 6, 7, 8, 9]) | _ => ([], [])
set_option maxRecDepth 100000 in
theorem eq_PartS (a b : List DPart) (hc : ∀ x ∈ a, ∀ y, Fn0 Try.prog 64 [(.agg (DPart.c x)), (.agg (DPart.c y))] (.bool (decide (x = y)))) : Fn0 Try.prog 36 [(sls 3 DPart.c a), (sls 3 DPart.c b)] (.bool (decide (a = b))) := by
  refine fn0F 27 keep36 ib36 mk36 mix Try.func36 rfl (by kernel_rfl) (by simp) fun h => ?_
  simp -dsimp -implicitDefEqProofs only [go_sem, Try.f36, ↓reduceIte, keep36, ib36, mk36]
  refine fun _ _ => ⟨fun hne => ?_, fun heq => ?_⟩
  · exact (decide_eq_false fun e => hne (by rw [e])).symm
  · refine loopF (keep := keep36) (ib := ib36) (mk := mk36) mix (by kernel_rfl) (fun k : Nat => [(0, (sls 3 DPart.c a)), (1, (sls 3 DPart.c b)), (5, I k)]) (fun _ => h) (fun k => k ≤ a.length ∧ a.take k = b.take k) (fun k => a.length - k) 0 (by simp [SatL, tget, Heap.le_refl]) ?_
    intro k ⟨hk, hp⟩
    rcases Nat.lt_or_ge k a.length with hlt | hge
    · have hlb : k < b.length := by omega
      have ea : a[k]? = some a[k] := List.getElem?_eq_getElem hlt
      have eb : b[k]? = some b[k] := List.getElem?_eq_getElem hlb
      simp -dsimp -implicitDefEqProofs only [go_sem, ↓reduceIte, keep36, ib36, mk36, Try.f36, ea, eb, DPart.c_eq]
      refine fun _ => ⟨fun _ => ⟨hlt, hlb, ?_⟩, fun hn => absurd hlt hn⟩
      have hx := hc a[k] (List.getElem_mem hlt) b[k]
      simp only [DPart.c_eq] at hx
      refine CallSF.mk hx ?_
      by_cases he : a[k] = b[k]
      · have d := decide_eq_true he
        simp -dsimp -implicitDefEqProofs only [go_sem, ↓reduceIte, keep36, ib36, mk36, Try.f36, d]
        exact ⟨k + 1, by rw [IntWalk.i64_in _ (by omega)]; rfl, ⟨by omega, take_step hlt hlb hp he⟩, by omega⟩
      · have d := decide_eq_false he
        simp -dsimp -implicitDefEqProofs only [go_sem, ↓reduceIte, keep36, ib36, mk36, Try.f36, d]
        exact (decide_eq_false fun e => he (getElem_of_eq e hlt)).symm
    · have hk' : k = a.length := by omega
      subst hk'
      simp -dsimp -implicitDefEqProofs only [go_sem, ↓reduceIte, keep36, ib36, mk36, Try.f36, Nat.lt_irrefl]
      exact fun _ => (decide_eq_true (eq_of_take heq hp)).symm

def keep10 : List Nat := [0, 1, 2, 3, 4, 10, 16, 22, 28, 34]
def ib10 : List Nat := [2, 3]
def mk10 : Marks := fun _ => ([], [])
set_option maxRecDepth 100000 in
theorem eq_Service (a b : DService) : Fn0 Try.prog 10 [.agg a.c, .agg b.c] (.bool (decide (a = b))) := by
  simp only [DService.c_eq]
  refine fn0F 35 keep10 ib10 mk10 mix Try.func10 rfl (by kernel_rfl) (by simp) fun h => ?_
  simp -dsimp -implicitDefEqProofs only [go_sem, Try.f10, ↓reduceIte, keep10, ib10, mk10]
  refine HFnF.mk (eq_Job a.fJob b.fJob) ?_
  by_cases efJob : a.fJob = b.fJob
  case neg =>
    have d := decide_eq_false efJob
    simp -dsimp -implicitDefEqProofs only [go_sem, ↓reduceIte, keep10, ib10, mk10, Try.f10, d]
    exact (decide_eq_false fun e => efJob (by rw [e])).symm
  have dfJob := decide_eq_true efJob
  simp -dsimp -implicitDefEqProofs only [go_sem, ↓reduceIte, keep10, ib10, mk10, Try.f10, dfJob]
  refine HFnF.mk (eq_Int64S a.fStamps b.fStamps) ?_
  by_cases efStamps : a.fStamps = b.fStamps
  case neg =>
    have d := decide_eq_false efStamps
    simp -dsimp -implicitDefEqProofs only [go_sem, ↓reduceIte, keep10, ib10, mk10, Try.f10, d]
    exact (decide_eq_false fun e => efStamps (by rw [e])).symm
  have dfStamps := decide_eq_true efStamps
  simp -dsimp -implicitDefEqProofs only [go_sem, ↓reduceIte, keep10, ib10, mk10, Try.f10, dfStamps]
  refine HFnF.mk (eq_BoolS a.fKnown b.fKnown) ?_
  by_cases efKnown : a.fKnown = b.fKnown
  case neg =>
    have d := decide_eq_false efKnown
    simp -dsimp -implicitDefEqProofs only [go_sem, ↓reduceIte, keep10, ib10, mk10, Try.f10, d]
    exact (decide_eq_false fun e => efKnown (by rw [e])).symm
  have dfKnown := decide_eq_true efKnown
  simp -dsimp -implicitDefEqProofs only [go_sem, ↓reduceIte, keep10, ib10, mk10, Try.f10, dfKnown]
  refine HFnF.mk (eq_PartS a.fParts b.fParts (fun x _ y => (eq_Part x y))) ?_
  by_cases efParts : a.fParts = b.fParts
  case neg =>
    have d := decide_eq_false efParts
    simp -dsimp -implicitDefEqProofs only [go_sem, ↓reduceIte, keep10, ib10, mk10, Try.f10, d]
    exact (decide_eq_false fun e => efParts (by rw [e])).symm
  have dfParts := decide_eq_true efParts
  simp -dsimp -implicitDefEqProofs only [go_sem, ↓reduceIte, keep10, ib10, mk10, Try.f10, dfParts]
  refine HFnF.mk (eq_Int64S a.fOwners b.fOwners) ?_
  by_cases efOwners : a.fOwners = b.fOwners
  case neg =>
    have d := decide_eq_false efOwners
    simp -dsimp -implicitDefEqProofs only [go_sem, ↓reduceIte, keep10, ib10, mk10, Try.f10, d]
    exact (decide_eq_false fun e => efOwners (by rw [e])).symm
  have dfOwners := decide_eq_true efOwners
  simp -dsimp -implicitDefEqProofs only [go_sem, ↓reduceIte, keep10, ib10, mk10, Try.f10, dfOwners]
  exact (decide_eq_true (DService.eq_iff.2 ⟨efJob, efStamps, efKnown, efParts, efOwners⟩)).symm

end Go.Hl

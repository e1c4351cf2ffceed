/-
  Contracts of functions and laws of the layer over the walk.
-/
import Derived.Test.YthgfmobhhdmkpaaVvA
namespace Go.Hl
open Go.Proofs
set_option linter.unusedVariables false
set_option linter.unusedSimpArgs false


def keep105 : List Nat := [0, 1, 4, 5, 10, 14, 26]
def ib105 : List Nat := []
def mk105 : Marks := fun id => match id with | 6 => ([], [0, 1, 2, 3, 4, 5, 6, 7, 8, 9], []) | _ => ([], [], [])
set_option maxRecDepth 100000 in
theorem eq_ExprS (a b : List DExpr) (hc : ∀ x ∈ a, ∀ y, Fn0 Try.prog 116 [(.agg (DExpr.c x)), (.agg (DExpr.c y))] (.bool (decide (x = y)))) : Fn0 Try.prog 105 [(sls 5 DExpr.c a), (sls 5 DExpr.c b)] (.bool (decide (a = b))) := by
  refine fn0F 27 keep105 ib105 mk105 mix Try.func105 rfl (by kernel_rfl) (by simp) fun h => ?_
  simp -dsimp -implicitDefEqProofs only [go_sem, Try.f105, ↓reduceIte, keep105, ib105, mk105]
  refine fun _ _ => ⟨fun hne => ?_, fun heq => ?_⟩
  · exact (decide_eq_false fun e => hne (by rw [e])).symm
  · refine loopF (keep := keep105) (ib := ib105) (mk := mk105) mix (by kernel_rfl) (fun k : Nat => [(0, (sls 5 DExpr.c a)), (1, (sls 5 DExpr.c b)), (5, I k)]) (fun _ => h) (fun k => k ≤ a.length ∧ a.take k = b.take k) (fun k => a.length - k) 0 (by simp [SatL, tget, Heap.le_refl]) ?_
    intro k ⟨hk, hp⟩
    rcases Nat.lt_or_ge k a.length with hlt | hge
    · have hlb : k < b.length := by omega
      have ea : a[k]? = some a[k] := List.getElem?_eq_getElem hlt
      have eb : b[k]? = some b[k] := List.getElem?_eq_getElem hlb
      simp -dsimp -implicitDefEqProofs only [go_sem, ↓reduceIte, keep105, ib105, mk105, Try.f105, ea, eb, DExpr.c_eq]
      refine fun _ => ⟨fun _ => ⟨hlt, hlb, ?_⟩, fun hn => absurd hlt hn⟩
      have hx := hc a[k] (List.getElem_mem hlt) b[k]
      simp only [DExpr.c_eq] at hx
      refine CallSF.mk hx ?_
      by_cases he : a[k] = b[k]
      · have d := decide_eq_true he
        simp -dsimp -implicitDefEqProofs only [go_sem, ↓reduceIte, keep105, ib105, mk105, Try.f105, d]
        exact ⟨k + 1, by rw [IntWalk.i64_in _ (by omega)]; rfl, ⟨by omega, take_step hlt hlb hp he⟩, by omega⟩
      · have d := decide_eq_false he
        simp -dsimp -implicitDefEqProofs only [go_sem, ↓reduceIte, keep105, ib105, mk105, Try.f105, d]
        exact (decide_eq_false fun e => he (getElem_of_eq e hlt)).symm
    · have hk' : k = a.length := by omega
      subst hk'
      simp -dsimp -implicitDefEqProofs only [go_sem, ↓reduceIte, keep105, ib105, mk105, Try.f105, Nat.lt_irrefl]
      exact fun _ => (decide_eq_true (eq_of_take heq hp)).symm

def keep116 : List Nat := [0, 1, 2, 3, 4, 9, 14, 19, 24, 30]
def ib116 : List Nat := [2, 3]
def mk116 : Marks := fun _ => ([], [], [])
set_option maxRecDepth 100000 in
theorem eq_Expr_step (a b : DExpr) (hk : Fn0 Try.prog 105 [(sls 5 DExpr.c a.fKids), (sls 5 DExpr.c b.fKids)] (.bool (decide (a.fKids = b.fKids)))) : Fn0 Try.prog 116 [.agg a.c, .agg b.c] (.bool (decide (a = b))) := by
  simp only [DExpr.c_eq]
  refine fn0F 31 keep116 ib116 mk116 mix Try.func116 rfl (by kernel_rfl) (by simp) fun h => ?_
  simp -dsimp -implicitDefEqProofs only [go_sem, Try.f116, ↓reduceIte, keep116, ib116, mk116]
  refine ⟨fun hn => (decide_eq_false fun e => hn (by rw [e])).symm, fun efKind => ?_⟩
  refine ⟨fun hn => (decide_eq_false fun e => hn (by rw [e])).symm, fun efNum => ?_⟩
  refine ⟨fun hn => (decide_eq_false fun e => hn (by rw [e])).symm, fun efPick => ?_⟩
  refine ⟨fun hn => (decide_eq_false fun e => hn (by rw [e])).symm, fun efCount => ?_⟩
  refine HFnF.mk hk ?_
  by_cases efKids : a.fKids = b.fKids
  case neg =>
    have d := decide_eq_false efKids
    simp -dsimp -implicitDefEqProofs only [go_sem, ↓reduceIte, keep116, ib116, mk116, Try.f116, d]
    exact (decide_eq_false fun e => efKids (by rw [e])).symm
  have dfKids := decide_eq_true efKids
  simp -dsimp -implicitDefEqProofs only [go_sem, ↓reduceIte, keep116, ib116, mk116, Try.f116, dfKids]
  exact (decide_eq_true (DExpr.eq_iff.2 ⟨efKind, efNum, efPick, efCount, efKids⟩)).symm
theorem eq_Expr (a b : DExpr) : Fn0 Try.prog 116 [.agg a.c, .agg b.c] (.bool (decide (a = b))) :=
  eq_Expr_step a b (eq_ExprS a.fKids b.fKids fun x hx y => eq_Expr x y)
termination_by SizeOf.sizeOf a
decreasing_by exact DExpr.kid_lt hx

def keep88 : List Nat := [0, 1, 2, 3, 4, 9, 14, 20]
def ib88 : List Nat := [2, 3]
def mk88 : Marks := fun _ => ([], [], [])
set_option maxRecDepth 100000 in
theorem eq_Func (a b : DFunc) : Fn0 Try.prog 88 [.agg a.c, .agg b.c] (.bool (decide (a = b))) := by
  simp only [DFunc.c_eq]
  refine fn0F 21 keep88 ib88 mk88 mix Try.func88 rfl (by kernel_rfl) (by simp) fun h => ?_
  simp -dsimp -implicitDefEqProofs only [go_sem, Try.f88, ↓reduceIte, keep88, ib88, mk88]
  refine ⟨fun hn => (decide_eq_false fun e => hn (by rw [e])).symm, fun efName => ?_⟩
  refine ⟨fun hn => (decide_eq_false fun e => hn (by rw [e])).symm, fun efParams => ?_⟩
  refine HFnF.mk (eq_ExprS a.fOuts b.fOuts (fun x _ y => (eq_Expr x y))) ?_
  by_cases efOuts : a.fOuts = b.fOuts
  case neg =>
    have d := decide_eq_false efOuts
    simp -dsimp -implicitDefEqProofs only [go_sem, ↓reduceIte, keep88, ib88, mk88, Try.f88, d]
    exact (decide_eq_false fun e => efOuts (by rw [e])).symm
  have dfOuts := decide_eq_true efOuts
  simp -dsimp -implicitDefEqProofs only [go_sem, ↓reduceIte, keep88, ib88, mk88, Try.f88, dfOuts]
  exact (decide_eq_true (DFunc.eq_iff.2 ⟨efName, efParams, efOuts⟩)).symm

def keep71 : List Nat := [0, 1, 4, 5, 10, 14, 26]
def ib71 : List Nat := []
def mk71 : Marks := fun id => match id with | 6 => ([], [0, 1, 2, 3, 4, 5, 6, 7, 8, 9], []) | _ => ([], [], [])
set_option maxRecDepth 100000 in
theorem eq_FuncS (a b : List DFunc) (hc : ∀ x ∈ a, ∀ y, Fn0 Try.prog 88 [(.agg (DFunc.c x)), (.agg (DFunc.c y))] (.bool (decide (x = y)))) : Fn0 Try.prog 71 [(sls 3 DFunc.c a), (sls 3 DFunc.c b)] (.bool (decide (a = b))) := by
  refine fn0F 27 keep71 ib71 mk71 mix Try.func71 rfl (by kernel_rfl) (by simp) fun h => ?_
  simp -dsimp -implicitDefEqProofs only [go_sem, Try.f71, ↓reduceIte, keep71, ib71, mk71]
  refine fun _ _ => ⟨fun hne => ?_, fun heq => ?_⟩
  · exact (decide_eq_false fun e => hne (by rw [e])).symm
  · refine loopF (keep := keep71) (ib := ib71) (mk := mk71) mix (by kernel_rfl) (fun k : Nat => [(0, (sls 3 DFunc.c a)), (1, (sls 3 DFunc.c b)), (5, I k)]) (fun _ => h) (fun k => k ≤ a.length ∧ a.take k = b.take k) (fun k => a.length - k) 0 (by simp [SatL, tget, Heap.le_refl]) ?_
    intro k ⟨hk, hp⟩
    rcases Nat.lt_or_ge k a.length with hlt | hge
    · have hlb : k < b.length := by omega
      have ea : a[k]? = some a[k] := List.getElem?_eq_getElem hlt
      have eb : b[k]? = some b[k] := List.getElem?_eq_getElem hlb
      simp -dsimp -implicitDefEqProofs only [go_sem, ↓reduceIte, keep71, ib71, mk71, Try.f71, ea, eb, DFunc.c_eq]
      refine fun _ => ⟨fun _ => ⟨hlt, hlb, ?_⟩, fun hn => absurd hlt hn⟩
      have hx := hc a[k] (List.getElem_mem hlt) b[k]
      simp only [DFunc.c_eq] at hx
      refine CallSF.mk hx ?_
      by_cases he : a[k] = b[k]
      · have d := decide_eq_true he
        simp -dsimp -implicitDefEqProofs only [go_sem, ↓reduceIte, keep71, ib71, mk71, Try.f71, d]
        exact ⟨k + 1, by rw [IntWalk.i64_in _ (by omega)]; rfl, ⟨by omega, take_step hlt hlb hp he⟩, by omega⟩
      · have d := decide_eq_false he
        simp -dsimp -implicitDefEqProofs only [go_sem, ↓reduceIte, keep71, ib71, mk71, Try.f71, d]
        exact (decide_eq_false fun e => he (getElem_of_eq e hlt)).symm
    · have hk' : k = a.length := by omega
      subst hk'
      simp -dsimp -implicitDefEqProofs only [go_sem, ↓reduceIte, keep71, ib71, mk71, Try.f71, Nat.lt_irrefl]
      exact fun _ => (decide_eq_true (eq_of_take heq hp)).symm

def keep47 : List Nat := [0, 1, 2, 3, 4, 10]
def ib47 : List Nat := [2, 3]
def mk47 : Marks := fun _ => ([], [], [])
set_option maxRecDepth 100000 in
theorem eq_Program (a b : DProgram) : Fn0 Try.prog 47 [.agg a.c, .agg b.c] (.bool (decide (a = b))) := by
  simp only [DProgram.c_eq]
  refine fn0F 11 keep47 ib47 mk47 mix Try.func47 rfl (by kernel_rfl) (by simp) fun h => ?_
  simp -dsimp -implicitDefEqProofs only [go_sem, Try.f47, ↓reduceIte, keep47, ib47, mk47]
  refine HFnF.mk (eq_FuncS a.fFuncs b.fFuncs (fun x _ y => (eq_Func x y))) ?_
  by_cases efFuncs : a.fFuncs = b.fFuncs
  case neg =>
    have d := decide_eq_false efFuncs
    simp -dsimp -implicitDefEqProofs only [go_sem, ↓reduceIte, keep47, ib47, mk47, Try.f47, d]
    exact (decide_eq_false fun e => efFuncs (by rw [e])).symm
  have dfFuncs := decide_eq_true efFuncs
  simp -dsimp -implicitDefEqProofs only [go_sem, ↓reduceIte, keep47, ib47, mk47, Try.f47, dfFuncs]
  exact (decide_eq_true (DProgram.eq_iff.2 efFuncs)).symm

def keep13 : List Nat := [0, 1, 4, 5, 10, 14, 25]
def ib13 : List Nat := []
def mk13 : Marks := fun id => match id with | 6 => ([], [0, 1, 2, 3, 4, 5, 6, 7, 8], []) | _ => ([], [], [])
set_option maxRecDepth 100000 in
theorem eq_Int64S (a b : List Int) : Fn0 Try.prog 13 [(sls 1 (fun n => [I n]) a), (sls 1 (fun n => [I n]) b)] (.bool (decide (a = b))) := by
  refine fn0F 26 keep13 ib13 mk13 mix Try.func13 rfl (by kernel_rfl) (by simp) fun h => ?_
  simp -dsimp -implicitDefEqProofs only [go_sem, Try.f13, ↓reduceIte, keep13, ib13, mk13]
  refine fun _ _ => ⟨fun hne => ?_, fun heq => ?_⟩
  · exact (decide_eq_false fun e => hne (by rw [e])).symm
  · refine loopF (keep := keep13) (ib := ib13) (mk := mk13) mix (by kernel_rfl) (fun k : Nat => [(0, (sls 1 (fun n => [I n]) a)), (1, (sls 1 (fun n => [I n]) b)), (5, I k)]) (fun _ => h) (fun k => k ≤ a.length ∧ a.take k = b.take k) (fun k => a.length - k) 0 (by simp [SatL, tget, Heap.le_refl]) ?_
    intro k ⟨hk, hp⟩
    rcases Nat.lt_or_ge k a.length with hlt | hge
    · have hlb : k < b.length := by omega
      have ea : a[k]? = some a[k] := List.getElem?_eq_getElem hlt
      have eb : b[k]? = some b[k] := List.getElem?_eq_getElem hlb
      simp -dsimp -implicitDefEqProofs only [go_sem, ↓reduceIte, keep13, ib13, mk13, Try.f13, ea, eb]
      refine fun _ => ⟨fun _ => ⟨hlt, hlb, fun hne => ?_, fun he => ?_⟩, fun hn => absurd hlt hn⟩
      · first
          | exact (decide_eq_false fun e => hne (getElem_of_eq e hlt)).symm
          | exact (decide_eq_false fun e => by have := getElem_of_eq e hlt (hb := hlb); rw [this] at hne; simp at hne).symm
      · exact ⟨k + 1, by rw [IntWalk.i64_in _ (by omega)]; rfl, ⟨by omega, take_step hlt hlb hp (by first | exact he | simpa using he)⟩, by omega⟩
    · have hk' : k = a.length := by omega
      subst hk'
      simp -dsimp -implicitDefEqProofs only [go_sem, ↓reduceIte, keep13, ib13, mk13, Try.f13, Nat.lt_irrefl]
      exact fun _ => (decide_eq_true (eq_of_take heq hp)).symm

def keep48 : List Nat := [0, 1, 4, 5, 10, 14, 26]
def ib48 : List Nat := []
def mk48 : Marks := fun id => match id with | 6 => ([], [0, 1, 2, 3, 4, 5, 6, 7, 8, 9], []) | _ => ([], [], [])
set_option maxRecDepth 100000 in
theorem eq_Int64SS (a b : List (List Int)) (hc : ∀ x ∈ a, ∀ y, Fn0 Try.prog 13 [(sls 1 (fun n => [I n]) x), (sls 1 (fun n => [I n]) y)] (.bool (decide (x = y)))) : Fn0 Try.prog 48 [(sls 1 (fun x => [sls 1 (fun n => [I n]) x]) a), (sls 1 (fun x => [sls 1 (fun n => [I n]) x]) b)] (.bool (decide (a = b))) := by
  refine fn0F 27 keep48 ib48 mk48 mix Try.func48 rfl (by kernel_rfl) (by simp) fun h => ?_
  simp -dsimp -implicitDefEqProofs only [go_sem, Try.f48, ↓reduceIte, keep48, ib48, mk48]
  refine fun _ _ => ⟨fun hne => ?_, fun heq => ?_⟩
  · exact (decide_eq_false fun e => hne (by rw [e])).symm
  · refine loopF (keep := keep48) (ib := ib48) (mk := mk48) mix (by kernel_rfl) (fun k : Nat => [(0, (sls 1 (fun x => [sls 1 (fun n => [I n]) x]) a)), (1, (sls 1 (fun x => [sls 1 (fun n => [I n]) x]) b)), (5, I k)]) (fun _ => h) (fun k => k ≤ a.length ∧ a.take k = b.take k) (fun k => a.length - k) 0 (by simp [SatL, tget, Heap.le_refl]) ?_
    intro k ⟨hk, hp⟩
    rcases Nat.lt_or_ge k a.length with hlt | hge
    · have hlb : k < b.length := by omega
      have ea : a[k]? = some a[k] := List.getElem?_eq_getElem hlt
      have eb : b[k]? = some b[k] := List.getElem?_eq_getElem hlb
      simp -dsimp -implicitDefEqProofs only [go_sem, ↓reduceIte, keep48, ib48, mk48, Try.f48, ea, eb]
      refine fun _ => ⟨fun _ => ⟨hlt, hlb, ?_⟩, fun hn => absurd hlt hn⟩
      have hx := hc a[k] (List.getElem_mem hlt) b[k]
      refine CallSF.mk hx ?_
      by_cases he : a[k] = b[k]
      · have d := decide_eq_true he
        simp -dsimp -implicitDefEqProofs only [go_sem, ↓reduceIte, keep48, ib48, mk48, Try.f48, d]
        exact ⟨k + 1, by rw [IntWalk.i64_in _ (by omega)]; rfl, ⟨by omega, take_step hlt hlb hp he⟩, by omega⟩
      · have d := decide_eq_false he
        simp -dsimp -implicitDefEqProofs only [go_sem, ↓reduceIte, keep48, ib48, mk48, Try.f48, d]
        exact (decide_eq_false fun e => he (getElem_of_eq e hlt)).symm
    · have hk' : k = a.length := by omega
      subst hk'
      simp -dsimp -implicitDefEqProofs only [go_sem, ↓reduceIte, keep48, ib48, mk48, Try.f48, Nat.lt_irrefl]
      exact fun _ => (decide_eq_true (eq_of_take heq hp)).symm

def keep21 : List Nat := [0, 1, 2, 3, 4, 10, 15, 20, 26, 32]
def ib21 : List Nat := [2, 3]
def mk21 : Marks := fun _ => ([], [], [])
set_option maxRecDepth 100000 in
theorem eq_Job (a b : DJob) : Fn0 Try.prog 21 [.agg a.c, .agg b.c] (.bool (decide (a = b))) := by
  simp only [DJob.c_eq]
  refine fn0F 33 keep21 ib21 mk21 mix Try.func21 rfl (by kernel_rfl) (by simp) fun h => ?_
  simp -dsimp -implicitDefEqProofs only [go_sem, Try.f21, ↓reduceIte, keep21, ib21, mk21]
  refine HFnF.mk (eq_Program a.fProgram b.fProgram) ?_
  by_cases efProgram : a.fProgram = b.fProgram
  case neg =>
    have d := decide_eq_false efProgram
    simp -dsimp -implicitDefEqProofs only [go_sem, ↓reduceIte, keep21, ib21, mk21, Try.f21, d]
    exact (decide_eq_false fun e => efProgram (by rw [e])).symm
  have dfProgram := decide_eq_true efProgram
  simp -dsimp -implicitDefEqProofs only [go_sem, ↓reduceIte, keep21, ib21, mk21, Try.f21, dfProgram]
  refine ⟨fun hn => (decide_eq_false fun e => hn (by rw [e])).symm, fun efFunc => ?_⟩
  refine ⟨fun hn => (decide_eq_false fun e => hn (by rw [e])).symm, fun efShared => ?_⟩
  refine HFnF.mk (eq_Int64S a.fPoint b.fPoint) ?_
  by_cases efPoint : a.fPoint = b.fPoint
  case neg =>
    have d := decide_eq_false efPoint
    simp -dsimp -implicitDefEqProofs only [go_sem, ↓reduceIte, keep21, ib21, mk21, Try.f21, d]
    exact (decide_eq_false fun e => efPoint (by rw [e])).symm
  have dfPoint := decide_eq_true efPoint
  simp -dsimp -implicitDefEqProofs only [go_sem, ↓reduceIte, keep21, ib21, mk21, Try.f21, dfPoint]
  refine HFnF.mk (eq_Int64SS a.fTerms b.fTerms (fun x _ y => (eq_Int64S x y))) ?_
  by_cases efTerms : a.fTerms = b.fTerms
  case neg =>
    have d := decide_eq_false efTerms
    simp -dsimp -implicitDefEqProofs only [go_sem, ↓reduceIte, keep21, ib21, mk21, Try.f21, d]
    exact (decide_eq_false fun e => efTerms (by rw [e])).symm
  have dfTerms := decide_eq_true efTerms
  simp -dsimp -implicitDefEqProofs only [go_sem, ↓reduceIte, keep21, ib21, mk21, Try.f21, dfTerms]
  exact (decide_eq_true (DJob.eq_iff.2 ⟨efProgram, efFunc, efShared, efPoint, efTerms⟩)).symm


def keep35 : List Nat := [0, 1, 4, 5, 10, 14, 25]
def ib35 : List Nat := []
def mk35 : Marks := fun id => match id with | 6 => ([], [0, 1, 2, 3, 4, 5, 6, 7, 8], []) | _ => ([], [], [])
set_option maxRecDepth 100000 in
theorem eq_BoolS (a b : List Bool) : Fn0 Try.prog 35 [(sls 1 (fun b => [.bool b]) a), (sls 1 (fun b => [.bool b]) b)] (.bool (decide (a = b))) := by
  refine fn0F 26 keep35 ib35 mk35 mix Try.func35 rfl (by kernel_rfl) (by simp) fun h => ?_
  simp -dsimp -implicitDefEqProofs only [go_sem, Try.f35, ↓reduceIte, keep35, ib35, mk35]
  refine fun _ _ => ⟨fun hne => ?_, fun heq => ?_⟩
  · exact (decide_eq_false fun e => hne (by rw [e])).symm
  · refine loopF (keep := keep35) (ib := ib35) (mk := mk35) mix (by kernel_rfl) (fun k : Nat => [(0, (sls 1 (fun b => [.bool b]) a)), (1, (sls 1 (fun b => [.bool b]) b)), (5, I k)]) (fun _ => h) (fun k => k ≤ a.length ∧ a.take k = b.take k) (fun k => a.length - k) 0 (by simp [SatL, tget, Heap.le_refl]) ?_
    intro k ⟨hk, hp⟩
    rcases Nat.lt_or_ge k a.length with hlt | hge
    · have hlb : k < b.length := by omega
      have ea : a[k]? = some a[k] := List.getElem?_eq_getElem hlt
      have eb : b[k]? = some b[k] := List.getElem?_eq_getElem hlb
      simp -dsimp -implicitDefEqProofs only [go_sem, ↓reduceIte, keep35, ib35, mk35, Try.f35, ea, eb]
      refine fun _ => ⟨fun _ => ⟨hlt, hlb, fun hne => ?_, fun he => ?_⟩, fun hn => absurd hlt hn⟩
      · first
          | exact (decide_eq_false fun e => hne (getElem_of_eq e hlt)).symm
          | exact (decide_eq_false fun e => by have := getElem_of_eq e hlt (hb := hlb); rw [this] at hne; simp at hne).symm
      · exact ⟨k + 1, by rw [IntWalk.i64_in _ (by omega)]; rfl, ⟨by omega, take_step hlt hlb hp (by first | exact he | simpa using he)⟩, by omega⟩
    · have hk' : k = a.length := by omega
      subst hk'
      simp -dsimp -implicitDefEqProofs only [go_sem, ↓reduceIte, keep35, ib35, mk35, Try.f35, Nat.lt_irrefl]
      exact fun _ => (decide_eq_true (eq_of_take heq hp)).symm

def keep64 : List Nat := [0, 1, 2, 3, 4, 9, 14, 20]
def ib64 : List Nat := [2, 3]
def mk64 : Marks := fun _ => ([], [], [])
set_option maxRecDepth 100000 in
theorem eq_Part (a b : DPart) : Fn0 Try.prog 64 [.agg a.c, .agg b.c] (.bool (decide (a = b))) := by
  simp only [DPart.c_eq]
  refine fn0F 21 keep64 ib64 mk64 mix Try.func64 rfl (by kernel_rfl) (by simp) fun h => ?_
  simp -dsimp -implicitDefEqProofs only [go_sem, Try.f64, ↓reduceIte, keep64, ib64, mk64]
  refine ⟨fun hn => (decide_eq_false fun e => hn (by rw [e])).symm, fun efCode => ?_⟩
  refine ⟨fun hn => (decide_eq_false fun e => hn (by rw [e])).symm, fun efValue => ?_⟩
  refine HFnF.mk (eq_Int64S a.fGrad b.fGrad) ?_
  by_cases efGrad : a.fGrad = b.fGrad
  case neg =>
    have d := decide_eq_false efGrad
    simp -dsimp -implicitDefEqProofs only [go_sem, ↓reduceIte, keep64, ib64, mk64, Try.f64, d]
    exact (decide_eq_false fun e => efGrad (by rw [e])).symm
  have dfGrad := decide_eq_true efGrad
  simp -dsimp -implicitDefEqProofs only [go_sem, ↓reduceIte, keep64, ib64, mk64, Try.f64, dfGrad]
  exact (decide_eq_true (DPart.eq_iff.2 ⟨efCode, efValue, efGrad⟩)).symm

def keep36 : List Nat := [0, 1, 4, 5, 10, 14, 26]
def ib36 : List Nat := []
def mk36 : Marks := fun id => match id with | 6 => ([], [0, 1, 2, 3, 4, 5, 6, 7, 8, 9], []) | _ => ([], [], [])
set_option maxRecDepth 100000 in
theorem eq_PartS (a b : List DPart) (hc : ∀ x ∈ a, ∀ y, Fn0 Try.prog 64 [(.agg (DPart.c x)), (.agg (DPart.c y))] (.bool (decide (x = y)))) : Fn0 Try.prog 36 [(sls 3 DPart.c a), (sls 3 DPart.c b)] (.bool (decide (a = b))) := by
  refine fn0F 27 keep36 ib36 mk36 mix Try.func36 rfl (by kernel_rfl) (by simp) fun h => ?_
  simp -dsimp -implicitDefEqProofs only [go_sem, Try.f36, ↓reduceIte, keep36, ib36, mk36]
  refine fun _ _ => ⟨fun hne => ?_, fun heq => ?_⟩
  · exact (decide_eq_false fun e => hne (by rw [e])).symm
  · refine loopF (keep := keep36) (ib := ib36) (mk := mk36) mix (by kernel_rfl) (fun k : Nat => [(0, (sls 3 DPart.c a)), (1, (sls 3 DPart.c b)), (5, I k)]) (fun _ => h) (fun k => k ≤ a.length ∧ a.take k = b.take k) (fun k => a.length - k) 0 (by simp [SatL, tget, Heap.le_refl]) ?_
    intro k ⟨hk, hp⟩
    rcases Nat.lt_or_ge k a.length with hlt | hge
    · have hlb : k < b.length := by omega
      have ea : a[k]? = some a[k] := List.getElem?_eq_getElem hlt
      have eb : b[k]? = some b[k] := List.getElem?_eq_getElem hlb
      simp -dsimp -implicitDefEqProofs only [go_sem, ↓reduceIte, keep36, ib36, mk36, Try.f36, ea, eb, DPart.c_eq]
      refine fun _ => ⟨fun _ => ⟨hlt, hlb, ?_⟩, fun hn => absurd hlt hn⟩
      have hx := hc a[k] (List.getElem_mem hlt) b[k]
      simp only [DPart.c_eq] at hx
      refine CallSF.mk hx ?_
      by_cases he : a[k] = b[k]
      · have d := decide_eq_true he
        simp -dsimp -implicitDefEqProofs only [go_sem, ↓reduceIte, keep36, ib36, mk36, Try.f36, d]
        exact ⟨k + 1, by rw [IntWalk.i64_in _ (by omega)]; rfl, ⟨by omega, take_step hlt hlb hp he⟩, by omega⟩
      · have d := decide_eq_false he
        simp -dsimp -implicitDefEqProofs only [go_sem, ↓reduceIte, keep36, ib36, mk36, Try.f36, d]
        exact (decide_eq_false fun e => he (getElem_of_eq e hlt)).symm
    · have hk' : k = a.length := by omega
      subst hk'
      simp -dsimp -implicitDefEqProofs only [go_sem, ↓reduceIte, keep36, ib36, mk36, Try.f36, Nat.lt_irrefl]
      exact fun _ => (decide_eq_true (eq_of_take heq hp)).symm

def keep10 : List Nat := [0, 1, 2, 3, 4, 10, 16, 22, 28, 34]
def ib10 : List Nat := [2, 3]
def mk10 : Marks := fun _ => ([], [], [])
set_option maxRecDepth 100000 in
theorem eq_Service (a b : DService) : Fn0 Try.prog 10 [.agg a.c, .agg b.c] (.bool (decide (a = b))) := by
  simp only [DService.c_eq]
  refine fn0F 35 keep10 ib10 mk10 mix Try.func10 rfl (by kernel_rfl) (by simp) fun h => ?_
  simp -dsimp -implicitDefEqProofs only [go_sem, Try.f10, ↓reduceIte, keep10, ib10, mk10]
  refine HFnF.mk (eq_Job a.fJob b.fJob) ?_
  by_cases efJob : a.fJob = b.fJob
  case neg =>
    have d := decide_eq_false efJob
    simp -dsimp -implicitDefEqProofs only [go_sem, ↓reduceIte, keep10, ib10, mk10, Try.f10, d]
    exact (decide_eq_false fun e => efJob (by rw [e])).symm
  have dfJob := decide_eq_true efJob
  simp -dsimp -implicitDefEqProofs only [go_sem, ↓reduceIte, keep10, ib10, mk10, Try.f10, dfJob]
  refine HFnF.mk (eq_Int64S a.fStamps b.fStamps) ?_
  by_cases efStamps : a.fStamps = b.fStamps
  case neg =>
    have d := decide_eq_false efStamps
    simp -dsimp -implicitDefEqProofs only [go_sem, ↓reduceIte, keep10, ib10, mk10, Try.f10, d]
    exact (decide_eq_false fun e => efStamps (by rw [e])).symm
  have dfStamps := decide_eq_true efStamps
  simp -dsimp -implicitDefEqProofs only [go_sem, ↓reduceIte, keep10, ib10, mk10, Try.f10, dfStamps]
  refine HFnF.mk (eq_BoolS a.fKnown b.fKnown) ?_
  by_cases efKnown : a.fKnown = b.fKnown
  case neg =>
    have d := decide_eq_false efKnown
    simp -dsimp -implicitDefEqProofs only [go_sem, ↓reduceIte, keep10, ib10, mk10, Try.f10, d]
    exact (decide_eq_false fun e => efKnown (by rw [e])).symm
  have dfKnown := decide_eq_true efKnown
  simp -dsimp -implicitDefEqProofs only [go_sem, ↓reduceIte, keep10, ib10, mk10, Try.f10, dfKnown]
  refine HFnF.mk (eq_PartS a.fParts b.fParts (fun x _ y => (eq_Part x y))) ?_
  by_cases efParts : a.fParts = b.fParts
  case neg =>
    have d := decide_eq_false efParts
    simp -dsimp -implicitDefEqProofs only [go_sem, ↓reduceIte, keep10, ib10, mk10, Try.f10, d]
    exact (decide_eq_false fun e => efParts (by rw [e])).symm
  have dfParts := decide_eq_true efParts
  simp -dsimp -implicitDefEqProofs only [go_sem, ↓reduceIte, keep10, ib10, mk10, Try.f10, dfParts]
  refine HFnF.mk (eq_Int64S a.fOwners b.fOwners) ?_
  by_cases efOwners : a.fOwners = b.fOwners
  case neg =>
    have d := decide_eq_false efOwners
    simp -dsimp -implicitDefEqProofs only [go_sem, ↓reduceIte, keep10, ib10, mk10, Try.f10, d]
    exact (decide_eq_false fun e => efOwners (by rw [e])).symm
  have dfOwners := decide_eq_true efOwners
  simp -dsimp -implicitDefEqProofs only [go_sem, ↓reduceIte, keep10, ib10, mk10, Try.f10, dfOwners]
  exact (decide_eq_true (DService.eq_iff.2 ⟨efJob, efStamps, efKnown, efParts, efOwners⟩)).symm

open Go.Proofs
set_option linter.unusedVariables false
set_option linter.unusedSimpArgs false
def keep63 : List Nat := [0, 1, 4, 5, 10, 12, 13, 14, 24]
def ib63 : List Nat := []
def mk63 : Marks := fun id => match id with | 6 => ([], [0, 1, 2, 3, 4, 5, 6, 7, 8], []) | _ => ([], [], [])
set_option maxRecDepth 100000 in
theorem slEq_Int64S (a b : List Int) : Fn0 Try.prog 63 [(sls 1 (fun n => [I n]) a), (sls 1 (fun n => [I n]) b)] (.bool (decide (a = b))) := by
  refine fn0F 26 keep63 ib63 mk63 mix Try.func63 rfl (by kernel_rfl) (by simp) fun h => ?_
  simp -dsimp -implicitDefEqProofs only [go_sem, ↓reduceIte, keep63, ib63, mk63, Try.f63]
  refine fun _ _ => ⟨fun hne => ?_, fun heq => ?_⟩
  · exact (decide_eq_false fun e => hne (by rw [e])).symm
  · refine fun _ => ?_
    refine loopF (keep := keep63) (ib := ib63) (mk := mk63) mix (by kernel_rfl) (fun k : Nat => [(0, (sls 1 (fun n => [I n]) a)), (1, (sls 1 (fun n => [I n]) b)), (12, I a.length), (13, I k)]) (fun _ => h) (fun k => k ≤ a.length ∧ a.take k = b.take k) (fun k => a.length - k) 0 (by simp [SatL, tget, Heap.le_refl]) ?_
    intro k ⟨hk, hp⟩
    rcases Nat.lt_or_ge k a.length with hlt | hge
    · have hlb : k < b.length := by omega
      have ea : a[k]? = some a[k] := List.getElem?_eq_getElem hlt
      have eb : b[k]? = some b[k] := List.getElem?_eq_getElem hlb
      simp -dsimp -implicitDefEqProofs only [go_sem, ↓reduceIte, keep63, ib63, mk63, Try.f63, ea, eb]
      refine ⟨fun _ => ⟨hlt, hlb, fun hne => ?_, fun he => ?_⟩, fun hn => absurd hlt hn⟩
      · first
          | exact (decide_eq_false fun e => hne (getElem_of_eq e hlt)).symm
          | exact (decide_eq_false fun e => by have := getElem_of_eq e hlt (hb := hlb); rw [this] at hne; simp at hne).symm
      · exact ⟨k + 1, by rw [IntWalk.i64_in _ (by omega)]; rfl, ⟨by omega, take_step hlt hlb hp (by first | exact he | simpa using he)⟩, by omega⟩
    · have hk' : k = a.length := by omega
      subst hk'
      simp -dsimp -implicitDefEqProofs only [go_sem, ↓reduceIte, keep63, ib63, mk63, Try.f63, Nat.lt_irrefl]
      exact (decide_eq_true (eq_of_take heq hp)).symm

open Go.Proofs
set_option linter.unusedVariables false
set_option linter.unusedSimpArgs false
open Go.Proofs
set_option linter.unusedVariables false
set_option linter.unusedSimpArgs false
def keep34 : List Nat := [0, 1, 2, 3, 4]
def ib34 : List Nat := [2, 3]
def mk34 : Marks := fun _ => ([], [], [])
set_option maxRecDepth 100000 in
theorem samePart (a b : DPart) : Fn0 Try.prog 34 [.agg a.c, .agg b.c] (.bool (decide (a = b))) := by
  simp only [DPart.c_eq]
  refine fn0F 24 keep34 ib34 mk34 mix Try.func34 rfl (by kernel_rfl) (by simp) fun h => ?_
  simp (maxSteps := 1000000) -dsimp -implicitDefEqProofs only [go_sem, ↓reduceIte, keep34, ib34, mk34, Try.f34]
  repeat' (with_reducible first | intro _ | refine And.intro ?_ ?_)
  all_goals try (first | (simp [DPart.eq_iff, *]; done) | omega | (grind [DPart.eq_iff]) | (simp [DPart.eq_iff]; omega))
  first | refine HFnF.mk (slEq_Int64S a.fGrad b.fGrad) ?_ | refine CallSF.mk (slEq_Int64S a.fGrad b.fGrad) ?_ | refine HFnF.mkAt (slEq_Int64S a.fGrad b.fGrad) ?_ | refine CallSF.mk (FnAt.fn0 (slEq_Int64S a.fGrad b.fGrad)) ?_
  simp (maxSteps := 1000000) -dsimp -implicitDefEqProofs only [go_sem, ↓reduceIte, keep34, ib34, mk34, Try.f34]
  all_goals try (first | (simp [DPart.eq_iff, *]; done) | omega | (grind [DPart.eq_iff]) | (simp [DPart.eq_iff]; omega))
open Go.Proofs
set_option linter.unusedVariables false
set_option linter.unusedSimpArgs false
def keep55 : List Nat := [0, 1, 2, 6]
def ib55 : List Nat := []
def mk55 : Marks := fun _ => ([], [], [])
theorem l00In (n a b : Int) : Fn0 Try.prog 55 [I n, I a, I b] (.bool (decide (a ≤ n ∧ n ≤ b))) := by
  refine fn0F 15 keep55 ib55 mk55 mix Try.func55 rfl (by kernel_rfl) (by simp) fun h => ?_
  simp (maxSteps := 1000000) -dsimp -implicitDefEqProofs only [go_sem, ↓reduceIte, keep55, ib55, mk55, Try.f55]
  repeat' (with_reducible first | intro _ | refine And.intro ?_ ?_)
  all_goals try (first | (simp [*]; done) | omega | grind)
def keep32 : List Nat := [0, 1, 2, 6]
def ib32 : List Nat := []
def mk32 : Marks := fun _ => ([], [], [])
theorem within (n a b : Int) : Fn0 Try.prog 32 [I n, I a, I b] (.bool (decide (a ≤ n ∧ n ≤ b))) := by
  refine fn0F 15 keep32 ib32 mk32 mix Try.func32 rfl (by kernel_rfl) (by simp) fun h => ?_
  simp (maxSteps := 1000000) -dsimp -implicitDefEqProofs only [go_sem, ↓reduceIte, keep32, ib32, mk32, Try.f32]
  repeat' (with_reducible first | intro _ | refine And.intro ?_ ?_)
  all_goals try (first | (simp [*]; done) | omega | grind)
def keep75 : List Nat := [0, 2]
def ib75 : List Nat := []
def mk75 : Marks := fun _ => ([], [], [])
theorem l01Number (n : Int) : Fn0 Try.prog 75 [I n] (.bool (decide (Num n))) := by
  refine fn0F 5 keep75 ib75 mk75 mix Try.func75 rfl (by kernel_rfl) (by simp) fun h => ?_
  simp (maxSteps := 1000000) -dsimp -implicitDefEqProofs only [go_sem, ↓reduceIte, keep75, ib75, mk75, Try.f75]
  first | refine HFnF.mk (l00In n 0 1000002) ?_ | refine CallSF.mk (l00In n 0 1000002) ?_ | refine HFnF.mkAt (l00In n 0 1000002) ?_ | refine CallSF.mk (FnAt.fn0 (l00In n 0 1000002)) ?_
  simp (maxSteps := 1000000) -dsimp -implicitDefEqProofs only [go_sem, ↓reduceIte, keep75, ib75, mk75, Try.f75]
  all_goals rfl
def keep62 : List Nat := [0, 2]
def ib62 : List Nat := []
def mk62 : Marks := fun _ => ([], [], [])
theorem isNumber (n : Int) : Fn0 Try.prog 62 [I n] (.bool (decide (Num n))) := by
  refine fn0F 5 keep62 ib62 mk62 mix Try.func62 rfl (by kernel_rfl) (by simp) fun h => ?_
  simp (maxSteps := 1000000) -dsimp -implicitDefEqProofs only [go_sem, ↓reduceIte, keep62, ib62, mk62, Try.f62]
  first | refine HFnF.mk (within n 0 1000002) ?_ | refine CallSF.mk (within n 0 1000002) ?_ | refine HFnF.mkAt (within n 0 1000002) ?_ | refine CallSF.mk (FnAt.fn0 (within n 0 1000002)) ?_
  simp (maxSteps := 1000000) -dsimp -implicitDefEqProofs only [go_sem, ↓reduceIte, keep62, ib62, mk62, Try.f62]
  all_goals rfl
def keep67 : List Nat := [0, 2, 3, 7, 15]
def ib67 : List Nat := []
def mk67 : Marks := fun _ => ([], [], [])
set_option maxRecDepth 100000 in
theorem l01Numbers (l : List Int) : Fn0 Try.prog 67 [sls 1 (fun n => [I n]) l] (.bool (decide (Nums l))) := by
  refine fn0F 16 keep67 ib67 mk67 mix Try.func67 rfl (by kernel_rfl) (by simp) fun h => ?_
  simp (maxSteps := 1000000) -dsimp -implicitDefEqProofs only [go_sem, ↓reduceIte, keep67, ib67, mk67, Try.f67]
  refine loopF (keep := keep67) (ib := ib67) (mk := mk67) mix (by kernel_rfl) (fun k : Nat => [(0, sls 1 (fun n => [I n]) l), (3, I k)]) (fun _ => h) (fun k => k ≤ (l).length ∧ ∀ x ∈ (l).take k, Num x) (fun k => (l).length - k) 0 (by simp [SatL, tget, Heap.le_refl]) ?_
  intro k ⟨hk, hp⟩
  rcases Nat.lt_or_ge k (l).length with hlt | hge
  · have ea : (l)[k]? = some (l)[k] := List.getElem?_eq_getElem hlt
    simp (maxSteps := 1000000) -dsimp -implicitDefEqProofs only [go_sem, ↓reduceIte, keep67, ib67, mk67, Try.f67, ea]
    repeat' (with_reducible first | intro _ | refine And.intro ?_ ?_)
    all_goals try omega
    first | refine HFnF.mk (l01Number l[k]) ?_ | refine CallSF.mk (l01Number l[k]) ?_ | refine HFnF.mkAt (l01Number l[k]) ?_ | refine CallSF.mk (FnAt.fn0 (l01Number l[k])) ?_
    simp (maxSteps := 1000000) -dsimp -implicitDefEqProofs only [go_sem, ↓reduceIte, keep67, ib67, mk67, Try.f67]
    repeat' (with_reducible first | intro _ | refine And.intro ?_ ?_)
    · rename_i he
      exact (decide_eq_false fun e => he (e _ (List.getElem_mem hlt))).symm
    · rename_i he
      refine ⟨k + 1, ?_⟩
      repeat' (with_reducible refine And.intro ?_ ?_)
      all_goals try (rw [IntWalk.i64_in _ (by omega)]; first | rfl | omega)
      all_goals try omega
      all_goals try (repeat' (with_reducible first | exact Heap.le_refl _ | refine (le_upd (by first | assumption | exact And.right (by assumption) | exact upd_none.2 (by assumption))).2 ?_))
      exact all_step hlt hp he
  · have hk' : k = (l).length := by omega
    subst hk'
    rw [List.take_length] at hp
    simp (maxSteps := 1000000) -dsimp -implicitDefEqProofs only [go_sem, ↓reduceIte, keep67, ib67, mk67, Try.f67, Nat.lt_irrefl]
    intro _
    exact (decide_eq_true hp).symm
def keep97 : List Nat := [0, 1, 4, 5, 7, 8, 9, 16]
def ib97 : List Nat := []
def mk97 : Marks := fun _ => ([], [], [])
set_option maxRecDepth 100000 in
theorem idxF_Int64S (a : List Int) (p : Int → Bool) (g : FuncId) (cap : List HVal) {h0 : Heap} (hc : ∀ x ∈ a, FnAt Try.prog g ([(.int .i64 x)] ++ cap) (.bool (p x)) h0) : FnAt Try.prog 97 [(sls 1 (fun n => [I n]) a), .fn (.func g) [] cap] (I (idxOf p a)) h0 := by
  refine fnAtF 19 keep97 ib97 mk97 mix Try.func97 rfl (by kernel_rfl) (by simp) fun h hle => ?_
  simp -dsimp -implicitDefEqProofs only [go_sem, ↓reduceIte, keep97, ib97, mk97, Try.f97, Try.f97]
  intro _
  refine loopF (keep := keep97) (ib := ib97) (mk := mk97) mix (by kernel_rfl) (fun k : Nat => [(0, (sls 1 (fun n => [I n]) a)), (1, .fn (.func g) [] cap), (7, I a.length), (8, I k)]) (fun _ => h) (fun k => k ≤ a.length ∧ ∀ x ∈ a.take k, p x = false) (fun k => a.length - k) 0 (by simp [SatL, tget, Heap.le_refl]) ?_
  intro k ⟨hk, hp⟩
  rcases Nat.lt_or_ge k a.length with hlt | hge
  · have ea : a[k]? = some a[k] := List.getElem?_eq_getElem hlt
    simp -dsimp -implicitDefEqProofs only [go_sem, ↓reduceIte, keep97, ib97, mk97, Try.f97, Try.f97, ea]
    repeat' (with_reducible first | intro _ | refine And.intro ?_ ?_)
    all_goals try omega
    have hx := hc a[k] (List.getElem_mem hlt)
    refine HFnF.mkAt (hx.mono hle) ?_
    cases hpk : p a[k] with
    | true =>
      simp -dsimp -implicitDefEqProofs only [go_sem, ↓reduceIte, keep97, ib97, mk97, Try.f97, Try.f97]
      repeat' (with_reducible first | intro _ | refine And.intro ?_ ?_)
      all_goals first | exact (idxOf_some hlt hp hpk).symm | rfl | (rw [idxOf_some hlt hp hpk])
    | false =>
      simp -dsimp -implicitDefEqProofs only [go_sem, ↓reduceIte, keep97, ib97, mk97, Try.f97, Try.f97]
      refine ⟨k + 1, ?_⟩
      repeat' (with_reducible refine And.intro ?_ ?_)
      all_goals try (rw [IntWalk.i64_in _ (by omega)]; first | rfl | omega)
      all_goals try omega
      exact all_step (P := fun x => p x = false) hlt hp hpk
  · have hk' : k = a.length := by omega
    subst hk'
    rw [List.take_length] at hp
    simp -dsimp -implicitDefEqProofs only [go_sem, ↓reduceIte, keep97, ib97, mk97, Try.f97, Try.f97, Nat.lt_irrefl]
    all_goals first | exact (idxOf_none hp).symm | rw [idxOf_none hp]
def keep78 : List Nat := [0, 1, 4]
def ib78 : List Nat := []
def mk78 : Marks := fun _ => ([], [], [])
set_option maxRecDepth 100000 in
theorem hasF_Int64S (a : List Int) (p : Int → Bool) (g : FuncId) (cap : List HVal) {h0 : Heap} (hc : ∀ x ∈ a, FnAt Try.prog g ([(.int .i64 x)] ++ cap) (.bool (p x)) h0) : FnAt Try.prog 78 [(sls 1 (fun n => [I n]) a), .fn (.func g) [] cap] (.bool (a.any p)) h0 := by
  refine fnAtF 9 keep78 ib78 mk78 mix Try.func78 rfl (by kernel_rfl) (by simp) fun h hle => ?_
  simp -dsimp -implicitDefEqProofs only [go_sem, ↓reduceIte, keep78, ib78, mk78, Try.f78, Try.f78]
  refine HFnF.mkAt ((idxF_Int64S a p g cap hc).mono hle) ?_
  simp -dsimp -implicitDefEqProofs only [go_sem, ↓reduceIte, keep78, ib78, mk78, Try.f78, Try.f78]
  all_goals first | done | exact idxOf_nonneg | rw [idxOf_nonneg]

def keep79 : List Nat := [0, 2]
def ib79 : List Nat := []
def mk79 : Marks := fun _ => ([], [], [])
theorem areNumbers1 (n : Int) : Fn0 Try.prog 79 [I n] (.bool (!decide (Num n))) := by
  refine fn0F 6 keep79 ib79 mk79 mix Try.func79 rfl (by kernel_rfl) (by simp) fun h => ?_
  simp (maxSteps := 1000000) -dsimp -implicitDefEqProofs only [go_sem, ↓reduceIte, keep79, ib79, mk79, Try.f79]
  first | refine HFnF.mk (isNumber n) ?_ | refine CallSF.mk (isNumber n) ?_ | refine HFnF.mkAt (isNumber n) ?_ | refine CallSF.mk (FnAt.fn0 (isNumber n)) ?_
  simp (maxSteps := 1000000) -dsimp -implicitDefEqProofs only [go_sem, ↓reduceIte, keep79, ib79, mk79, Try.f79]
def keep59 : List Nat := [0, 1, 4]
def ib59 : List Nat := []
def mk59 : Marks := fun _ => ([], [], [])
theorem areNumbers (l : List Int) (c : Int) : Fn0 Try.prog 59 [sls 1 (fun n => [I n]) l, I c] (.bool (decide ((l.length : Int) = c ∧ Nums l))) := by
  refine fn0F 14 keep59 ib59 mk59 mix Try.func59 rfl (by kernel_rfl) (by simp) fun h => ?_
  simp (maxSteps := 1000000) -dsimp -implicitDefEqProofs only [go_sem, ↓reduceIte, keep59, ib59, mk59, Try.f59]
  repeat' (with_reducible first | intro _ | refine And.intro ?_ ?_)
  all_goals try (first | (simp [*]; done) | omega | grind)
  first | refine HFnF.mk (hasF_Int64S l (fun n => !decide (Num n)) 79 [] fun x _ => (areNumbers1 x).toAt) ?_ | refine CallSF.mk (hasF_Int64S l (fun n => !decide (Num n)) 79 [] fun x _ => (areNumbers1 x).toAt) ?_ | refine HFnF.mkAt (hasF_Int64S l (fun n => !decide (Num n)) 79 [] fun x _ => (areNumbers1 x).toAt) ?_ | refine CallSF.mk (FnAt.fn0 (hasF_Int64S l (fun n => !decide (Num n)) 79 [] fun x _ => (areNumbers1 x).toAt)) ?_
  simp (maxSteps := 1000000) -dsimp -implicitDefEqProofs only [go_sem, ↓reduceIte, keep59, ib59, mk59, Try.f59]
  rename_i e
  rw [any_not, decide_eq_decide]
  exact ⟨fun q => ⟨e, q⟩, fun q => q.2⟩
open Go.Proofs
set_option linter.unusedVariables false
set_option linter.unusedSimpArgs false
def Low (c : UInt8) : Prop := 97 ≤ c.toNat ∧ c.toNat ≤ 122
def Dig (c : UInt8) : Prop := 48 ≤ c.toNat ∧ c.toNat ≤ 57
instance (c : UInt8) : Decidable (Low c) := inferInstanceAs (Decidable (_ ∧ _))
instance (c : UInt8) : Decidable (Dig c) := inferInstanceAs (Decidable (_ ∧ _))
def IsNm (s : List UInt8) : Prop := 1 ≤ s.length ∧ s.length ≤ 12 ∧ (∀ c, s[0]? = some c → Low c) ∧ ∀ c ∈ s, Low c ∨ Dig c
noncomputable instance (s : List UInt8) : Decidable (IsNm s) := Classical.propDecidable _
theorem isNm_step {s : List UInt8} {k : Nat} {c : UInt8} (h : k < s.length) (ec : s[k] = c) (hp : ∀ x ∈ s.take k, Low x ∨ Dig x) (he : Low c ∨ Dig c) : ∀ x ∈ s.take (k + 1), Low x ∨ Dig x :=
  all_step (P := fun x => Low x ∨ Dig x) h hp (by rw [ec]; exact he)
theorem not_isNm {s : List UInt8} {k : Nat} {c : UInt8} (h : k < s.length) (ec : s[k] = c) (he : ¬ (Low c ∨ Dig c)) : false = decide (IsNm s) :=
  (decide_eq_false fun e => he (ec ▸ e.2.2.2 _ (List.getElem_mem h))).symm
theorem not_isNm0 {s : List UInt8} {k : Nat} {c : UInt8} (h : k < s.length) (h0 : (k : Int) = 0) (ec : s[k] = c) (he : ¬ Low c) : false = decide (IsNm s) :=
  (decide_eq_false fun e => he (e.2.2.1 c (by have : k = 0 := by omega
                                              subst this; rw [List.getElem?_eq_getElem h, ec]))).symm
def keep99 : List Nat := [0, 2, 3, 17, 21, 45]
def ib99 : List Nat := []
def mk99 : Marks := fun _ => ([], [], [])
set_option maxRecDepth 100000 in
theorem specIsName (s : List UInt8) : Fn0 Try.prog 99 [.str s] (.bool (decide (IsNm s))) := by
  cases s with
  | nil =>
    refine fn0F 46 keep99 ib99 mk99 mix Try.func99 rfl (by kernel_rfl) (by simp) fun h => ?_
    simp (maxSteps := 1000000) -dsimp -implicitDefEqProofs only [go_sem, ↓reduceIte, keep99, ib99, mk99, Try.f99]
    first | refine HFnF.mk (l00In 0 1 12) ?_ | refine CallSF.mk (l00In 0 1 12) ?_ | refine HFnF.mkAt (l00In 0 1 12) ?_ | refine CallSF.mk (FnAt.fn0 (l00In 0 1 12)) ?_
    simp (maxSteps := 1000000) -dsimp -implicitDefEqProofs only [go_sem, ↓reduceIte, keep99, ib99, mk99, Try.f99]
    repeat' (with_reducible first | intro _ | refine And.intro ?_ ?_)
    all_goals try (first | (simp [IsNm, *]; done) | omega | (grind [IsNm]) | (simp [IsNm]; omega))
  | cons c t =>
    refine fn0F 46 keep99 ib99 mk99 mix Try.func99 rfl (by kernel_rfl) (by simp) fun h => ?_
    simp (maxSteps := 1000000) -dsimp -implicitDefEqProofs only [go_sem, ↓reduceIte, keep99, ib99, mk99, Try.f99, List.getElem?_cons_zero, Int.toNat_zero]
    intro _
    first | refine HFnF.mk (l00In (c :: t).length 1 12) ?_ | refine CallSF.mk (l00In (c :: t).length 1 12) ?_ | refine HFnF.mkAt (l00In (c :: t).length 1 12) ?_ | refine CallSF.mk (FnAt.fn0 (l00In (c :: t).length 1 12)) ?_
    simp (maxSteps := 1000000) -dsimp -implicitDefEqProofs only [go_sem, ↓reduceIte, keep99, ib99, mk99, Try.f99, List.getElem?_cons_zero, Int.toNat_zero]
    repeat' (with_reducible first | intro _ | refine And.intro ?_ ?_)
    all_goals try (first | (simp [IsNm, Low, Dig, *]; done) | omega | (grind [IsNm, Low, Dig]) | (simp [IsNm, Low, Dig]; omega))
    rename_i h0 h1 h2 h3
    generalize hs : c :: t = s at *
    refine loopF (keep := keep99) (ib := ib99) (mk := mk99) mix (by kernel_rfl) (fun k : Nat => [(0, .str s), (3, I k)]) (fun _ => h) (fun k => k ≤ s.length ∧ ∀ x ∈ s.take k, Low x ∨ Dig x) (fun k => s.length - k) 0 (by simp [SatL, tget, Heap.le_refl]) ?_
    intro k ⟨hk, hp⟩
    rcases Nat.lt_or_ge k s.length with hlt | hge
    · generalize ec : s[k] = d
      have ea : s[k]? = some d := by rw [← ec]; exact List.getElem?_eq_getElem hlt
      simp (maxSteps := 1000000) -dsimp -implicitDefEqProofs only [go_sem, ↓reduceIte, keep99, ib99, mk99, Try.f99, ea, Int.toNat_natCast]
      repeat' (with_reducible first | intro _ | refine And.intro ?_ ?_)
      all_goals try omega
      all_goals try exact not_isNm hlt ec (by simp only [Low, Dig]; omega)
      all_goals
        refine ⟨k + 1, ?_⟩
        repeat' (with_reducible refine And.intro ?_ ?_)
        all_goals try (rw [IntWalk.i64_in _ (by omega)]; first | rfl | omega)
        all_goals try omega
        all_goals try (repeat' (with_reducible first | exact Heap.le_refl _ | refine (le_upd (by first | assumption | exact And.right (by assumption) | exact upd_none.2 (by assumption))).2 ?_))
        exact isNm_step hlt ec hp (by simp only [Low, Dig]; omega)
    · have hk' : k = s.length := by omega
      subst hk'
      rw [List.take_length] at hp
      simp (maxSteps := 1000000) -dsimp -implicitDefEqProofs only [go_sem, ↓reduceIte, keep99, ib99, mk99, Try.f99, Nat.lt_irrefl]
      have : s.length = t.length + 1 := by rw [← hs]; rfl
      exact fun _ => (decide_eq_true ⟨by omega, by omega, fun x hx => by rw [← hs] at hx; simp at hx; subst hx; simp only [Low]; omega, hp⟩).symm
def keep92 : List Nat := [0, 2, 3, 5, 6, 7, 34]
def ib92 : List Nat := []
def mk92 : Marks := fun _ => ([], [], [])
set_option maxRecDepth 100000 in
theorem IsName (s : List UInt8) : Fn0 Try.prog 92 [.str s] (.bool (decide (IsNm s))) := by
  refine fn0F 44 keep92 ib92 mk92 mix Try.func92 rfl (by kernel_rfl) (by simp) fun h => ?_
  simp (maxSteps := 1000000) -dsimp -implicitDefEqProofs only [go_sem, ↓reduceIte, keep92, ib92, mk92, Try.f92]
  repeat' (with_reducible first | intro _ | refine And.intro ?_ ?_)
  refine loopF (keep := keep92) (ib := ib92) (mk := mk92) mix (by kernel_rfl) (fun k : Nat => [(0, .str s), (5, I s.length), (6, I k)]) (fun _ => h) (fun k => k ≤ s.length ∧ (∀ x ∈ s.take k, Low x ∨ Dig x) ∧ (0 < k → ∀ c, s[0]? = some c → Low c)) (fun k => s.length - k) 0 (by simp [SatL, tget, Heap.le_refl]) ?_
  intro k ⟨hk, hp, hz⟩
  rcases Nat.lt_or_ge k s.length with hlt | hge
  · generalize ec : s[k] = d
    have ea : s[k]? = some d := by rw [← ec]; exact List.getElem?_eq_getElem hlt
    have hz' : Low d ∨ ¬ ((k : Int) = 0) → ∀ c, s[0]? = some c → Low c := by
      intro q c hc
      by_cases h0 : k = 0
      · subst h0
        rw [ea] at hc
        obtain rfl := Option.some.inj hc
        exact q.resolve_right (by simp)
      · exact hz (by omega) c hc
    simp (maxSteps := 1000000) -dsimp -implicitDefEqProofs only [go_sem, ↓reduceIte, keep92, ib92, mk92, Try.f92, ea, Int.toNat_natCast]
    repeat' (with_reducible first | intro _ | refine And.intro ?_ ?_)
    all_goals try omega
    all_goals try exact not_isNm hlt ec (by simp only [Low, Dig]; omega)
    all_goals try exact not_isNm0 hlt (by omega) ec (by simp only [Low]; omega)
    all_goals
      refine ⟨k + 1, ?_⟩
      repeat' (with_reducible refine And.intro ?_ ?_)
      all_goals try (rw [IntWalk.i64_in _ (by omega)]; first | rfl | omega)
      all_goals try omega
      all_goals try (repeat' (with_reducible first | exact Heap.le_refl _ | refine (le_upd (by first | assumption | exact And.right (by assumption) | exact upd_none.2 (by assumption))).2 ?_))
      all_goals first | exact isNm_step hlt ec hp (by simp only [Low, Dig]; omega) | exact fun _ => hz' (by simp only [Low]; omega)
  · have hk' : k = s.length := by omega
    subst hk'
    rw [List.take_length] at hp
    simp (maxSteps := 1000000) -dsimp -implicitDefEqProofs only [go_sem, ↓reduceIte, keep92, ib92, mk92, Try.f92, Nat.lt_irrefl]
    repeat' (with_reducible first | intro _ | refine And.intro ?_ ?_)
    all_goals simp only [IsNm, decide_eq_decide, eq_comm (a := false), decide_eq_false_iff_not]
    all_goals grind
open Go.Proofs
set_option linter.unusedVariables false
set_option linter.unusedSimpArgs false
mutual
def DExpr.d : DExpr → Nat
  | .mk _ _ _ _ kids => DExpr.dL kids + 1
def DExpr.dL : List DExpr → Nat
  | [] => 0
  | x :: l => max x.d (DExpr.dL l)
end
theorem DExpr.d_eq (x : DExpr) : x.d = DExpr.dL x.fKids + 1 := by cases x; rfl
theorem DExpr.dL_take : ∀ {l : List DExpr} {k : Nat} (h : k < l.length), DExpr.dL (l.take (k + 1)) = max (DExpr.dL (l.take k)) l[k].d
  | x :: l, 0, _ => by simp [DExpr.dL]
  | x :: l, k + 1, h => by
    have := DExpr.dL_take (l := l) (k := k) (by simpa using h)
    simp only [List.take_succ_cons, DExpr.dL, this, List.getElem_cons_succ]
    omega
mutual
theorem DExpr.d_le : ∀ x : DExpr, x.d ≤ x.s + 1
  | .mk _ _ _ _ kids => by
    have := DExpr.dL_le kids
    simp only [DExpr.d, DExpr.s]; omega
theorem DExpr.dL_le : ∀ l : List DExpr, DExpr.dL l ≤ l.length + DExpr.sL l
  | [] => by simp [DExpr.dL]
  | x :: l => by
    have h1 := DExpr.d_le x
    have h2 := DExpr.dL_le l
    simp only [DExpr.dL, DExpr.sL, List.length_cons]; omega
end
theorem DExpr.dL_take_le : ∀ (l : List DExpr) (k : Nat), DExpr.dL (l.take k) ≤ DExpr.dL l
  | [], k => by simp
  | x :: l, 0 => by simp [DExpr.dL]
  | x :: l, k + 1 => by have := DExpr.dL_take_le l k; simp only [List.take_succ_cons, DExpr.dL]; omega
theorem DExpr.kid_s {x y : DExpr} (h : y ∈ x.fKids) : y.s < x.s := by
  have h1 := sum_mem DExpr.s h
  have h2 := List.length_pos_of_mem h
  rw [x.s_eq, szs_eq]; omega
theorem DExpr.part_s (x : DExpr) {k : Nat} (h : k < x.fKids.length) : k + ((x.fKids.take k).map DExpr.s).sum + x.fKids[k].s + 1 ≤ x.s := by
  have h1 := sum_take_succ DExpr.s x.fKids k h
  have h2 := sum_take_le DExpr.s x.fKids (k + 1)
  rw [x.s_eq, szs_eq]; omega
theorem DExpr.all_s (x : DExpr) : x.fKids.length + ((x.fKids.take x.fKids.length).map DExpr.s).sum = x.s := by
  rw [List.take_length, x.s_eq, szs_eq]
def keep96 : List Nat := [0, 1, 2, 3, 5, 7, 8, 9, 10]
def ib96 : List Nat := [1]
def mk96 : Marks := fun _ => ([], [], [])
set_option maxRecDepth 100000 in
theorem ExprSize_step (x : DExpr) (hs : x.s ≤ 4294967296) (hc : ∀ y ∈ x.fKids, Fn0 Try.prog 96 [.agg y.c] (I ((y.s : Int) + 1))) : Fn0 Try.prog 96 [.agg x.c] (I ((x.s : Int) + 1)) := by
  have hx := x.all_s
  rw [DExpr.c_eq x]
  refine fn0F 19 keep96 ib96 mk96 mix Try.func96 rfl (by kernel_rfl) (by simp) fun h => ?_
  simp (maxSteps := 1000000) -dsimp -implicitDefEqProofs only [go_sem, ↓reduceIte, keep96, ib96, mk96, Try.f96]
  repeat' (with_reducible first | intro _ | refine And.intro ?_ ?_)
  refine loopF (keep := keep96) (ib := ib96) (mk := mk96) mix (by kernel_rfl) (fun k : Nat => [(1, .ip 5 [x.c] 0 0), (3, I (1 + k + (((x.fKids.take k).map DExpr.s).sum : Int))), (7, sls 5 DExpr.c x.fKids), (8, I x.fKids.length), (9, I k)]) (fun _ => h) (fun k => k ≤ x.fKids.length) (fun k => x.fKids.length - k) 0 (by simp [SatL, tget, Heap.le_refl, DExpr.c_eq]) ?_
  intro k hk
  rcases Nat.lt_or_ge k x.fKids.length with hlt | hge
  · have ea : x.fKids[k]? = some x.fKids[k] := List.getElem?_eq_getElem hlt
    have hp := x.part_s hlt
    have h1 := sum_take_succ DExpr.s x.fKids k hlt
    have hcy := hc x.fKids[k] (List.getElem_mem hlt)
    simp only [DExpr.c_eq] at hcy
    simp (maxSteps := 1000000) -dsimp -implicitDefEqProofs only [go_sem, ↓reduceIte, keep96, ib96, mk96, Try.f96, ea, DExpr.c_eq, upd_upd]
    repeat' (with_reducible first | intro _ | refine And.intro ?_ ?_)
    all_goals try omega
    first | refine HFnF.mk (hcy) ?_ | refine CallSF.mk (hcy) ?_ | refine HFnF.mkAt (hcy) ?_ | refine CallSF.mk (FnAt.fn0 (hcy)) ?_
    simp (maxSteps := 1000000) -dsimp -implicitDefEqProofs only [go_sem, ↓reduceIte, keep96, ib96, mk96, Try.f96]
    rename_i n hn
    refine ⟨k + 1, ?_⟩
    repeat' (with_reducible refine And.intro ?_ ?_)
    all_goals try (rw [IntWalk.i64_in _ (by omega)]; first | rfl | omega)
    all_goals try omega
    all_goals try (repeat' (with_reducible first | exact Heap.le_refl _ | refine (le_upd (by first | assumption | exact And.right (by assumption) | exact upd_none.2 (by assumption))).2 ?_))
    all_goals try (simp only [DExpr.c_eq]; done)
  · have hk' : k = x.fKids.length := by omega
    subst hk'
    simp (maxSteps := 1000000) -dsimp -implicitDefEqProofs only [go_sem, ↓reduceIte, keep96, ib96, mk96, Try.f96, Nat.lt_irrefl]
    omega
theorem ExprSize (x : DExpr) (hs : x.s ≤ 4294967296) : Fn0 Try.prog 96 [.agg x.c] (I ((x.s : Int) + 1)) :=
  ExprSize_step x hs fun y hy => ExprSize y (by have := DExpr.kid_s hy; omega)
termination_by SizeOf.sizeOf x
decreasing_by exact DExpr.kid_lt hy
def keep109 : List Nat := [0, 1, 2, 3, 5, 7, 8, 9, 10]
def ib109 : List Nat := [1]
def mk109 : Marks := fun _ => ([], [], [])
set_option maxRecDepth 100000 in
theorem ExprDepth_step (x : DExpr) (hs : x.s ≤ 4294967296) (hc : ∀ y ∈ x.fKids, Fn0 Try.prog 109 [.agg y.c] (I (y.d : Int))) : Fn0 Try.prog 109 [.agg x.c] (I (x.d : Int)) := by
  have hd := x.d_le
  rw [DExpr.d_eq] at hd ⊢
  rw [DExpr.c_eq x]
  refine fn0F 20 keep109 ib109 mk109 mix Try.func109 rfl (by kernel_rfl) (by simp) fun h => ?_
  simp (maxSteps := 1000000) -dsimp -implicitDefEqProofs only [go_sem, ↓reduceIte, keep109, ib109, mk109, Try.f109]
  repeat' (with_reducible first | intro _ | refine And.intro ?_ ?_)
  refine loopF (keep := keep109) (ib := ib109) (mk := mk109) mix (by kernel_rfl) (fun k : Nat => [(1, .ip 5 [x.c] 0 0), (3, I (DExpr.dL (x.fKids.take k) : Int)), (7, sls 5 DExpr.c x.fKids), (8, I x.fKids.length), (9, I k)]) (fun _ => h) (fun k => k ≤ x.fKids.length) (fun k => x.fKids.length - k) 0 (by simp [SatL, tget, Heap.le_refl, DExpr.c_eq, DExpr.dL]) ?_
  intro k hk
  rcases Nat.lt_or_ge k x.fKids.length with hlt | hge
  · have ea : x.fKids[k]? = some x.fKids[k] := List.getElem?_eq_getElem hlt
    have h1 := DExpr.dL_take hlt
    have hcy := hc x.fKids[k] (List.getElem_mem hlt)
    simp only [DExpr.c_eq] at hcy
    simp (maxSteps := 1000000) -dsimp -implicitDefEqProofs only [go_sem, ↓reduceIte, keep109, ib109, mk109, Try.f109, ea, DExpr.c_eq, upd_upd]
    repeat' (with_reducible first | intro _ | refine And.intro ?_ ?_)
    all_goals try omega
    first | refine HFnF.mk (hcy) ?_ | refine CallSF.mk (hcy) ?_ | refine HFnF.mkAt (hcy) ?_ | refine CallSF.mk (FnAt.fn0 (hcy)) ?_
    simp (maxSteps := 1000000) -dsimp -implicitDefEqProofs only [go_sem, ↓reduceIte, keep109, ib109, mk109, Try.f109]
    repeat' (with_reducible first | intro _ | refine And.intro ?_ ?_)
    all_goals try rfl
    rename_i n hn
    refine ⟨k + 1, ?_⟩
    repeat' (with_reducible refine And.intro ?_ ?_)
    all_goals try (rw [IntWalk.i64_in _ (by omega)]; first | rfl | omega)
    all_goals try omega
    all_goals try (repeat' (with_reducible first | exact Heap.le_refl _ | refine (le_upd (by first | assumption | exact And.right (by assumption) | exact upd_none.2 (by assumption))).2 ?_))
    all_goals try (simp only [DExpr.c_eq]; done)
  · have hk' : k = x.fKids.length := by omega
    subst hk'
    simp (maxSteps := 1000000) -dsimp -implicitDefEqProofs only [go_sem, ↓reduceIte, keep109, ib109, mk109, Try.f109, Nat.lt_irrefl]
    rw [List.take_length, IntWalk.i64_in _ (by omega)]; omega
theorem ExprDepth (x : DExpr) (hs : x.s ≤ 4294967296) : Fn0 Try.prog 109 [.agg x.c] (I (x.d : Int)) :=
  ExprDepth_step x hs fun y hy => ExprDepth y (by have := DExpr.kid_s hy; omega)
termination_by SizeOf.sizeOf x
decreasing_by exact DExpr.kid_lt hy
def keep100 : List Nat := [0, 1, 4, 5, 18]
def ib100 : List Nat := []
def mk100 : Marks := fun _ => ([], [], [])
set_option maxRecDepth 100000 in
theorem l02Left_step (x : DExpr) (left : Int) (h0 : 0 ≤ left) (h9 : left ≤ 4294967296) (hs : x.s ≤ 4294967296) (hc : ∀ y ∈ x.fKids, ∀ left : Int, 0 ≤ left → left ≤ 4294967296 → Fn0 Try.prog 100 [.ip 5 [y.c] 0 0, I left] (I (lft left (y.s + 1)))) : Fn0 Try.prog 100 [.ip 5 [x.c] 0 0, I left] (I (lft left (x.s + 1))) := by
  have hx := x.all_s
  rw [DExpr.c_eq x]
  refine fn0F 30 keep100 ib100 mk100 mix Try.func100 rfl (by kernel_rfl) (by simp) fun h => ?_
  simp (maxSteps := 1000000) -dsimp -implicitDefEqProofs only [go_sem, ↓reduceIte, keep100, ib100, mk100, Try.f100]
  repeat' (with_reducible first | intro _ | refine And.intro ?_ ?_)
  refine loopF (keep := keep100) (ib := ib100) (mk := mk100) mix (by kernel_rfl) (fun k : Nat => [(0, .ip 5 [x.c] 0 0), (1, I (lft left (1 + k + ((x.fKids.take k).map DExpr.s).sum))), (5, I k)]) (fun _ => h) (fun k => k ≤ x.fKids.length) (fun k => x.fKids.length - k) 0 (by simp [SatL, tget, Heap.le_refl, DExpr.c_eq]; rw [IntWalk.i64_in _ (by omega)]; unfold lft; split <;> omega) ?_
  intro k hk
  rcases Nat.lt_or_ge k x.fKids.length with hlt | hge
  · have hp := x.part_s hlt
    have h1 := sum_take_succ DExpr.s x.fKids k hlt
    rcases lft_cases left (1 + k + ((x.fKids.take k).map DExpr.s).sum) with ⟨e, hl⟩ | ⟨e, hl⟩
    · rw [e, DExpr.c_eq x]
      simp (maxSteps := 1000000) -dsimp -implicitDefEqProofs only [go_sem, ↓reduceIte, keep100, ib100, mk100, Try.f100]
      repeat' (with_reducible first | intro _ | refine And.intro ?_ ?_)
      all_goals try omega
      exact (lft_neg (by omega)).symm
    · rw [e, DExpr.c_eq x]
      simp (maxSteps := 1000000) -dsimp -implicitDefEqProofs only [go_sem, ↓reduceIte, keep100, ib100, mk100, Try.f100]
      repeat' (with_reducible first | intro _ | refine And.intro ?_ ?_)
      all_goals try omega
      first | refine CallSF.mk ((hc x.fKids[k] (List.getElem_mem hlt) _ hl (by omega)).sub (by repeat' (first | exact SubL.nil | refine SubL.cons ?_ ?_ | exact Sub.refl _ | (rw [DExpr.c_eq]; exact Sub.refl _) | exact Sub.ipAt rfl rfl rfl | exact Sub.ip (map_get (by omega)) (by simp) | exact Sub.ipAt (map_get (by omega)) rfl rfl | exact Sub.ip (by simp [*]) (by simp) | exact Sub.ipAt (by simp [*]) (by rfl) (by rfl)))) ?_ | refine HFnF.mk ((hc x.fKids[k] (List.getElem_mem hlt) _ hl (by omega)).sub (by repeat' (first | exact SubL.nil | refine SubL.cons ?_ ?_ | exact Sub.refl _ | (rw [DExpr.c_eq]; exact Sub.refl _) | exact Sub.ipAt rfl rfl rfl | exact Sub.ip (map_get (by omega)) (by simp) | exact Sub.ipAt (map_get (by omega)) rfl rfl | exact Sub.ip (by simp [*]) (by simp) | exact Sub.ipAt (by simp [*]) (by rfl) (by rfl)))) ?_
      simp (maxSteps := 1000000) -dsimp -implicitDefEqProofs only [go_sem, ↓reduceIte, keep100, ib100, mk100, Try.f100]
      refine ⟨k + 1, ?_⟩
      repeat' (with_reducible refine And.intro ?_ ?_)
      all_goals try (rw [IntWalk.i64_in _ (by omega)]; first | rfl | omega)
      all_goals try omega
      all_goals try (repeat' (with_reducible first | exact Heap.le_refl _ | refine (le_upd (by first | assumption | exact And.right (by assumption) | exact upd_none.2 (by assumption))).2 ?_))
      all_goals try (simp only [DExpr.c_eq]; done)
      all_goals (rw [h1]; unfold lft; split <;> split <;> omega)
  · have hk' : k = x.fKids.length := by omega
    subst hk'
    rw [DExpr.c_eq x]
    simp (maxSteps := 1000000) -dsimp -implicitDefEqProofs only [go_sem, ↓reduceIte, keep100, ib100, mk100, Try.f100, Nat.lt_irrefl]
    rw [show 1 + x.fKids.length + ((x.fKids.take x.fKids.length).map DExpr.s).sum = x.s + 1 by omega]
    exact fun _ => rfl
theorem l02Left (x : DExpr) (left : Int) (h0 : 0 ≤ left) (h9 : left ≤ 4294967296) (hs : x.s ≤ 4294967296) : Fn0 Try.prog 100 [.ip 5 [x.c] 0 0, I left] (I (lft left (x.s + 1))) :=
  l02Left_step x left h0 h9 hs fun y hy left h0 h9 => l02Left y left h0 h9 (by have := DExpr.kid_s hy; omega)
termination_by SizeOf.sizeOf x
decreasing_by exact DExpr.kid_lt hy
def keep117 : List Nat := [0, 1, 4, 7]
def ib117 : List Nat := []
def mk117 : Marks := fun _ => ([], [], [])
theorem l00Max (a b : Int) : Fn0 Try.prog 117 [I a, I b] (I (max a b)) := by
  refine fn0F 10 keep117 ib117 mk117 mix Try.func117 rfl (by kernel_rfl) (by simp) fun h => ?_
  simp (maxSteps := 1000000) -dsimp -implicitDefEqProofs only [go_sem, ↓reduceIte, keep117, ib117, mk117, Try.f117]
  repeat' (with_reducible first | intro _ | refine And.intro ?_ ?_)
  all_goals omega
def keep113 : List Nat := [0, 2, 3, 4, 11]
def ib113 : List Nat := []
def mk113 : Marks := fun _ => ([], [], [])
set_option maxRecDepth 100000 in
theorem l02Depth_step (x : DExpr) (hs : x.s ≤ 4294967296) (hc : ∀ y ∈ x.fKids, Fn0 Try.prog 113 [.ip 5 [y.c] 0 0] (I (y.d : Int))) : Fn0 Try.prog 113 [.ip 5 [x.c] 0 0] (I (x.d : Int)) := by
  have hd := x.d_le
  rw [DExpr.d_eq] at hd ⊢
  rw [DExpr.c_eq x]
  refine fn0F 25 keep113 ib113 mk113 mix Try.func113 rfl (by kernel_rfl) (by simp) fun h => ?_
  simp (maxSteps := 1000000) -dsimp -implicitDefEqProofs only [go_sem, ↓reduceIte, keep113, ib113, mk113, Try.f113]
  repeat' (with_reducible first | intro _ | refine And.intro ?_ ?_)
  refine loopF (keep := keep113) (ib := ib113) (mk := mk113) mix (by kernel_rfl) (fun k : Nat => [(0, .ip 5 [x.c] 0 0), (3, I (DExpr.dL (x.fKids.take k) : Int)), (4, I k)]) (fun _ => h) (fun k => k ≤ x.fKids.length) (fun k => x.fKids.length - k) 0 (by simp [SatL, tget, Heap.le_refl, DExpr.c_eq, DExpr.dL]) ?_
  intro k hk
  rw [DExpr.c_eq x]
  rcases Nat.lt_or_ge k x.fKids.length with hlt | hge
  · have h1 := DExpr.dL_take hlt
    simp (maxSteps := 1000000) -dsimp -implicitDefEqProofs only [go_sem, ↓reduceIte, keep113, ib113, mk113, Try.f113]
    repeat' (with_reducible first | intro _ | refine And.intro ?_ ?_)
    all_goals try omega
    first | refine CallSF.mk ((hc x.fKids[k] (List.getElem_mem hlt)).sub (by repeat' (first | exact SubL.nil | refine SubL.cons ?_ ?_ | exact Sub.refl _ | (rw [DExpr.c_eq]; exact Sub.refl _) | exact Sub.ipAt rfl rfl rfl | exact Sub.ip (map_get (by omega)) (by simp) | exact Sub.ipAt (map_get (by omega)) rfl rfl | exact Sub.ip (by simp [*]) (by simp) | exact Sub.ipAt (by simp [*]) (by rfl) (by rfl)))) ?_ | refine HFnF.mk ((hc x.fKids[k] (List.getElem_mem hlt)).sub (by repeat' (first | exact SubL.nil | refine SubL.cons ?_ ?_ | exact Sub.refl _ | (rw [DExpr.c_eq]; exact Sub.refl _) | exact Sub.ipAt rfl rfl rfl | exact Sub.ip (map_get (by omega)) (by simp) | exact Sub.ipAt (map_get (by omega)) rfl rfl | exact Sub.ip (by simp [*]) (by simp) | exact Sub.ipAt (by simp [*]) (by rfl) (by rfl)))) ?_
    simp (maxSteps := 1000000) -dsimp -implicitDefEqProofs only [go_sem, ↓reduceIte, keep113, ib113, mk113, Try.f113]
    first | refine HFnF.mk (l00Max _ _) ?_ | refine CallSF.mk (l00Max _ _) ?_ | refine HFnF.mkAt (l00Max _ _) ?_ | refine CallSF.mk (FnAt.fn0 (l00Max _ _)) ?_
    simp (maxSteps := 1000000) -dsimp -implicitDefEqProofs only [go_sem, ↓reduceIte, keep113, ib113, mk113, Try.f113]
    refine ⟨k + 1, ?_⟩
    repeat' (with_reducible refine And.intro ?_ ?_)
    all_goals try (rw [IntWalk.i64_in _ (by omega)]; first | rfl | omega)
    all_goals try omega
    all_goals try (repeat' (with_reducible first | exact Heap.le_refl _ | refine (le_upd (by first | assumption | exact And.right (by assumption) | exact upd_none.2 (by assumption))).2 ?_))
    all_goals try (simp only [DExpr.c_eq]; done)
  · have hk' : k = x.fKids.length := by omega
    subst hk'
    simp (maxSteps := 1000000) -dsimp -implicitDefEqProofs only [go_sem, ↓reduceIte, keep113, ib113, mk113, Try.f113, Nat.lt_irrefl]
    intro _
    rw [List.take_length, IntWalk.i64_in _ (by omega)]; omega
theorem l02Depth (x : DExpr) (hs : x.s ≤ 4294967296) : Fn0 Try.prog 113 [.ip 5 [x.c] 0 0] (I (x.d : Int)) :=
  l02Depth_step x hs fun y hy => l02Depth y (by have := DExpr.kid_s hy; omega)
termination_by SizeOf.sizeOf x
decreasing_by exact DExpr.kid_lt hy

open Go.Proofs
set_option linter.unusedVariables false
set_option linter.unusedSimpArgs false
def kidsN (k : Int) : Int := if k = 1 ∨ k = 2 then 0 else if k = 3 ∨ k = 4 ∨ k = 5 ∨ k = 6 ∨ k = 9 then 2 else if k = 7 then 1 else if k = 8 then 3 else -1
/-- What is asked of one node. -/
def nodeOK (p : DProgram) (e : DExpr) (vars funcs : Int) : Prop :=
  if e.fKind = 10 ∨ e.fKind = 11 then
    0 ≤ e.fNum ∧ e.fNum ≤ funcs - 1 ∧ ∀ f, p.fFuncs[e.fNum.toNat]? = some f →
      0 ≤ e.fPick ∧ e.fPick ≤ (f.fOuts.length : Int) - 1 ∧ (e.fKids.length : Int) = f.fParams ∧ (e.fKind = 10 → e.fCount = 0) ∧ (e.fKind = 11 → 0 ≤ e.fCount ∧ e.fCount ≤ 8 ∧ (f.fOuts.length : Int) = f.fParams)
  else kidsN e.fKind = e.fKids.length ∧ e.fPick = 0 ∧ e.fCount = 0 ∧ (e.fKind = 1 → Num e.fNum) ∧ (e.fKind = 2 → 0 ≤ e.fNum ∧ e.fNum ≤ vars - 1) ∧ (e.fKind ≠ 1 → e.fKind ≠ 2 → e.fNum = 0)
noncomputable instance (p : DProgram) (e : DExpr) (vars funcs : Int) : Decidable (nodeOK p e vars funcs) := Classical.propDecidable _
def moreV (kind : Int) (i : Nat) (vars : Int) : Int := if kind = 9 ∧ i = 1 then vars + 1 else vars
mutual
def DExpr.ok (p : DProgram) (funcs : Int) : DExpr → Int → Prop
  | .mk a b c d kids, vars => nodeOK p (.mk a b c d kids) vars funcs ∧ DExpr.okL p funcs a kids 0 vars
def DExpr.okL (p : DProgram) (funcs : Int) (kind : Int) : List DExpr → Nat → Int → Prop
  | [], _, _ => True
  | x :: l, i, vars => x.ok p funcs (moreV kind i vars) ∧ DExpr.okL p funcs kind l (i + 1) vars
end
noncomputable instance (p : DProgram) (funcs : Int) (e : DExpr) (vars : Int) : Decidable (e.ok p funcs vars) := Classical.propDecidable _
theorem DExpr.okL_iff (p : DProgram) (funcs kind : Int) : ∀ (l : List DExpr) (i : Nat) (vars : Int), DExpr.okL p funcs kind l i vars ↔ ∀ (k : Nat) (h : k < l.length), l[k].ok p funcs (moreV kind (i + k) vars)
  | [], i, vars => by simp [DExpr.okL]
  | x :: l, i, vars => by
    rw [DExpr.okL, DExpr.okL_iff p funcs kind l (i + 1) vars]
    constructor
    · rintro ⟨h1, h2⟩ k hk
      cases k with
      | zero => exact h1
      | succ k => have := h2 k (by simpa using hk); rw [show i + 1 + k = i + (k + 1) by omega] at this; exact this
    · intro h
      refine ⟨h 0 (by simp), fun k hk => ?_⟩
      have := h (k + 1) (by simpa using hk)
      rw [show i + 1 + k = i + (k + 1) by omega]; exact this
theorem DExpr.ok_iff (p : DProgram) (funcs : Int) (x : DExpr) (vars : Int) : x.ok p funcs vars ↔ nodeOK p x vars funcs ∧ ∀ (k : Nat) (h : k < x.fKids.length), x.fKids[k].ok p funcs (moreV x.fKind k vars) := by
  cases x with
  | mk a b c d kids =>
    rw [DExpr.ok, DExpr.okL_iff]
    simp only [Nat.zero_add, DExpr.fKids, DExpr.fKind]
theorem DProgram.len_s (p : DProgram) : p.fFuncs.length ≤ p.s := by rw [p.s_eq, szs_eq]; omega
theorem DProgram.func_s {p : DProgram} {f : DFunc} (h : f ∈ p.fFuncs) : f.s + p.fFuncs.length ≤ p.s := by
  have := sum_mem DFunc.s h
  rw [p.s_eq, szs_eq]; omega
theorem DFunc.outs_s (f : DFunc) : f.fOuts.length ≤ f.s := by rw [f.s_eq, szs_eq]; omega
theorem DFunc.name_s (f : DFunc) : f.fName.length ≤ f.s := by rw [f.s_eq]; omega
theorem DFunc.out_s {f : DFunc} {e : DExpr} (h : e ∈ f.fOuts) : e.s < f.s := by
  have := sum_mem DExpr.s h
  have := List.length_pos_of_mem h
  rw [f.s_eq, szs_eq]; omega
def keep119 : List Nat := [0, 2, 3, 4, 7, 13, 15]
def ib119 : List Nat := []
def mk119 : Marks := fun _ => ([], [], [])
theorem l02Kids (k : Int) : Fn0 Try.prog 119 [I k] (I (kidsN k)) := by
  refine fn0F 17 keep119 ib119 mk119 mix Try.func119 rfl (by kernel_rfl) (by simp) fun h => ?_
  simp (maxSteps := 1000000) -dsimp -implicitDefEqProofs only [go_sem, ↓reduceIte, keep119, ib119, mk119, Try.f119]
  repeat' (with_reducible first | intro _ | refine And.intro ?_ ?_)
  all_goals try (first | (simp [kidsN, *]; done) | omega | (grind [kidsN]) | (simp [kidsN]; omega))
theorem nodeOK_call {p : DProgram} {e : DExpr} {vars funcs : Int} (hk : e.fKind = 10 ∨ e.fKind = 11) {f : DFunc} (ef : p.fFuncs[e.fNum.toNat]? = some f) : nodeOK p e vars funcs ↔
    0 ≤ e.fNum ∧ e.fNum ≤ funcs - 1 ∧ 0 ≤ e.fPick ∧ e.fPick ≤ (f.fOuts.length : Int) - 1 ∧ (e.fKids.length : Int) = f.fParams ∧ (e.fKind = 10 → e.fCount = 0) ∧ (e.fKind = 11 → 0 ≤ e.fCount ∧ e.fCount ≤ 8 ∧ (f.fOuts.length : Int) = f.fParams) := by
  unfold nodeOK
  rw [if_pos hk]
  simp [ef]
theorem nodeOK_range {p : DProgram} {e : DExpr} {vars funcs : Int} (hk : e.fKind = 10 ∨ e.fKind = 11) (hr : ¬ (0 ≤ e.fNum ∧ e.fNum ≤ funcs - 1)) : ¬ nodeOK p e vars funcs := by
  unfold nodeOK
  rw [if_pos hk]
  intro h
  exact hr ⟨h.1, h.2.1⟩
theorem nodeOK_plain {p : DProgram} {e : DExpr} {vars funcs : Int} (hk : ¬ (e.fKind = 10 ∨ e.fKind = 11)) : nodeOK p e vars funcs ↔
    kidsN e.fKind = e.fKids.length ∧ e.fPick = 0 ∧ e.fCount = 0 ∧ (e.fKind = 1 → Num e.fNum) ∧ (e.fKind = 2 → 0 ≤ e.fNum ∧ e.fNum ≤ vars - 1) ∧ (e.fKind ≠ 1 → e.fKind ≠ 2 → e.fNum = 0) := by
  unfold nodeOK
  rw [if_neg hk]
def keep118 : List Nat := [0, 1, 2, 3, 8, 9, 21, 29, 62, 67, 114, 118, 119, 126]
def ib118 : List Nat := []
def mk118 : Marks := fun id => match id with | 4 => ([], [0, 1, 2, 3, 4, 5, 6, 7, 8, 9], []) | 5 => ([], [0, 1, 2, 3, 4, 5, 6, 7, 8, 9, 10, 11, 12, 13, 14, 15, 16, 17, 18, 19, 20, 21, 22, 23], []) | 9 => ([], [0, 1, 2, 3, 4, 5, 6, 7, 8, 9, 10, 11, 12, 13, 14, 15, 16, 17], []) | 10 => ([], [0, 1, 2, 3, 4, 5, 6, 7, 8, 9, 10, 11, 12, 13, 14, 15, 16, 17, 18, 19, 20, 21, 22, 23, 24], []) | _ => ([], [], [])
set_option maxRecDepth 100000 in
theorem l02Node (p : DProgram) (e : DExpr) (vars funcs : Int) (hv : 0 ≤ vars) (hv2 : vars ≤ 4294967296) (hf0 : 0 ≤ funcs) (hf : funcs ≤ p.fFuncs.length) (hps : p.s ≤ 4294967296) : Fn0 Try.prog 118 [.ip 1 [p.c] 0 0, .ip 5 [e.c] 0 0, I vars, I funcs] (.bool (decide (nodeOK p e vars funcs))) := by
  have hl := p.len_s
  have e1 : IntKind.i64.wrap (funcs - 1) = funcs - 1 := IntWalk.i64_in _ (by omega)
  have e2 : IntKind.i64.wrap (vars - 1) = vars - 1 := IntWalk.i64_in _ (by omega)
  rw [DExpr.c_eq]
  simp only [DProgram.c_eq]
  by_cases hk : e.fKind = 10 ∨ e.fKind = 11
  · by_cases hr : 0 ≤ e.fNum ∧ e.fNum ≤ funcs - 1
    · obtain ⟨f, ef⟩ : ∃ f, p.fFuncs[e.fNum.toNat]? = some f := ⟨_, List.getElem?_eq_getElem (by omega)⟩
      have hn := nodeOK_call (vars := vars) (funcs := funcs) hk ef
      have hfs := DProgram.func_s (List.mem_of_getElem? ef)
      have hos := f.outs_s
      refine fn0F 140 keep118 ib118 mk118 mix Try.func118 rfl (by kernel_rfl) (by simp) fun h => ?_
      simp (maxSteps := 1000000) -dsimp -implicitDefEqProofs only [go_sem, ↓reduceIte, keep118, ib118, mk118, Try.f118, e1, e2]
      repeat' (with_reducible first | intro _ | refine And.intro ?_ ?_)
      all_goals try omega
      all_goals (first | refine HFnF.mk (l00In e.fNum 0 (funcs - 1)) ?_ | refine CallSF.mk (l00In e.fNum 0 (funcs - 1)) ?_)
      all_goals simp (maxSteps := 1000000) -dsimp -implicitDefEqProofs only [go_sem, ↓reduceIte, keep118, ib118, mk118, Try.f118, ef, DFunc.c_eq]
      all_goals repeat' (with_reducible first | intro _ | refine And.intro ?_ ?_)
      all_goals try omega
      all_goals try simp (disch := omega) only [IntWalk.i64_in]
      all_goals (first | refine HFnF.mk (l00In e.fPick 0 (f.fOuts.length - 1)) ?_ | refine CallSF.mk (l00In e.fPick 0 (f.fOuts.length - 1)) ?_)
      all_goals simp (maxSteps := 1000000) -dsimp -implicitDefEqProofs only [go_sem, ↓reduceIte, keep118, ib118, mk118, Try.f118, ef, DFunc.c_eq]
      all_goals repeat' (with_reducible first | intro _ | refine And.intro ?_ ?_)
      all_goals try omega
      all_goals try (first | (simp [*]; done) | omega | grind)
      first | refine HFnF.mk (l00In e.fCount 0 8) ?_ | refine CallSF.mk (l00In e.fCount 0 8) ?_ | refine HFnF.mkAt (l00In e.fCount 0 8) ?_ | refine CallSF.mk (FnAt.fn0 (l00In e.fCount 0 8)) ?_
      simp (maxSteps := 1000000) -dsimp -implicitDefEqProofs only [go_sem, ↓reduceIte, keep118, ib118, mk118, Try.f118, ef, DFunc.c_eq]
      repeat' (with_reducible first | intro _ | refine And.intro ?_ ?_)
      all_goals try (first | (simp [*]; done) | omega | grind)
    · have hn := nodeOK_range (p := p) (vars := vars) hk hr
      refine fn0F 140 keep118 ib118 mk118 mix Try.func118 rfl (by kernel_rfl) (by simp) fun h => ?_
      simp (maxSteps := 1000000) -dsimp -implicitDefEqProofs only [go_sem, ↓reduceIte, keep118, ib118, mk118, Try.f118, e1, e2]
      repeat' (with_reducible first | intro _ | refine And.intro ?_ ?_)
      all_goals try omega
      all_goals (first | refine HFnF.mk (l00In e.fNum 0 (funcs - 1)) ?_ | refine CallSF.mk (l00In e.fNum 0 (funcs - 1)) ?_)
      all_goals simp (maxSteps := 1000000) -dsimp -implicitDefEqProofs only [go_sem, ↓reduceIte, keep118, ib118, mk118, Try.f118]
      all_goals repeat' (with_reducible first | intro _ | refine And.intro ?_ ?_)
      all_goals try (first | (simp [*]; done) | omega | grind)
  · have hn := nodeOK_plain (p := p) (vars := vars) (funcs := funcs) hk
    refine fn0F 140 keep118 ib118 mk118 mix Try.func118 rfl (by kernel_rfl) (by simp) fun h => ?_
    simp (maxSteps := 1000000) -dsimp -implicitDefEqProofs only [go_sem, ↓reduceIte, keep118, ib118, mk118, Try.f118, e1, e2]
    repeat' (with_reducible first | intro _ | refine And.intro ?_ ?_)
    all_goals try omega
    first | refine HFnF.mk (l02Kids e.fKind) ?_ | refine CallSF.mk (l02Kids e.fKind) ?_ | refine HFnF.mkAt (l02Kids e.fKind) ?_ | refine CallSF.mk (FnAt.fn0 (l02Kids e.fKind)) ?_
    simp (maxSteps := 1000000) -dsimp -implicitDefEqProofs only [go_sem, ↓reduceIte, keep118, ib118, mk118, Try.f118]
    repeat' (with_reducible first | intro _ | refine And.intro ?_ ?_)
    all_goals try (first | (simp [*]; done) | omega | grind)
    · first | refine HFnF.mk (l01Number e.fNum) ?_ | refine CallSF.mk (l01Number e.fNum) ?_ | refine HFnF.mkAt (l01Number e.fNum) ?_ | refine CallSF.mk (FnAt.fn0 (l01Number e.fNum)) ?_
      simp (maxSteps := 1000000) -dsimp -implicitDefEqProofs only [go_sem, ↓reduceIte, keep118, ib118, mk118, Try.f118]
      all_goals try (first | (simp [*]; done) | omega | grind)
    · all_goals try simp (disch := omega) only [IntWalk.i64_in]
      first | refine HFnF.mk (l00In e.fNum 0 (vars - 1)) ?_ | refine CallSF.mk (l00In e.fNum 0 (vars - 1)) ?_ | refine HFnF.mkAt (l00In e.fNum 0 (vars - 1)) ?_ | refine CallSF.mk (FnAt.fn0 (l00In e.fNum 0 (vars - 1))) ?_
      simp (maxSteps := 1000000) -dsimp -implicitDefEqProofs only [go_sem, ↓reduceIte, keep118, ib118, mk118, Try.f118]
      all_goals try (first | (simp [*]; done) | omega | grind)
def keep110 : List Nat := [0, 1, 2, 3, 4, 6, 7, 8, 9, 10, 11, 12, 25, 26, 38, 52, 68, 69, 81, 82, 94, 95, 104, 125, 152, 154, 155, 156, 157, 168, 175]
def ib110 : List Nat := [3, 4]
def mk110 : Marks := fun _ => ([], [], [])
open Go.Proofs
set_option linter.unusedVariables false
set_option linter.unusedSimpArgs false
def keep114 : List Nat := [0, 1, 2, 3, 8, 9, 10, 16, 23, 35, 48]
def ib114 : List Nat := []
def mk114 : Marks := fun _ => ([], [], [])
set_option maxRecDepth 100000 in
theorem l02Tree_step (p : DProgram) (e : DExpr) (vars funcs : Int) (hv : 0 ≤ vars) (hv2 : vars + e.s ≤ 4294967296) (hf0 : 0 ≤ funcs) (hf : funcs ≤ p.fFuncs.length) (hps : p.s ≤ 4294967296)
    (hc : ∀ y ∈ e.fKids, ∀ vars : Int, 0 ≤ vars → vars + y.s ≤ 4294967296 → Fn0 Try.prog 114 [.ip 1 [p.c] 0 0, .ip 5 [y.c] 0 0, I vars, I funcs] (.bool (decide (y.ok p funcs vars)))) :
    Fn0 Try.prog 114 [.ip 1 [p.c] 0 0, .ip 5 [e.c] 0 0, I vars, I funcs] (.bool (decide (e.ok p funcs vars))) := by
  have hok := DExpr.ok_iff p funcs e vars
  simp only [DExpr.c_eq, DProgram.c_eq]
  refine fn0F 49 keep114 ib114 mk114 mix Try.func114 rfl (by kernel_rfl) (by simp) fun h => ?_
  simp (maxSteps := 1000000) -dsimp -implicitDefEqProofs only [go_sem, ↓reduceIte, keep114, ib114, mk114, Try.f114]
  first | refine CallSF.mk ((l02Node p e vars funcs hv (by omega) hf0 hf hps).sub (by repeat' (first | exact SubL.nil | refine SubL.cons ?_ ?_ | exact Sub.refl _ | (rw [DExpr.c_eq]; exact Sub.refl _) | exact Sub.ipAt rfl rfl rfl | exact Sub.ip (map_get (by omega)) (by simp) | exact Sub.ipAt (map_get (by omega)) rfl rfl | exact Sub.ip (by simp [*]) (by simp) | exact Sub.ipAt (by simp [*]) (by rfl) (by rfl)))) ?_ | refine HFnF.mk ((l02Node p e vars funcs hv (by omega) hf0 hf hps).sub (by repeat' (first | exact SubL.nil | refine SubL.cons ?_ ?_ | exact Sub.refl _ | (rw [DExpr.c_eq]; exact Sub.refl _) | exact Sub.ipAt rfl rfl rfl | exact Sub.ip (map_get (by omega)) (by simp) | exact Sub.ipAt (map_get (by omega)) rfl rfl | exact Sub.ip (by simp [*]) (by simp) | exact Sub.ipAt (by simp [*]) (by rfl) (by rfl)))) ?_
  simp (maxSteps := 1000000) -dsimp -implicitDefEqProofs only [go_sem, ↓reduceIte, keep114, ib114, mk114, Try.f114]
  repeat' (with_reducible first | intro _ | refine And.intro ?_ ?_)
  · rename_i hn
    exact (decide_eq_false fun q => hn (hok.1 q).1).symm
  · rename_i hn
    refine loopF (keep := keep114) (ib := ib114) (mk := mk114) mix (by kernel_rfl) (fun k : Nat => [(0, .ip 1 [p.c] 0 0), (1, .ip 5 [e.c] 0 0), (2, I vars), (3, I funcs), (9, I k)]) (fun _ => h) (fun k => k ≤ e.fKids.length ∧ ∀ (j : Nat) (hj : j < e.fKids.length), j < k → e.fKids[j].ok p funcs (moreV e.fKind j vars)) (fun k => e.fKids.length - k) 0 (by simp [SatL, tget, Heap.le_refl, DExpr.c_eq, DProgram.c_eq]) ?_
    intro k ⟨hk, hp⟩
    simp only [DExpr.c_eq, DProgram.c_eq]
    rcases Nat.lt_or_ge k e.fKids.length with hlt | hge
    · have hs1 := DExpr.kid_s (List.getElem_mem hlt)
      have nx (q : e.fKids[k].ok p funcs (moreV e.fKind k vars)) : ∀ (j : Nat) (hj : j < e.fKids.length), j < k + 1 → e.fKids[j].ok p funcs (moreV e.fKind j vars) := by
        intro j hj hjk
        rcases Nat.lt_succ_iff_lt_or_eq.1 hjk with h1 | rfl
        · exact hp j hj h1
        · exact q
      have no (q : ¬ e.fKids[k].ok p funcs (moreV e.fKind k vars)) : false = decide (e.ok p funcs vars) := (decide_eq_false fun z => q ((hok.1 z).2 k hlt)).symm
      simp (maxSteps := 1000000) -dsimp -implicitDefEqProofs only [go_sem, ↓reduceIte, keep114, ib114, mk114, Try.f114]
      repeat' (with_reducible first | intro _ | refine And.intro ?_ ?_)
      all_goals try omega
      · have em : moreV e.fKind k vars = vars + 1 := if_pos ⟨by assumption, by omega⟩
        rw [em] at nx no
        all_goals try simp (disch := omega) only [IntWalk.i64_in]
        first | refine CallSF.mk ((hc e.fKids[k] (List.getElem_mem hlt) (vars + 1) (by omega) (by omega)).sub (by repeat' (first | exact SubL.nil | refine SubL.cons ?_ ?_ | exact Sub.refl _ | (rw [DExpr.c_eq]; exact Sub.refl _) | exact Sub.ipAt rfl rfl rfl | exact Sub.ip (map_get (by omega)) (by simp) | exact Sub.ipAt (map_get (by omega)) rfl rfl | exact Sub.ip (by simp [*]) (by simp) | exact Sub.ipAt (by simp [*]) (by rfl) (by rfl)))) ?_ | refine HFnF.mk ((hc e.fKids[k] (List.getElem_mem hlt) (vars + 1) (by omega) (by omega)).sub (by repeat' (first | exact SubL.nil | refine SubL.cons ?_ ?_ | exact Sub.refl _ | (rw [DExpr.c_eq]; exact Sub.refl _) | exact Sub.ipAt rfl rfl rfl | exact Sub.ip (map_get (by omega)) (by simp) | exact Sub.ipAt (map_get (by omega)) rfl rfl | exact Sub.ip (by simp [*]) (by simp) | exact Sub.ipAt (by simp [*]) (by rfl) (by rfl)))) ?_
        simp (maxSteps := 1000000) -dsimp -implicitDefEqProofs only [go_sem, ↓reduceIte, keep114, ib114, mk114, Try.f114]
        repeat' (with_reducible first | intro _ | refine And.intro ?_ ?_)
        · exact no (by assumption)
        · refine ⟨k + 1, ?_⟩
          repeat' (with_reducible refine And.intro ?_ ?_)
          all_goals try (rw [IntWalk.i64_in _ (by omega)]; first | rfl | omega)
          all_goals try omega
          all_goals try (repeat' (with_reducible first | exact Heap.le_refl _ | refine (le_upd (by first | assumption | exact And.right (by assumption) | exact upd_none.2 (by assumption))).2 ?_))
          all_goals try (simp only [DExpr.c_eq, DProgram.c_eq]; done)
          exact nx (by assumption)
      all_goals
        have em : moreV e.fKind k vars = vars := if_neg (by omega)
        rw [em] at nx no
        first | refine CallSF.mk ((hc e.fKids[k] (List.getElem_mem hlt) vars (by omega) (by omega)).sub (by repeat' (first | exact SubL.nil | refine SubL.cons ?_ ?_ | exact Sub.refl _ | (rw [DExpr.c_eq]; exact Sub.refl _) | exact Sub.ipAt rfl rfl rfl | exact Sub.ip (map_get (by omega)) (by simp) | exact Sub.ipAt (map_get (by omega)) rfl rfl | exact Sub.ip (by simp [*]) (by simp) | exact Sub.ipAt (by simp [*]) (by rfl) (by rfl)))) ?_ | refine HFnF.mk ((hc e.fKids[k] (List.getElem_mem hlt) vars (by omega) (by omega)).sub (by repeat' (first | exact SubL.nil | refine SubL.cons ?_ ?_ | exact Sub.refl _ | (rw [DExpr.c_eq]; exact Sub.refl _) | exact Sub.ipAt rfl rfl rfl | exact Sub.ip (map_get (by omega)) (by simp) | exact Sub.ipAt (map_get (by omega)) rfl rfl | exact Sub.ip (by simp [*]) (by simp) | exact Sub.ipAt (by simp [*]) (by rfl) (by rfl)))) ?_
        simp (maxSteps := 1000000) -dsimp -implicitDefEqProofs only [go_sem, ↓reduceIte, keep114, ib114, mk114, Try.f114]
        repeat' (with_reducible first | intro _ | refine And.intro ?_ ?_)
        · exact no (by assumption)
        · refine ⟨k + 1, ?_⟩
          repeat' (with_reducible refine And.intro ?_ ?_)
          all_goals try (rw [IntWalk.i64_in _ (by omega)]; first | rfl | omega)
          all_goals try omega
          all_goals try (repeat' (with_reducible first | exact Heap.le_refl _ | refine (le_upd (by first | assumption | exact And.right (by assumption) | exact upd_none.2 (by assumption))).2 ?_))
          all_goals try (simp only [DExpr.c_eq, DProgram.c_eq]; done)
          exact nx (by assumption)
    · have hk' : k = e.fKids.length := by omega
      subst hk'
      simp (maxSteps := 1000000) -dsimp -implicitDefEqProofs only [go_sem, ↓reduceIte, keep114, ib114, mk114, Try.f114, Nat.lt_irrefl]
      exact fun _ => (decide_eq_true (hok.2 ⟨hn, fun j hj => hp j hj hj⟩)).symm
theorem l02Tree (p : DProgram) (e : DExpr) (vars funcs : Int) (hv : 0 ≤ vars) (hv2 : vars + e.s ≤ 4294967296) (hf0 : 0 ≤ funcs) (hf : funcs ≤ p.fFuncs.length) (hps : p.s ≤ 4294967296) :
    Fn0 Try.prog 114 [.ip 1 [p.c] 0 0, .ip 5 [e.c] 0 0, I vars, I funcs] (.bool (decide (e.ok p funcs vars))) :=
  l02Tree_step p e vars funcs hv hv2 hf0 hf hps fun y hy vars hv hv2 => l02Tree p y vars funcs hv hv2 hf0 hf hps
termination_by SizeOf.sizeOf e
decreasing_by exact DExpr.kid_lt hy
open Go.Proofs
set_option linter.unusedVariables false
set_option linter.unusedSimpArgs false
set_option maxHeartbeats 8000000 in
set_option maxRecDepth 100000 in
theorem isFormed_plain (p : DProgram) (e : DExpr) (vars funcs : Int) (hv : 0 ≤ vars) (hv2 : vars + e.s ≤ 4294967296) (hf0 : 0 ≤ funcs) (hf : funcs ≤ p.fFuncs.length) (hps : p.s ≤ 4294967296)
    (hc : ∀ y ∈ e.fKids, ∀ vars : Int, 0 ≤ vars → vars + y.s ≤ 4294967296 → Fn0 Try.prog 110 [.agg [sls 3 DFunc.c p.fFuncs, I funcs], .agg y.c, I vars] (.bool (decide (y.ok p funcs vars)))) (hk : ¬ (e.fKind = 10 ∨ e.fKind = 11)) :
    Fn0 Try.prog 110 [.agg [sls 3 DFunc.c p.fFuncs, I funcs], .agg e.c, I vars] (.bool (decide (e.ok p funcs vars))) := by
  have hok := DExpr.ok_iff p funcs e vars
  have hl := p.len_s
  have e1 : IntKind.i64.wrap (funcs - 1) = funcs - 1 := IntWalk.i64_in _ (by omega)
  have e2 : IntKind.i64.wrap (vars - 1) = vars - 1 := IntWalk.i64_in _ (by omega)
  simp only [DExpr.c_eq]
  have no1 (hk : ¬ (e.fKind = 10 ∨ e.fKind = 11)) (q : ¬ (kidsN e.fKind = e.fKids.length ∧ e.fPick = 0 ∧ e.fCount = 0 ∧ (e.fKind = 1 → Num e.fNum) ∧ (e.fKind = 2 → 0 ≤ e.fNum ∧ e.fNum ≤ vars - 1) ∧ (e.fKind ≠ 1 → e.fKind ≠ 2 → e.fNum = 0))) : false = decide (e.ok p funcs vars) :=
    (decide_eq_false fun z => q ((nodeOK_plain hk).1 (hok.1 z).1)).symm
  have yes1 (hk : ¬ (e.fKind = 10 ∨ e.fKind = 11)) (q : kidsN e.fKind = e.fKids.length ∧ e.fPick = 0 ∧ e.fCount = 0 ∧ (e.fKind = 1 → Num e.fNum) ∧ (e.fKind = 2 → 0 ≤ e.fNum ∧ e.fNum ≤ vars - 1) ∧ (e.fKind ≠ 1 → e.fKind ≠ 2 → e.fNum = 0)) : nodeOK p e vars funcs := (nodeOK_plain hk).2 q
  refine fn0F 177 keep110 ib110 mk110 mix Try.func110 rfl (by kernel_rfl) (by simp) fun h => ?_
  simp (maxSteps := 1000000) -dsimp -implicitDefEqProofs only [go_sem, ↓reduceIte, keep110, ib110, mk110, Try.f110, e1, e2]
  repeat' (with_reducible first | intro _ | refine And.intro ?_ ?_)
  all_goals try omega
  all_goals try (refine no1 (by omega) ?_; simp only [kidsN]; grind)
  · first | refine HFnF.mk (isNumber e.fNum) ?_ | refine CallSF.mk (isNumber e.fNum) ?_ | refine HFnF.mkAt (isNumber e.fNum) ?_ | refine CallSF.mk (FnAt.fn0 (isNumber e.fNum)) ?_
    simp (maxSteps := 1000000) -dsimp -implicitDefEqProofs only [go_sem, ↓reduceIte, keep110, ib110, mk110, Try.f110]
    rw [decide_eq_decide, hok, nodeOK_plain hk]
    have : e.fKids.length = 0 := by omega
    constructor
    · intro q
      exact ⟨by simp only [kidsN]; grind, fun k hk => by omega⟩
    · intro q
      grind
  · first | refine HFnF.mk (within e.fNum 0 (vars - 1)) ?_ | refine CallSF.mk (within e.fNum 0 (vars - 1)) ?_ | refine HFnF.mkAt (within e.fNum 0 (vars - 1)) ?_ | refine CallSF.mk (FnAt.fn0 (within e.fNum 0 (vars - 1))) ?_
    simp (maxSteps := 1000000) -dsimp -implicitDefEqProofs only [go_sem, ↓reduceIte, keep110, ib110, mk110, Try.f110]
    rw [decide_eq_decide, hok, nodeOK_plain hk]
    have : e.fKids.length = 0 := by omega
    constructor
    · intro q
      exact ⟨by simp only [kidsN]; grind, fun k hk => by omega⟩
    · intro q
      grind
  all_goals
    have hn := yes1 hk (by simp only [kidsN]; grind)
    clear no1 yes1
    refine loopF (keep := keep110) (ib := ib110) (mk := mk110) mix (by kernel_rfl) (fun k : Nat => [(2, I vars), (3, .ip 2 [[sls 3 DFunc.c p.fFuncs, I funcs]] 0 0), (4, .ip 5 [e.c] 0 0), (154, sls 5 DExpr.c e.fKids), (155, I e.fKids.length), (156, I k)]) (fun _ => h) (fun k => k ≤ e.fKids.length ∧ ∀ (j : Nat) (hj : j < e.fKids.length), j < k → e.fKids[j].ok p funcs (moreV e.fKind j vars)) (fun k => e.fKids.length - k) 0 (by refine ⟨by simp [SatL, tget, DExpr.c_eq], by repeat' (with_reducible first | exact Heap.le_refl _ | refine (le_upd (by first | assumption | exact And.right (by assumption) | exact upd_none.2 (by assumption))).2 ?_), by simp⟩) ?_
    intro k ⟨hk, hp⟩
    simp only [DExpr.c_eq]
    rcases Nat.lt_or_ge k e.fKids.length with hlt | hge
    · have hs1 := DExpr.kid_s (List.getElem_mem hlt)
      have nx (q : e.fKids[k].ok p funcs (moreV e.fKind k vars)) : ∀ (j : Nat) (hj : j < e.fKids.length), j < k + 1 → e.fKids[j].ok p funcs (moreV e.fKind j vars) := by
        intro j hj hjk
        rcases Nat.lt_succ_iff_lt_or_eq.1 hjk with h1 | rfl
        · exact hp j hj h1
        · exact q
      have no (q : ¬ e.fKids[k].ok p funcs (moreV e.fKind k vars)) : false = decide (e.ok p funcs vars) := (decide_eq_false fun z => q ((hok.1 z).2 k hlt)).symm
      have ea : e.fKids[k]? = some e.fKids[k] := List.getElem?_eq_getElem hlt
      rcases Decidable.em (e.fKind = 9 ∧ k = 1) with e9 | e9
      · have em : moreV e.fKind k vars = vars + 1 := if_pos e9
        rw [em] at nx no
        have hcy := hc e.fKids[k] (List.getElem_mem hlt) (vars + 1) (by omega) (by omega)
        simp only [DExpr.c_eq] at hcy
        simp (maxSteps := 1000000) -dsimp -implicitDefEqProofs only [go_sem, ↓reduceIte, keep110, ib110, mk110, Try.f110, ea, DExpr.c_eq, upd_upd]
        repeat' (with_reducible first | intro _ | refine And.intro ?_ ?_)
        all_goals try omega
        all_goals try simp (disch := omega) only [IntWalk.i64_in]
        all_goals (first | refine HFnF.mk (hcy) ?_ | refine CallSF.mk (hcy) ?_)
        all_goals simp (maxSteps := 1000000) -dsimp -implicitDefEqProofs only [go_sem, ↓reduceIte, keep110, ib110, mk110, Try.f110]
        all_goals repeat' (with_reducible first | intro _ | refine And.intro ?_ ?_)
        all_goals first | exact no (by assumption) | exact Heap.le_refl _ | skip
        all_goals try (exact (le_upd (by assumption)).2 (Heap.le_refl _))
        all_goals
          refine ⟨k + 1, ?_⟩
          repeat' (with_reducible refine And.intro ?_ ?_)
          all_goals try (rw [IntWalk.i64_in _ (by omega)]; first | rfl | omega)
          all_goals try omega
          all_goals try (repeat' (with_reducible first | exact Heap.le_refl _ | refine (le_upd (by first | assumption | exact And.right (by assumption) | exact upd_none.2 (by assumption))).2 ?_))
          all_goals try (simp only [DExpr.c_eq]; done)
          exact nx (by assumption)
      · have em : moreV e.fKind k vars = vars := if_neg e9
        rw [em] at nx no
        have hcy := hc e.fKids[k] (List.getElem_mem hlt) vars (by omega) (by omega)
        simp only [DExpr.c_eq] at hcy
        simp (maxSteps := 1000000) -dsimp -implicitDefEqProofs only [go_sem, ↓reduceIte, keep110, ib110, mk110, Try.f110, ea, DExpr.c_eq, upd_upd]
        repeat' (with_reducible first | intro _ | refine And.intro ?_ ?_)
        all_goals try omega
        all_goals (first | refine HFnF.mk (hcy) ?_ | refine CallSF.mk (hcy) ?_)
        all_goals simp (maxSteps := 1000000) -dsimp -implicitDefEqProofs only [go_sem, ↓reduceIte, keep110, ib110, mk110, Try.f110]
        all_goals repeat' (with_reducible first | intro _ | refine And.intro ?_ ?_)
        all_goals first | exact no (by assumption) | exact Heap.le_refl _ | skip
        all_goals try (exact (le_upd (by assumption)).2 (Heap.le_refl _))
        all_goals
          refine ⟨k + 1, ?_⟩
          repeat' (with_reducible refine And.intro ?_ ?_)
          all_goals try (rw [IntWalk.i64_in _ (by omega)]; first | rfl | omega)
          all_goals try omega
          all_goals try (repeat' (with_reducible first | exact Heap.le_refl _ | refine (le_upd (by first | assumption | exact And.right (by assumption) | exact upd_none.2 (by assumption))).2 ?_))
          all_goals try (simp only [DExpr.c_eq]; done)
          exact nx (by assumption)
    · have hk' : k = e.fKids.length := by omega
      subst hk'
      simp (maxSteps := 1000000) -dsimp -implicitDefEqProofs only [go_sem, ↓reduceIte, keep110, ib110, mk110, Try.f110, Nat.lt_irrefl]
      exact (decide_eq_true (hok.2 ⟨hn, fun j hj => hp j hj hj⟩)).symm
open Go.Proofs
set_option linter.unusedVariables false
set_option linter.unusedSimpArgs false
theorem no_call {p : DProgram} {e : DExpr} {vars funcs : Int} {f : DFunc} (hk : e.fKind = 10 ∨ e.fKind = 11) (ef : p.fFuncs[e.fNum.toNat]? = some f)
    (q : ¬ (0 ≤ e.fPick ∧ e.fPick ≤ (f.fOuts.length : Int) - 1 ∧ (e.fKids.length : Int) = f.fParams ∧ (e.fKind = 10 → e.fCount = 0) ∧ (e.fKind = 11 → 0 ≤ e.fCount ∧ e.fCount ≤ 8 ∧ (f.fOuts.length : Int) = f.fParams))) : false = decide (e.ok p funcs vars) :=
  (decide_eq_false fun z => q ((nodeOK_call hk ef).1 ((DExpr.ok_iff _ _ _ _).1 z).1).2.2).symm
theorem no_range {p : DProgram} {e : DExpr} {vars funcs : Int} (hk : e.fKind = 10 ∨ e.fKind = 11) (q : ¬ (0 ≤ e.fNum ∧ e.fNum ≤ funcs - 1)) : false = decide (e.ok p funcs vars) :=
  (decide_eq_false fun z => nodeOK_range hk q ((DExpr.ok_iff _ _ _ _).1 z).1).symm
set_option maxHeartbeats 8000000 in
set_option maxRecDepth 100000 in
theorem isFormed_10 (p : DProgram) (e : DExpr) (vars funcs : Int) (hv : 0 ≤ vars) (hv2 : vars + e.s ≤ 4294967296) (hf0 : 0 ≤ funcs) (hf : funcs ≤ p.fFuncs.length) (hps : p.s ≤ 4294967296)
    (hc : ∀ y ∈ e.fKids, ∀ vars : Int, 0 ≤ vars → vars + y.s ≤ 4294967296 → Fn0 Try.prog 110 [.agg [sls 3 DFunc.c p.fFuncs, I funcs], .agg y.c, I vars] (.bool (decide (y.ok p funcs vars)))) (hk : e.fKind = 10) :
    Fn0 Try.prog 110 [.agg [sls 3 DFunc.c p.fFuncs, I funcs], .agg e.c, I vars] (.bool (decide (e.ok p funcs vars))) := by
  have hl := p.len_s
  have e1 : IntKind.i64.wrap (funcs - 1) = funcs - 1 := IntWalk.i64_in _ (by omega)
  simp only [DExpr.c_eq]
  by_cases hr : 0 ≤ e.fNum ∧ e.fNum ≤ funcs - 1
  · obtain ⟨f, ef⟩ : ∃ f, p.fFuncs[e.fNum.toNat]? = some f := ⟨_, List.getElem?_eq_getElem (by omega)⟩
    have hfs := DProgram.func_s (List.mem_of_getElem? ef)
    have hos := f.outs_s
    have e3 : IntKind.i64.wrap ((f.fOuts.length : Int) - 1) = f.fOuts.length - 1 := IntWalk.i64_in _ (by omega)
    refine fn0F 177 keep110 ib110 mk110 mix Try.func110 rfl (by kernel_rfl) (by simp) fun h => ?_
    simp (maxSteps := 1000000) -dsimp -implicitDefEqProofs only [go_sem, ↓reduceIte, keep110, ib110, mk110, Try.f110, e1, e3, hk]
    repeat' (with_reducible first | intro _ | refine And.intro ?_ ?_)
    all_goals try omega
    all_goals (first | refine HFnF.mk (within e.fNum 0 (funcs - 1)) ?_ | refine CallSF.mk (within e.fNum 0 (funcs - 1)) ?_)
    all_goals simp (maxSteps := 1000000) -dsimp -implicitDefEqProofs only [go_sem, ↓reduceIte, keep110, ib110, mk110, Try.f110, ef, DFunc.c_eq, upd_upd, hk, e3]
    all_goals repeat' (with_reducible first | intro _ | refine And.intro ?_ ?_)
    all_goals try omega
    all_goals try (refine no_call (by omega) ef ?_; omega)
    all_goals try (repeat' (with_reducible first | exact Heap.le_refl _ | refine (le_upd (by first | assumption | exact And.right (by assumption) | exact upd_none.2 (by assumption))).2 ?_))
    all_goals (first | refine HFnF.mk (within e.fPick 0 (f.fOuts.length - 1)) ?_ | refine CallSF.mk (within e.fPick 0 (f.fOuts.length - 1)) ?_)
    all_goals simp (maxSteps := 1000000) -dsimp -implicitDefEqProofs only [go_sem, ↓reduceIte, keep110, ib110, mk110, Try.f110, ef, DFunc.c_eq, upd_upd, hk]
    all_goals repeat' (with_reducible first | intro _ | refine And.intro ?_ ?_)
    all_goals try omega
    all_goals try (refine no_call (by omega) ef ?_; omega)
    all_goals try (repeat' (with_reducible first | exact Heap.le_refl _ | refine (le_upd (by first | assumption | exact And.right (by assumption) | exact upd_none.2 (by assumption))).2 ?_))
    all_goals
      have hn : nodeOK p e vars funcs := (nodeOK_call (by omega) ef).2 (by omega)
      have hok := DExpr.ok_iff p funcs e vars
      clear hr hfs hos ef
      refine loopF (keep := keep110) (ib := ib110) (mk := mk110) mix (by kernel_rfl) (fun k : Nat => [(2, I vars), (3, .ip 2 [[sls 3 DFunc.c p.fFuncs, I funcs]] 0 0), (4, .ip 5 [e.c] 0 0), (154, sls 5 DExpr.c e.fKids), (155, I e.fKids.length), (156, I k)]) (fun _ => h) (fun k => k ≤ e.fKids.length ∧ ∀ (j : Nat) (hj : j < e.fKids.length), j < k → e.fKids[j].ok p funcs vars) (fun k => e.fKids.length - k) 0 (by refine ⟨by simp [SatL, tget, DExpr.c_eq, hk], by repeat' (with_reducible first | exact Heap.le_refl _ | refine (le_upd (by first | assumption | exact And.right (by assumption) | exact upd_none.2 (by assumption))).2 ?_), by simp⟩) ?_
      intro k ⟨hk', hp⟩
      simp only [DExpr.c_eq]
      rcases Nat.lt_or_ge k e.fKids.length with hlt | hge
      · have hs1 := DExpr.kid_s (List.getElem_mem hlt)
        have nx (q : e.fKids[k].ok p funcs vars) : ∀ (j : Nat) (hj : j < e.fKids.length), j < k + 1 → e.fKids[j].ok p funcs vars := by
          intro j hj hjk
          rcases Nat.lt_succ_iff_lt_or_eq.1 hjk with h1 | rfl
          · exact hp j hj h1
          · exact q
        have no (q : ¬ e.fKids[k].ok p funcs vars) : false = decide (e.ok p funcs vars) := (decide_eq_false fun z => q (by have := (hok.1 z).2 k hlt; rwa [show moreV e.fKind k vars = vars from if_neg (by omega)] at this)).symm
        have ea : e.fKids[k]? = some e.fKids[k] := List.getElem?_eq_getElem hlt
        have hcy := hc e.fKids[k] (List.getElem_mem hlt) vars (by omega) (by omega)
        simp only [DExpr.c_eq] at hcy
        simp (maxSteps := 1000000) -dsimp -implicitDefEqProofs only [go_sem, ↓reduceIte, keep110, ib110, mk110, Try.f110, ea, DExpr.c_eq, upd_upd, hk]
        repeat' (with_reducible first | intro _ | refine And.intro ?_ ?_)
        all_goals try omega
        first | refine HFnF.mk (hcy) ?_ | refine CallSF.mk (hcy) ?_ | refine HFnF.mkAt (hcy) ?_ | refine CallSF.mk (FnAt.fn0 (hcy)) ?_
        simp (maxSteps := 1000000) -dsimp -implicitDefEqProofs only [go_sem, ↓reduceIte, keep110, ib110, mk110, Try.f110]
        repeat' (with_reducible first | intro _ | refine And.intro ?_ ?_)
        all_goals first | exact no (by assumption) | skip
        all_goals try (repeat' (with_reducible first | exact Heap.le_refl _ | refine (le_upd (by first | assumption | exact And.right (by assumption) | exact upd_none.2 (by assumption))).2 ?_))
        refine ⟨k + 1, ?_⟩
        repeat' (with_reducible refine And.intro ?_ ?_)
        all_goals try (rw [IntWalk.i64_in _ (by omega)]; first | rfl | omega)
        all_goals try omega
        all_goals try (repeat' (with_reducible first | exact Heap.le_refl _ | refine (le_upd (by first | assumption | exact And.right (by assumption) | exact upd_none.2 (by assumption))).2 ?_))
        all_goals try (simp only [DExpr.c_eq, hk]; done)
        exact nx (by assumption)
      · have hk'' : k = e.fKids.length := by omega
        subst hk''
        simp (maxSteps := 1000000) -dsimp -implicitDefEqProofs only [go_sem, ↓reduceIte, keep110, ib110, mk110, Try.f110, Nat.lt_irrefl]
        exact (decide_eq_true (hok.2 ⟨hn, fun j hj => by rw [show moreV e.fKind j vars = vars from if_neg (by omega)]; exact hp j hj hj⟩)).symm
  · refine fn0F 177 keep110 ib110 mk110 mix Try.func110 rfl (by kernel_rfl) (by simp) fun h => ?_
    simp (maxSteps := 1000000) -dsimp -implicitDefEqProofs only [go_sem, ↓reduceIte, keep110, ib110, mk110, Try.f110, e1, hk]
    repeat' (with_reducible first | intro _ | refine And.intro ?_ ?_)
    all_goals try omega
    all_goals (first | refine HFnF.mk (within e.fNum 0 (funcs - 1)) ?_ | refine CallSF.mk (within e.fNum 0 (funcs - 1)) ?_)
    all_goals simp (maxSteps := 1000000) -dsimp -implicitDefEqProofs only [go_sem, ↓reduceIte, keep110, ib110, mk110, Try.f110]
    all_goals repeat' (with_reducible first | intro _ | refine And.intro ?_ ?_)
    all_goals try omega
    all_goals exact no_range (by omega) hr
set_option maxHeartbeats 8000000 in
set_option maxRecDepth 100000 in
theorem isFormed_11 (p : DProgram) (e : DExpr) (vars funcs : Int) (hv : 0 ≤ vars) (hv2 : vars + e.s ≤ 4294967296) (hf0 : 0 ≤ funcs) (hf : funcs ≤ p.fFuncs.length) (hps : p.s ≤ 4294967296)
    (hc : ∀ y ∈ e.fKids, ∀ vars : Int, 0 ≤ vars → vars + y.s ≤ 4294967296 → Fn0 Try.prog 110 [.agg [sls 3 DFunc.c p.fFuncs, I funcs], .agg y.c, I vars] (.bool (decide (y.ok p funcs vars)))) (hk : e.fKind = 11) :
    Fn0 Try.prog 110 [.agg [sls 3 DFunc.c p.fFuncs, I funcs], .agg e.c, I vars] (.bool (decide (e.ok p funcs vars))) := by
  have hl := p.len_s
  have e1 : IntKind.i64.wrap (funcs - 1) = funcs - 1 := IntWalk.i64_in _ (by omega)
  simp only [DExpr.c_eq]
  by_cases hr : 0 ≤ e.fNum ∧ e.fNum ≤ funcs - 1
  · obtain ⟨f, ef⟩ : ∃ f, p.fFuncs[e.fNum.toNat]? = some f := ⟨_, List.getElem?_eq_getElem (by omega)⟩
    have hfs := DProgram.func_s (List.mem_of_getElem? ef)
    have hos := f.outs_s
    have e3 : IntKind.i64.wrap ((f.fOuts.length : Int) - 1) = f.fOuts.length - 1 := IntWalk.i64_in _ (by omega)
    refine fn0F 177 keep110 ib110 mk110 mix Try.func110 rfl (by kernel_rfl) (by simp) fun h => ?_
    simp (maxSteps := 1000000) -dsimp -implicitDefEqProofs only [go_sem, ↓reduceIte, keep110, ib110, mk110, Try.f110, e1, e3, hk]
    repeat' (with_reducible first | intro _ | refine And.intro ?_ ?_)
    all_goals try omega
    all_goals (first | refine HFnF.mk (within e.fNum 0 (funcs - 1)) ?_ | refine CallSF.mk (within e.fNum 0 (funcs - 1)) ?_)
    all_goals simp (maxSteps := 1000000) -dsimp -implicitDefEqProofs only [go_sem, ↓reduceIte, keep110, ib110, mk110, Try.f110, ef, DFunc.c_eq, upd_upd, hk, e3]
    all_goals repeat' (with_reducible first | intro _ | refine And.intro ?_ ?_)
    all_goals try omega
    all_goals try (refine no_call (by omega) ef ?_; omega)
    all_goals try (repeat' (with_reducible first | exact Heap.le_refl _ | refine (le_upd (by first | assumption | exact And.right (by assumption) | exact upd_none.2 (by assumption))).2 ?_))
    all_goals (first | refine HFnF.mk (within e.fPick 0 (f.fOuts.length - 1)) ?_ | refine CallSF.mk (within e.fPick 0 (f.fOuts.length - 1)) ?_)
    all_goals simp (maxSteps := 1000000) -dsimp -implicitDefEqProofs only [go_sem, ↓reduceIte, keep110, ib110, mk110, Try.f110, ef, DFunc.c_eq, upd_upd, hk]
    all_goals repeat' (with_reducible first | intro _ | refine And.intro ?_ ?_)
    all_goals try omega
    all_goals try (refine no_call (by omega) ef ?_; omega)
    all_goals try (repeat' (with_reducible first | exact Heap.le_refl _ | refine (le_upd (by first | assumption | exact And.right (by assumption) | exact upd_none.2 (by assumption))).2 ?_))
    all_goals (first | refine HFnF.mk (within e.fCount 0 8) ?_ | refine CallSF.mk (within e.fCount 0 8) ?_)
    all_goals simp (maxSteps := 1000000) -dsimp -implicitDefEqProofs only [go_sem, ↓reduceIte, keep110, ib110, mk110, Try.f110, upd_upd, hk]
    all_goals repeat' (with_reducible first | intro _ | refine And.intro ?_ ?_)
    all_goals try (refine no_call (by omega) ef ?_; omega)
    all_goals try (repeat' (with_reducible first | exact Heap.le_refl _ | refine (le_upd (by first | assumption | exact And.right (by assumption) | exact upd_none.2 (by assumption))).2 ?_))
    all_goals
      have hn : nodeOK p e vars funcs := (nodeOK_call (by omega) ef).2 (by omega)
      have hok := DExpr.ok_iff p funcs e vars
      clear hr hfs hos ef
      refine loopF (keep := keep110) (ib := ib110) (mk := mk110) mix (by kernel_rfl) (fun k : Nat => [(2, I vars), (3, .ip 2 [[sls 3 DFunc.c p.fFuncs, I funcs]] 0 0), (4, .ip 5 [e.c] 0 0), (154, sls 5 DExpr.c e.fKids), (155, I e.fKids.length), (156, I k)]) (fun _ => h) (fun k => k ≤ e.fKids.length ∧ ∀ (j : Nat) (hj : j < e.fKids.length), j < k → e.fKids[j].ok p funcs vars) (fun k => e.fKids.length - k) 0 (by refine ⟨by simp [SatL, tget, DExpr.c_eq, hk], by repeat' (with_reducible first | exact Heap.le_refl _ | refine (le_upd (by first | assumption | exact And.right (by assumption) | exact upd_none.2 (by assumption))).2 ?_), by simp⟩) ?_
      intro k ⟨hk', hp⟩
      simp only [DExpr.c_eq]
      rcases Nat.lt_or_ge k e.fKids.length with hlt | hge
      · have hs1 := DExpr.kid_s (List.getElem_mem hlt)
        have nx (q : e.fKids[k].ok p funcs vars) : ∀ (j : Nat) (hj : j < e.fKids.length), j < k + 1 → e.fKids[j].ok p funcs vars := by
          intro j hj hjk
          rcases Nat.lt_succ_iff_lt_or_eq.1 hjk with h1 | rfl
          · exact hp j hj h1
          · exact q
        have no (q : ¬ e.fKids[k].ok p funcs vars) : false = decide (e.ok p funcs vars) := (decide_eq_false fun z => q (by have := (hok.1 z).2 k hlt; rwa [show moreV e.fKind k vars = vars from if_neg (by omega)] at this)).symm
        have ea : e.fKids[k]? = some e.fKids[k] := List.getElem?_eq_getElem hlt
        have hcy := hc e.fKids[k] (List.getElem_mem hlt) vars (by omega) (by omega)
        simp only [DExpr.c_eq] at hcy
        simp (maxSteps := 1000000) -dsimp -implicitDefEqProofs only [go_sem, ↓reduceIte, keep110, ib110, mk110, Try.f110, ea, DExpr.c_eq, upd_upd, hk]
        repeat' (with_reducible first | intro _ | refine And.intro ?_ ?_)
        all_goals try omega
        first | refine HFnF.mk (hcy) ?_ | refine CallSF.mk (hcy) ?_ | refine HFnF.mkAt (hcy) ?_ | refine CallSF.mk (FnAt.fn0 (hcy)) ?_
        simp (maxSteps := 1000000) -dsimp -implicitDefEqProofs only [go_sem, ↓reduceIte, keep110, ib110, mk110, Try.f110]
        repeat' (with_reducible first | intro _ | refine And.intro ?_ ?_)
        all_goals first | exact no (by assumption) | skip
        all_goals try (repeat' (with_reducible first | exact Heap.le_refl _ | refine (le_upd (by first | assumption | exact And.right (by assumption) | exact upd_none.2 (by assumption))).2 ?_))
        refine ⟨k + 1, ?_⟩
        repeat' (with_reducible refine And.intro ?_ ?_)
        all_goals try (rw [IntWalk.i64_in _ (by omega)]; first | rfl | omega)
        all_goals try omega
        all_goals try (repeat' (with_reducible first | exact Heap.le_refl _ | refine (le_upd (by first | assumption | exact And.right (by assumption) | exact upd_none.2 (by assumption))).2 ?_))
        all_goals try (simp only [DExpr.c_eq, hk]; done)
        exact nx (by assumption)
      · have hk'' : k = e.fKids.length := by omega
        subst hk''
        simp (maxSteps := 1000000) -dsimp -implicitDefEqProofs only [go_sem, ↓reduceIte, keep110, ib110, mk110, Try.f110, Nat.lt_irrefl]
        exact (decide_eq_true (hok.2 ⟨hn, fun j hj => by rw [show moreV e.fKind j vars = vars from if_neg (by omega)]; exact hp j hj hj⟩)).symm
  · refine fn0F 177 keep110 ib110 mk110 mix Try.func110 rfl (by kernel_rfl) (by simp) fun h => ?_
    simp (maxSteps := 1000000) -dsimp -implicitDefEqProofs only [go_sem, ↓reduceIte, keep110, ib110, mk110, Try.f110, e1, hk]
    repeat' (with_reducible first | intro _ | refine And.intro ?_ ?_)
    all_goals try omega
    all_goals (first | refine HFnF.mk (within e.fNum 0 (funcs - 1)) ?_ | refine CallSF.mk (within e.fNum 0 (funcs - 1)) ?_)
    all_goals simp (maxSteps := 1000000) -dsimp -implicitDefEqProofs only [go_sem, ↓reduceIte, keep110, ib110, mk110, Try.f110]
    all_goals repeat' (with_reducible first | intro _ | refine And.intro ?_ ?_)
    all_goals try omega
    all_goals exact no_range (by omega) hr
open Go.Proofs
set_option linter.unusedVariables false
set_option linter.unusedSimpArgs false
theorem isFormed (p : DProgram) (e : DExpr) (vars funcs : Int) (hv : 0 ≤ vars) (hv2 : vars + e.s ≤ 4294967296) (hf0 : 0 ≤ funcs) (hf : funcs ≤ p.fFuncs.length) (hps : p.s ≤ 4294967296) :
    Fn0 Try.prog 110 [.agg [sls 3 DFunc.c p.fFuncs, I funcs], .agg e.c, I vars] (.bool (decide (e.ok p funcs vars))) := by
  by_cases h1 : e.fKind = 10
  · exact isFormed_10 p e vars funcs hv hv2 hf0 hf hps (fun y hy vars hv hv2 => isFormed p y vars funcs hv hv2 hf0 hf hps) h1
  · by_cases h2 : e.fKind = 11
    · exact isFormed_11 p e vars funcs hv hv2 hf0 hf hps (fun y hy vars hv hv2 => isFormed p y vars funcs hv hv2 hf0 hf hps) h2
    · exact isFormed_plain p e vars funcs hv hv2 hf0 hf hps (fun y hy vars hv hv2 => isFormed p y vars funcs hv hv2 hf0 hf hps) (fun q => q.elim h1 h2)
termination_by SizeOf.sizeOf e
decreasing_by all_goals exact DExpr.kid_lt hy

end Go.Hl

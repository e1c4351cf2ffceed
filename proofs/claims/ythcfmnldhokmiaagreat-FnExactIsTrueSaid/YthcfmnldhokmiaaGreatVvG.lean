/-
  Contracts of functions and laws of the layer over the walk.
-/
import Derived.Test.YthcfmnldhokmiaaGreatVvA
import Derived.Test.YthcfmnldhokmiaaGreatVvF
import Derived.Test.YthcfmnldhokmiaaGreatVvB
namespace Go.Hl
open Go.Proofs
set_option linter.unusedVariables false
set_option linter.unusedSimpArgs false


def keep246 : List Nat := [0, 1, 4, 5, 10, 14, 26]
def ib246 : List Nat := []
def mk246 : Marks := fun id => match id with | 6 => ([], (.op 0 (.op 1 (.op 2 (.op 3 (.op 4 (.op 5 (.op 6 (.op 7 (.op 8 (.op 9 .nil)))))))))), []) | _ => ([], .nil, [])
set_option maxRecDepth 100000 in
theorem eq_ExprS (a b : List DExpr) (hc : ∀ x ∈ a, ∀ y, Fn0 Tryz.prog 282 [(.agg (DExpr.c x)), (.agg (DExpr.c y))] (.bool (decide (x = y)))) : Fn0 Tryz.prog 246 [(sls 5 DExpr.c a), (sls 5 DExpr.c b)] (.bool (decide (a = b))) := by
  refine fn0F 27 keep246 ib246 mk246 mix Tryz.func246 rfl (by kernel_rfl) (by simp) fun h => ?_
  simp -dsimp -implicitDefEqProofs only [go_sem, Tryz.f246, ↓reduceIte, keep246, ib246, mk246]
  refine fun _ _ => ⟨fun hne => ?_, fun heq => ?_⟩
  · exact (decide_eq_false fun e => hne (by rw [e])).symm
  · refine loopF (keep := keep246) (ib := ib246) (mk := mk246) mix (by kernel_rfl) (fun k : Nat => [(0, (sls 5 DExpr.c a)), (1, (sls 5 DExpr.c b)), (5, I k)]) (fun _ => h) (fun k => k ≤ a.length ∧ a.take k = b.take k) (fun k => a.length - k) 0 (by simp [SatL, tget, Heap.le_refl]) ?_
    intro k ⟨hk, hp⟩
    rcases Nat.lt_or_ge k a.length with hlt | hge
    · have hlb : k < b.length := by omega
      have ea : a[k]? = some a[k] := List.getElem?_eq_getElem hlt
      have eb : b[k]? = some b[k] := List.getElem?_eq_getElem hlb
      simp -dsimp -implicitDefEqProofs only [go_sem, ↓reduceIte, keep246, ib246, mk246, Tryz.f246, ea, eb, DExpr.c_eq]
      refine fun _ => ⟨fun _ => ⟨hlt, hlb, ?_⟩, fun hn => absurd hlt hn⟩
      have hx := hc a[k] (List.getElem_mem hlt) b[k]
      simp only [DExpr.c_eq] at hx
      refine CallSF.mk hx ?_
      by_cases he : a[k] = b[k]
      · have d := decide_eq_true he
        simp -dsimp -implicitDefEqProofs only [go_sem, ↓reduceIte, keep246, ib246, mk246, Tryz.f246, d]
        exact ⟨k + 1, by rw [IntWalk.i64_in _ (by omega)]; rfl, ⟨by omega, take_step hlt hlb hp he⟩, by omega⟩
      · have d := decide_eq_false he
        simp -dsimp -implicitDefEqProofs only [go_sem, ↓reduceIte, keep246, ib246, mk246, Tryz.f246, d]
        exact (decide_eq_false fun e => he (getElem_of_eq e hlt)).symm
    · have hk' : k = a.length := by omega
      subst hk'
      simp -dsimp -implicitDefEqProofs only [go_sem, ↓reduceIte, keep246, ib246, mk246, Tryz.f246, Nat.lt_irrefl]
      exact fun _ => (decide_eq_true (eq_of_take heq hp)).symm

def keep282 : List Nat := [0, 1, 2, 3, 4, 9, 14, 19, 24, 30]
def ib282 : List Nat := [2, 3]
def mk282 : Marks := fun _ => ([], .nil, [])
set_option maxRecDepth 100000 in
theorem eq_Expr_step (a b : DExpr) (hk : Fn0 Tryz.prog 246 [(sls 5 DExpr.c a.fKids), (sls 5 DExpr.c b.fKids)] (.bool (decide (a.fKids = b.fKids)))) : Fn0 Tryz.prog 282 [.agg a.c, .agg b.c] (.bool (decide (a = b))) := by
  simp only [DExpr.c_eq]
  refine fn0F 31 keep282 ib282 mk282 mix Tryz.func282 rfl (by kernel_rfl) (by simp) fun h => ?_
  simp -dsimp -implicitDefEqProofs only [go_sem, Tryz.f282, ↓reduceIte, keep282, ib282, mk282]
  refine ⟨fun hn => (decide_eq_false fun e => hn (by rw [e])).symm, fun efKind => ?_⟩
  refine ⟨fun hn => (decide_eq_false fun e => hn (by rw [e])).symm, fun efNum => ?_⟩
  refine ⟨fun hn => (decide_eq_false fun e => hn (by rw [e])).symm, fun efPick => ?_⟩
  refine ⟨fun hn => (decide_eq_false fun e => hn (by rw [e])).symm, fun efCount => ?_⟩
  refine HFnF.mk hk ?_
  by_cases efKids : a.fKids = b.fKids
  case neg =>
    have d := decide_eq_false efKids
    simp -dsimp -implicitDefEqProofs only [go_sem, ↓reduceIte, keep282, ib282, mk282, Tryz.f282, d]
    exact (decide_eq_false fun e => efKids (by rw [e])).symm
  have dfKids := decide_eq_true efKids
  simp -dsimp -implicitDefEqProofs only [go_sem, ↓reduceIte, keep282, ib282, mk282, Tryz.f282, dfKids]
  exact (decide_eq_true (DExpr.eq_iff.2 ⟨efKind, efNum, efPick, efCount, efKids⟩)).symm
theorem eq_Expr (a b : DExpr) : Fn0 Tryz.prog 282 [.agg a.c, .agg b.c] (.bool (decide (a = b))) :=
  eq_Expr_step a b (eq_ExprS a.fKids b.fKids fun x hx y => eq_Expr x y)
termination_by SizeOf.sizeOf a
decreasing_by exact DExpr.kid_lt hx

def keep178 : List Nat := [0, 1, 2, 3, 4, 9, 14, 20]
def ib178 : List Nat := [2, 3]
def mk178 : Marks := fun _ => ([], .nil, [])
set_option maxRecDepth 100000 in
theorem eq_Func (a b : DFunc) : Fn0 Tryz.prog 178 [.agg a.c, .agg b.c] (.bool (decide (a = b))) := by
  simp only [DFunc.c_eq]
  refine fn0F 21 keep178 ib178 mk178 mix Tryz.func178 rfl (by kernel_rfl) (by simp) fun h => ?_
  simp -dsimp -implicitDefEqProofs only [go_sem, Tryz.f178, ↓reduceIte, keep178, ib178, mk178]
  refine ⟨fun hn => (decide_eq_false fun e => hn (by rw [e])).symm, fun efName => ?_⟩
  refine ⟨fun hn => (decide_eq_false fun e => hn (by rw [e])).symm, fun efParams => ?_⟩
  refine HFnF.mk (eq_ExprS a.fOuts b.fOuts (fun x _ y => (eq_Expr x y))) ?_
  by_cases efOuts : a.fOuts = b.fOuts
  case neg =>
    have d := decide_eq_false efOuts
    simp -dsimp -implicitDefEqProofs only [go_sem, ↓reduceIte, keep178, ib178, mk178, Tryz.f178, d]
    exact (decide_eq_false fun e => efOuts (by rw [e])).symm
  have dfOuts := decide_eq_true efOuts
  simp -dsimp -implicitDefEqProofs only [go_sem, ↓reduceIte, keep178, ib178, mk178, Tryz.f178, dfOuts]
  exact (decide_eq_true (DFunc.eq_iff.2 ⟨efName, efParams, efOuts⟩)).symm

def keep93 : List Nat := [0, 1, 4, 5, 10, 14, 26]
def ib93 : List Nat := []
def mk93 : Marks := fun id => match id with | 6 => ([], (.op 0 (.op 1 (.op 2 (.op 3 (.op 4 (.op 5 (.op 6 (.op 7 (.op 8 (.op 9 .nil)))))))))), []) | _ => ([], .nil, [])
set_option maxRecDepth 100000 in
theorem eq_FuncS (a b : List DFunc) (hc : ∀ x ∈ a, ∀ y, Fn0 Tryz.prog 178 [(.agg (DFunc.c x)), (.agg (DFunc.c y))] (.bool (decide (x = y)))) : Fn0 Tryz.prog 93 [(sls 3 DFunc.c a), (sls 3 DFunc.c b)] (.bool (decide (a = b))) := by
  refine fn0F 27 keep93 ib93 mk93 mix Tryz.func93 rfl (by kernel_rfl) (by simp) fun h => ?_
  simp -dsimp -implicitDefEqProofs only [go_sem, Tryz.f93, ↓reduceIte, keep93, ib93, mk93]
  refine fun _ _ => ⟨fun hne => ?_, fun heq => ?_⟩
  · exact (decide_eq_false fun e => hne (by rw [e])).symm
  · refine loopF (keep := keep93) (ib := ib93) (mk := mk93) mix (by kernel_rfl) (fun k : Nat => [(0, (sls 3 DFunc.c a)), (1, (sls 3 DFunc.c b)), (5, I k)]) (fun _ => h) (fun k => k ≤ a.length ∧ a.take k = b.take k) (fun k => a.length - k) 0 (by simp [SatL, tget, Heap.le_refl]) ?_
    intro k ⟨hk, hp⟩
    rcases Nat.lt_or_ge k a.length with hlt | hge
    · have hlb : k < b.length := by omega
      have ea : a[k]? = some a[k] := List.getElem?_eq_getElem hlt
      have eb : b[k]? = some b[k] := List.getElem?_eq_getElem hlb
      simp -dsimp -implicitDefEqProofs only [go_sem, ↓reduceIte, keep93, ib93, mk93, Tryz.f93, ea, eb, DFunc.c_eq]
      refine fun _ => ⟨fun _ => ⟨hlt, hlb, ?_⟩, fun hn => absurd hlt hn⟩
      have hx := hc a[k] (List.getElem_mem hlt) b[k]
      simp only [DFunc.c_eq] at hx
      refine CallSF.mk hx ?_
      by_cases he : a[k] = b[k]
      · have d := decide_eq_true he
        simp -dsimp -implicitDefEqProofs only [go_sem, ↓reduceIte, keep93, ib93, mk93, Tryz.f93, d]
        exact ⟨k + 1, by rw [IntWalk.i64_in _ (by omega)]; rfl, ⟨by omega, take_step hlt hlb hp he⟩, by omega⟩
      · have d := decide_eq_false he
        simp -dsimp -implicitDefEqProofs only [go_sem, ↓reduceIte, keep93, ib93, mk93, Tryz.f93, d]
        exact (decide_eq_false fun e => he (getElem_of_eq e hlt)).symm
    · have hk' : k = a.length := by omega
      subst hk'
      simp -dsimp -implicitDefEqProofs only [go_sem, ↓reduceIte, keep93, ib93, mk93, Tryz.f93, Nat.lt_irrefl]
      exact fun _ => (decide_eq_true (eq_of_take heq hp)).symm

def keep37 : List Nat := [0, 1, 2, 3, 4, 10]
def ib37 : List Nat := [2, 3]
def mk37 : Marks := fun _ => ([], .nil, [])
set_option maxRecDepth 100000 in
theorem eq_Program (a b : DProgram) : Fn0 Tryz.prog 37 [.agg a.c, .agg b.c] (.bool (decide (a = b))) := by
  simp only [DProgram.c_eq]
  refine fn0F 11 keep37 ib37 mk37 mix Tryz.func37 rfl (by kernel_rfl) (by simp) fun h => ?_
  simp -dsimp -implicitDefEqProofs only [go_sem, Tryz.f37, ↓reduceIte, keep37, ib37, mk37]
  refine HFnF.mk (eq_FuncS a.fFuncs b.fFuncs (fun x _ y => (eq_Func x y))) ?_
  by_cases efFuncs : a.fFuncs = b.fFuncs
  case neg =>
    have d := decide_eq_false efFuncs
    simp -dsimp -implicitDefEqProofs only [go_sem, ↓reduceIte, keep37, ib37, mk37, Tryz.f37, d]
    exact (decide_eq_false fun e => efFuncs (by rw [e])).symm
  have dfFuncs := decide_eq_true efFuncs
  simp -dsimp -implicitDefEqProofs only [go_sem, ↓reduceIte, keep37, ib37, mk37, Tryz.f37, dfFuncs]
  exact (decide_eq_true (DProgram.eq_iff.2 efFuncs)).symm

def keep21 : List Nat := [0, 1, 4, 5, 10, 14, 25]
def ib21 : List Nat := []
def mk21 : Marks := fun id => match id with | 6 => ([], (.op 0 (.op 1 (.op 2 (.op 3 (.op 4 (.op 5 (.op 6 (.op 7 (.op 8 .nil))))))))), []) | _ => ([], .nil, [])
set_option maxRecDepth 100000 in
theorem eq_Int64S (a b : List Int) : Fn0 Tryz.prog 21 [(sls 1 (fun n => [I n]) a), (sls 1 (fun n => [I n]) b)] (.bool (decide (a = b))) := by
  refine fn0F 26 keep21 ib21 mk21 mix Tryz.func21 rfl (by kernel_rfl) (by simp) fun h => ?_
  simp -dsimp -implicitDefEqProofs only [go_sem, Tryz.f21, ↓reduceIte, keep21, ib21, mk21]
  refine fun _ _ => ⟨fun hne => ?_, fun heq => ?_⟩
  · exact (decide_eq_false fun e => hne (by rw [e])).symm
  · refine loopF (keep := keep21) (ib := ib21) (mk := mk21) mix (by kernel_rfl) (fun k : Nat => [(0, (sls 1 (fun n => [I n]) a)), (1, (sls 1 (fun n => [I n]) b)), (5, I k)]) (fun _ => h) (fun k => k ≤ a.length ∧ a.take k = b.take k) (fun k => a.length - k) 0 (by simp [SatL, tget, Heap.le_refl]) ?_
    intro k ⟨hk, hp⟩
    rcases Nat.lt_or_ge k a.length with hlt | hge
    · have hlb : k < b.length := by omega
      have ea : a[k]? = some a[k] := List.getElem?_eq_getElem hlt
      have eb : b[k]? = some b[k] := List.getElem?_eq_getElem hlb
      simp -dsimp -implicitDefEqProofs only [go_sem, ↓reduceIte, keep21, ib21, mk21, Tryz.f21, ea, eb]
      refine fun _ => ⟨fun _ => ⟨hlt, hlb, fun hne => ?_, fun he => ?_⟩, fun hn => absurd hlt hn⟩
      · first
          | exact (decide_eq_false fun e => hne (getElem_of_eq e hlt)).symm
          | exact (decide_eq_false fun e => by have := getElem_of_eq e hlt (hb := hlb); rw [this] at hne; simp at hne).symm
      · exact ⟨k + 1, by rw [IntWalk.i64_in _ (by omega)]; rfl, ⟨by omega, take_step hlt hlb hp (by first | exact he | simpa using he)⟩, by omega⟩
    · have hk' : k = a.length := by omega
      subst hk'
      simp -dsimp -implicitDefEqProofs only [go_sem, ↓reduceIte, keep21, ib21, mk21, Tryz.f21, Nat.lt_irrefl]
      exact fun _ => (decide_eq_true (eq_of_take heq hp)).symm

def keep36 : List Nat := [0, 1, 4, 5, 10, 14, 26]
def ib36 : List Nat := []
def mk36 : Marks := fun id => match id with | 6 => ([], (.op 0 (.op 1 (.op 2 (.op 3 (.op 4 (.op 5 (.op 6 (.op 7 (.op 8 (.op 9 .nil)))))))))), []) | _ => ([], .nil, [])
set_option maxRecDepth 100000 in
theorem eq_Int64SS (a b : List (List Int)) (hc : ∀ x ∈ a, ∀ y, Fn0 Tryz.prog 21 [(sls 1 (fun n => [I n]) x), (sls 1 (fun n => [I n]) y)] (.bool (decide (x = y)))) : Fn0 Tryz.prog 36 [(sls 1 (fun x => [sls 1 (fun n => [I n]) x]) a), (sls 1 (fun x => [sls 1 (fun n => [I n]) x]) b)] (.bool (decide (a = b))) := by
  refine fn0F 27 keep36 ib36 mk36 mix Tryz.func36 rfl (by kernel_rfl) (by simp) fun h => ?_
  simp -dsimp -implicitDefEqProofs only [go_sem, Tryz.f36, ↓reduceIte, keep36, ib36, mk36]
  refine fun _ _ => ⟨fun hne => ?_, fun heq => ?_⟩
  · exact (decide_eq_false fun e => hne (by rw [e])).symm
  · refine loopF (keep := keep36) (ib := ib36) (mk := mk36) mix (by kernel_rfl) (fun k : Nat => [(0, (sls 1 (fun x => [sls 1 (fun n => [I n]) x]) a)), (1, (sls 1 (fun x => [sls 1 (fun n => [I n]) x]) b)), (5, I k)]) (fun _ => h) (fun k => k ≤ a.length ∧ a.take k = b.take k) (fun k => a.length - k) 0 (by simp [SatL, tget, Heap.le_refl]) ?_
    intro k ⟨hk, hp⟩
    rcases Nat.lt_or_ge k a.length with hlt | hge
    · have hlb : k < b.length := by omega
      have ea : a[k]? = some a[k] := List.getElem?_eq_getElem hlt
      have eb : b[k]? = some b[k] := List.getElem?_eq_getElem hlb
      simp -dsimp -implicitDefEqProofs only [go_sem, ↓reduceIte, keep36, ib36, mk36, Tryz.f36, ea, eb]
      refine fun _ => ⟨fun _ => ⟨hlt, hlb, ?_⟩, fun hn => absurd hlt hn⟩
      have hx := hc a[k] (List.getElem_mem hlt) b[k]
      refine CallSF.mk hx ?_
      by_cases he : a[k] = b[k]
      · have d := decide_eq_true he
        simp -dsimp -implicitDefEqProofs only [go_sem, ↓reduceIte, keep36, ib36, mk36, Tryz.f36, d]
        exact ⟨k + 1, by rw [IntWalk.i64_in _ (by omega)]; rfl, ⟨by omega, take_step hlt hlb hp he⟩, by omega⟩
      · have d := decide_eq_false he
        simp -dsimp -implicitDefEqProofs only [go_sem, ↓reduceIte, keep36, ib36, mk36, Tryz.f36, d]
        exact (decide_eq_false fun e => he (getElem_of_eq e hlt)).symm
    · have hk' : k = a.length := by omega
      subst hk'
      simp -dsimp -implicitDefEqProofs only [go_sem, ↓reduceIte, keep36, ib36, mk36, Tryz.f36, Nat.lt_irrefl]
      exact fun _ => (decide_eq_true (eq_of_take heq hp)).symm

def keep15 : List Nat := [0, 1, 2, 3, 4, 10, 15, 20, 26, 32]
def ib15 : List Nat := [2, 3]
def mk15 : Marks := fun _ => ([], .nil, [])
set_option maxRecDepth 100000 in
theorem eq_Job (a b : DJob) : Fn0 Tryz.prog 15 [.agg a.c, .agg b.c] (.bool (decide (a = b))) := by
  simp only [DJob.c_eq]
  refine fn0F 33 keep15 ib15 mk15 mix Tryz.func15 rfl (by kernel_rfl) (by simp) fun h => ?_
  simp -dsimp -implicitDefEqProofs only [go_sem, Tryz.f15, ↓reduceIte, keep15, ib15, mk15]
  refine HFnF.mk (eq_Program a.fProgram b.fProgram) ?_
  by_cases efProgram : a.fProgram = b.fProgram
  case neg =>
    have d := decide_eq_false efProgram
    simp -dsimp -implicitDefEqProofs only [go_sem, ↓reduceIte, keep15, ib15, mk15, Tryz.f15, d]
    exact (decide_eq_false fun e => efProgram (by rw [e])).symm
  have dfProgram := decide_eq_true efProgram
  simp -dsimp -implicitDefEqProofs only [go_sem, ↓reduceIte, keep15, ib15, mk15, Tryz.f15, dfProgram]
  refine ⟨fun hn => (decide_eq_false fun e => hn (by rw [e])).symm, fun efFunc => ?_⟩
  refine ⟨fun hn => (decide_eq_false fun e => hn (by rw [e])).symm, fun efShared => ?_⟩
  refine HFnF.mk (eq_Int64S a.fPoint b.fPoint) ?_
  by_cases efPoint : a.fPoint = b.fPoint
  case neg =>
    have d := decide_eq_false efPoint
    simp -dsimp -implicitDefEqProofs only [go_sem, ↓reduceIte, keep15, ib15, mk15, Tryz.f15, d]
    exact (decide_eq_false fun e => efPoint (by rw [e])).symm
  have dfPoint := decide_eq_true efPoint
  simp -dsimp -implicitDefEqProofs only [go_sem, ↓reduceIte, keep15, ib15, mk15, Tryz.f15, dfPoint]
  refine HFnF.mk (eq_Int64SS a.fTerms b.fTerms (fun x _ y => (eq_Int64S x y))) ?_
  by_cases efTerms : a.fTerms = b.fTerms
  case neg =>
    have d := decide_eq_false efTerms
    simp -dsimp -implicitDefEqProofs only [go_sem, ↓reduceIte, keep15, ib15, mk15, Tryz.f15, d]
    exact (decide_eq_false fun e => efTerms (by rw [e])).symm
  have dfTerms := decide_eq_true efTerms
  simp -dsimp -implicitDefEqProofs only [go_sem, ↓reduceIte, keep15, ib15, mk15, Tryz.f15, dfTerms]
  exact (decide_eq_true (DJob.eq_iff.2 ⟨efProgram, efFunc, efShared, efPoint, efTerms⟩)).symm


def keep69 : List Nat := [0, 1, 4, 5, 10, 14, 25]
def ib69 : List Nat := []
def mk69 : Marks := fun id => match id with | 6 => ([], (.op 0 (.op 1 (.op 2 (.op 3 (.op 4 (.op 5 (.op 6 (.op 7 (.op 8 .nil))))))))), []) | _ => ([], .nil, [])
set_option maxRecDepth 100000 in
theorem eq_BoolS (a b : List Bool) : Fn0 Tryz.prog 69 [(sls 1 (fun b => [.bool b]) a), (sls 1 (fun b => [.bool b]) b)] (.bool (decide (a = b))) := by
  refine fn0F 26 keep69 ib69 mk69 mix Tryz.func69 rfl (by kernel_rfl) (by simp) fun h => ?_
  simp -dsimp -implicitDefEqProofs only [go_sem, Tryz.f69, ↓reduceIte, keep69, ib69, mk69]
  refine fun _ _ => ⟨fun hne => ?_, fun heq => ?_⟩
  · exact (decide_eq_false fun e => hne (by rw [e])).symm
  · refine loopF (keep := keep69) (ib := ib69) (mk := mk69) mix (by kernel_rfl) (fun k : Nat => [(0, (sls 1 (fun b => [.bool b]) a)), (1, (sls 1 (fun b => [.bool b]) b)), (5, I k)]) (fun _ => h) (fun k => k ≤ a.length ∧ a.take k = b.take k) (fun k => a.length - k) 0 (by simp [SatL, tget, Heap.le_refl]) ?_
    intro k ⟨hk, hp⟩
    rcases Nat.lt_or_ge k a.length with hlt | hge
    · have hlb : k < b.length := by omega
      have ea : a[k]? = some a[k] := List.getElem?_eq_getElem hlt
      have eb : b[k]? = some b[k] := List.getElem?_eq_getElem hlb
      simp -dsimp -implicitDefEqProofs only [go_sem, ↓reduceIte, keep69, ib69, mk69, Tryz.f69, ea, eb]
      refine fun _ => ⟨fun _ => ⟨hlt, hlb, fun hne => ?_, fun he => ?_⟩, fun hn => absurd hlt hn⟩
      · first
          | exact (decide_eq_false fun e => hne (getElem_of_eq e hlt)).symm
          | exact (decide_eq_false fun e => by have := getElem_of_eq e hlt (hb := hlb); rw [this] at hne; simp at hne).symm
      · exact ⟨k + 1, by rw [IntWalk.i64_in _ (by omega)]; rfl, ⟨by omega, take_step hlt hlb hp (by first | exact he | simpa using he)⟩, by omega⟩
    · have hk' : k = a.length := by omega
      subst hk'
      simp -dsimp -implicitDefEqProofs only [go_sem, ↓reduceIte, keep69, ib69, mk69, Tryz.f69, Nat.lt_irrefl]
      exact fun _ => (decide_eq_true (eq_of_take heq hp)).symm

def keep14 : List Nat := [0, 1, 2, 3, 4, 9, 14, 20]
def ib14 : List Nat := [2, 3]
def mk14 : Marks := fun _ => ([], .nil, [])
set_option maxRecDepth 100000 in
theorem eq_Part (a b : DPart) : Fn0 Tryz.prog 14 [.agg a.c, .agg b.c] (.bool (decide (a = b))) := by
  simp only [DPart.c_eq]
  refine fn0F 21 keep14 ib14 mk14 mix Tryz.func14 rfl (by kernel_rfl) (by simp) fun h => ?_
  simp -dsimp -implicitDefEqProofs only [go_sem, Tryz.f14, ↓reduceIte, keep14, ib14, mk14]
  refine ⟨fun hn => (decide_eq_false fun e => hn (by rw [e])).symm, fun efCode => ?_⟩
  refine ⟨fun hn => (decide_eq_false fun e => hn (by rw [e])).symm, fun efValue => ?_⟩
  refine HFnF.mk (eq_Int64S a.fGrad b.fGrad) ?_
  by_cases efGrad : a.fGrad = b.fGrad
  case neg =>
    have d := decide_eq_false efGrad
    simp -dsimp -implicitDefEqProofs only [go_sem, ↓reduceIte, keep14, ib14, mk14, Tryz.f14, d]
    exact (decide_eq_false fun e => efGrad (by rw [e])).symm
  have dfGrad := decide_eq_true efGrad
  simp -dsimp -implicitDefEqProofs only [go_sem, ↓reduceIte, keep14, ib14, mk14, Tryz.f14, dfGrad]
  exact (decide_eq_true (DPart.eq_iff.2 ⟨efCode, efValue, efGrad⟩)).symm

def keep70 : List Nat := [0, 1, 4, 5, 10, 14, 26]
def ib70 : List Nat := []
def mk70 : Marks := fun id => match id with | 6 => ([], (.op 0 (.op 1 (.op 2 (.op 3 (.op 4 (.op 5 (.op 6 (.op 7 (.op 8 (.op 9 .nil)))))))))), []) | _ => ([], .nil, [])
set_option maxRecDepth 100000 in
theorem eq_PartS (a b : List DPart) (hc : ∀ x ∈ a, ∀ y, Fn0 Tryz.prog 14 [(.agg (DPart.c x)), (.agg (DPart.c y))] (.bool (decide (x = y)))) : Fn0 Tryz.prog 70 [(sls 3 DPart.c a), (sls 3 DPart.c b)] (.bool (decide (a = b))) := by
  refine fn0F 27 keep70 ib70 mk70 mix Tryz.func70 rfl (by kernel_rfl) (by simp) fun h => ?_
  simp -dsimp -implicitDefEqProofs only [go_sem, Tryz.f70, ↓reduceIte, keep70, ib70, mk70]
  refine fun _ _ => ⟨fun hne => ?_, fun heq => ?_⟩
  · exact (decide_eq_false fun e => hne (by rw [e])).symm
  · refine loopF (keep := keep70) (ib := ib70) (mk := mk70) mix (by kernel_rfl) (fun k : Nat => [(0, (sls 3 DPart.c a)), (1, (sls 3 DPart.c b)), (5, I k)]) (fun _ => h) (fun k => k ≤ a.length ∧ a.take k = b.take k) (fun k => a.length - k) 0 (by simp [SatL, tget, Heap.le_refl]) ?_
    intro k ⟨hk, hp⟩
    rcases Nat.lt_or_ge k a.length with hlt | hge
    · have hlb : k < b.length := by omega
      have ea : a[k]? = some a[k] := List.getElem?_eq_getElem hlt
      have eb : b[k]? = some b[k] := List.getElem?_eq_getElem hlb
      simp -dsimp -implicitDefEqProofs only [go_sem, ↓reduceIte, keep70, ib70, mk70, Tryz.f70, ea, eb, DPart.c_eq]
      refine fun _ => ⟨fun _ => ⟨hlt, hlb, ?_⟩, fun hn => absurd hlt hn⟩
      have hx := hc a[k] (List.getElem_mem hlt) b[k]
      simp only [DPart.c_eq] at hx
      refine CallSF.mk hx ?_
      by_cases he : a[k] = b[k]
      · have d := decide_eq_true he
        simp -dsimp -implicitDefEqProofs only [go_sem, ↓reduceIte, keep70, ib70, mk70, Tryz.f70, d]
        exact ⟨k + 1, by rw [IntWalk.i64_in _ (by omega)]; rfl, ⟨by omega, take_step hlt hlb hp he⟩, by omega⟩
      · have d := decide_eq_false he
        simp -dsimp -implicitDefEqProofs only [go_sem, ↓reduceIte, keep70, ib70, mk70, Tryz.f70, d]
        exact (decide_eq_false fun e => he (getElem_of_eq e hlt)).symm
    · have hk' : k = a.length := by omega
      subst hk'
      simp -dsimp -implicitDefEqProofs only [go_sem, ↓reduceIte, keep70, ib70, mk70, Tryz.f70, Nat.lt_irrefl]
      exact fun _ => (decide_eq_true (eq_of_take heq hp)).symm

def keep28 : List Nat := [0, 1, 2, 3, 4, 10, 16, 22, 28, 34]
def ib28 : List Nat := [2, 3]
def mk28 : Marks := fun _ => ([], .nil, [])
set_option maxRecDepth 100000 in
theorem eq_Service (a b : DService) : Fn0 Tryz.prog 28 [.agg a.c, .agg b.c] (.bool (decide (a = b))) := by
  simp only [DService.c_eq]
  refine fn0F 35 keep28 ib28 mk28 mix Tryz.func28 rfl (by kernel_rfl) (by simp) fun h => ?_
  simp -dsimp -implicitDefEqProofs only [go_sem, Tryz.f28, ↓reduceIte, keep28, ib28, mk28]
  refine HFnF.mk (eq_Job a.fJob b.fJob) ?_
  by_cases efJob : a.fJob = b.fJob
  case neg =>
    have d := decide_eq_false efJob
    simp -dsimp -implicitDefEqProofs only [go_sem, ↓reduceIte, keep28, ib28, mk28, Tryz.f28, d]
    exact (decide_eq_false fun e => efJob (by rw [e])).symm
  have dfJob := decide_eq_true efJob
  simp -dsimp -implicitDefEqProofs only [go_sem, ↓reduceIte, keep28, ib28, mk28, Tryz.f28, dfJob]
  refine HFnF.mk (eq_Int64S a.fStamps b.fStamps) ?_
  by_cases efStamps : a.fStamps = b.fStamps
  case neg =>
    have d := decide_eq_false efStamps
    simp -dsimp -implicitDefEqProofs only [go_sem, ↓reduceIte, keep28, ib28, mk28, Tryz.f28, d]
    exact (decide_eq_false fun e => efStamps (by rw [e])).symm
  have dfStamps := decide_eq_true efStamps
  simp -dsimp -implicitDefEqProofs only [go_sem, ↓reduceIte, keep28, ib28, mk28, Tryz.f28, dfStamps]
  refine HFnF.mk (eq_BoolS a.fKnown b.fKnown) ?_
  by_cases efKnown : a.fKnown = b.fKnown
  case neg =>
    have d := decide_eq_false efKnown
    simp -dsimp -implicitDefEqProofs only [go_sem, ↓reduceIte, keep28, ib28, mk28, Tryz.f28, d]
    exact (decide_eq_false fun e => efKnown (by rw [e])).symm
  have dfKnown := decide_eq_true efKnown
  simp -dsimp -implicitDefEqProofs only [go_sem, ↓reduceIte, keep28, ib28, mk28, Tryz.f28, dfKnown]
  refine HFnF.mk (eq_PartS a.fParts b.fParts (fun x _ y => (eq_Part x y))) ?_
  by_cases efParts : a.fParts = b.fParts
  case neg =>
    have d := decide_eq_false efParts
    simp -dsimp -implicitDefEqProofs only [go_sem, ↓reduceIte, keep28, ib28, mk28, Tryz.f28, d]
    exact (decide_eq_false fun e => efParts (by rw [e])).symm
  have dfParts := decide_eq_true efParts
  simp -dsimp -implicitDefEqProofs only [go_sem, ↓reduceIte, keep28, ib28, mk28, Tryz.f28, dfParts]
  refine HFnF.mk (eq_Int64S a.fOwners b.fOwners) ?_
  by_cases efOwners : a.fOwners = b.fOwners
  case neg =>
    have d := decide_eq_false efOwners
    simp -dsimp -implicitDefEqProofs only [go_sem, ↓reduceIte, keep28, ib28, mk28, Tryz.f28, d]
    exact (decide_eq_false fun e => efOwners (by rw [e])).symm
  have dfOwners := decide_eq_true efOwners
  simp -dsimp -implicitDefEqProofs only [go_sem, ↓reduceIte, keep28, ib28, mk28, Tryz.f28, dfOwners]
  exact (decide_eq_true (DService.eq_iff.2 ⟨efJob, efStamps, efKnown, efParts, efOwners⟩)).symm

open Go.Proofs
set_option linter.unusedVariables false
set_option linter.unusedSimpArgs false
def keep5 : List Nat := [0, 1, 2, 3, 4, 5, 6, 11, 21, 26]
def ib5 : List Nat := [1]
def mk5 : Marks := fun id => match id with | 10 => ([0], (.op 1 (.op 2 (.op 0 (.op 3 (.op 4 .nil))))), []) | _ => ([], .nil, [])
set_option maxRecDepth 100000 in
theorem law_IsTrue (a : DService) : Fn0 Tryz.prog 5 [.agg a.c] (.bool true) := by
  simp only [DService.c_eq]
  refine fn0F 27 keep5 ib5 mk5 mix Tryz.func5 rfl (by kernel_rfl) (by simp) fun h => ?_
  simp (maxSteps := 1000000) -dsimp -implicitDefEqProofs only [go_sem, ↓reduceIte, keep5, ib5, mk5, Tryz.f5]
  first | refine HFnF.mk (sz_Service a 1048576 (by omega) (by omega)) ?_ | refine CallSF.mk (sz_Service a 1048576 (by omega) (by omega)) ?_ | refine HFnF.mkAt (sz_Service a 1048576 (by omega) (by omega)) ?_ | refine CallSF.mk (FnAt.fn0 (sz_Service a 1048576 (by omega) (by omega))) ?_
  simp (maxSteps := 1000000) -dsimp -implicitDefEqProofs only [go_sem, ↓reduceIte, keep5, ib5, mk5, Tryz.f5, DService.c_eq]
  generalize hL : lft 1048576 a.s = L
  have hs := lft_step hL
  repeat' (with_reducible first | intro _ | refine And.intro ?_ ?_)
  all_goals try (first | (simp [hs, *]; done) | omega | (grind [hs]) | (simp [hs]; omega))
  rename_i h1
  have h2 := hs.2 h1
  have ha : a.s ≤ 1048576 := by omega
  clear hs hL h1 h2
  have hsub := DService.s_eq a
  have hsub2 := (a.fJob.fProgram).s_eq
  have hsub3 := a.fJob.s_eq
  have hps : (a.fJob.fProgram).s ≤ 1048576 := by omega
  first | refine HFnF.mk (to_Service a ha) ?_ | refine CallSF.mk (to_Service a ha) ?_ | refine HFnF.mkAt (to_Service a ha) ?_ | refine CallSF.mk (FnAt.fn0 (to_Service a ha)) ?_
  simp (maxSteps := 1000000) -dsimp -implicitDefEqProofs only [go_sem, ↓reduceIte, keep5, ib5, mk5, Tryz.f5]
  first | refine HFnF.mk (specIsTrue a (by omega)) ?_ | refine CallSF.mk (specIsTrue a (by omega)) ?_ | refine HFnF.mkAt (specIsTrue a (by omega)) ?_ | refine CallSF.mk (FnAt.fn0 (specIsTrue a (by omega))) ?_
  simp (maxSteps := 1000000) -dsimp -implicitDefEqProofs only [go_sem, ↓reduceIte, keep5, ib5, mk5, Tryz.f5]
  first | refine HFnF.mk (to_Service a ha) ?_ | refine CallSF.mk (to_Service a ha) ?_ | refine HFnF.mkAt (to_Service a ha) ?_ | refine CallSF.mk (FnAt.fn0 (to_Service a ha)) ?_
  simp (maxSteps := 1000000) -dsimp -implicitDefEqProofs only [go_sem, ↓reduceIte, keep5, ib5, mk5, Tryz.f5, DService.c_eq, upd_upd]
  repeat' (with_reducible first | intro _ | refine And.intro ?_ ?_)
  rename_i n1 h1
  first | refine HFnF.mk (IsTrue a (by omega)) ?_ | refine CallSF.mk (IsTrue a (by omega)) ?_ | refine HFnF.mkAt (IsTrue a (by omega)) ?_ | refine CallSF.mk (FnAt.fn0 (IsTrue a (by omega))) ?_
  simp (maxSteps := 1000000) -dsimp -implicitDefEqProofs only [go_sem, ↓reduceIte, keep5, ib5, mk5, Tryz.f5, bne_self_eq_false, upd_get]
  first | refine HFnF.mk (to_Service a ha) ?_ | refine CallSF.mk (to_Service a ha) ?_ | refine HFnF.mkAt (to_Service a ha) ?_ | refine CallSF.mk (FnAt.fn0 (to_Service a ha)) ?_
  simp (maxSteps := 1000000) -dsimp -implicitDefEqProofs only [go_sem, ↓reduceIte, keep5, ib5, mk5, Tryz.f5, upd_get]
  first | refine HFnF.mk (eq_Service a a) ?_ | refine CallSF.mk (eq_Service a a) ?_ | refine HFnF.mkAt (eq_Service a a) ?_ | refine CallSF.mk (FnAt.fn0 (eq_Service a a)) ?_
  simp (maxSteps := 1000000) -dsimp -implicitDefEqProofs only [go_sem, ↓reduceIte, keep5, ib5, mk5, Tryz.f5, upd_get, h1, decide_true, Bool.not_true]
open Go.Proofs
set_option linter.unusedVariables false
set_option linter.unusedSimpArgs false
theorem dat_i64 {P : Program} {n : Nat} {t : TypeId} {xs : List HVal} (hu : P.underlying t = some (.int .i64)) (h : Dat P n t xs) : ∃ i : Int, xs = [I i] ∧ InI i := by
  match n, h with
  | 0, h => exact h.elim
  | n + 1, h =>
    simp only [Dat, hu] at h
    obtain ⟨i, rfl, hw⟩ := h
    refine ⟨i, rfl, ?_⟩
    have h1 : IntKind.min .i64 = -9223372036854775808 := by decide
    have h2 : IntKind.max .i64 = 9223372036854775807 := by decide
    simp [Lit.wf, IntKind.has, h1, h2] at hw
    unfold InI
    omega
theorem dat_bool {P : Program} {n : Nat} {t : TypeId} {xs : List HVal} (hu : P.underlying t = some .bool) (h : Dat P n t xs) : ∃ b : Bool, xs = [.bool b] ∧ True := by
  match n, h with
  | 0, h => exact h.elim
  | n + 1, h =>
    simp only [Dat, hu] at h
    obtain ⟨b, rfl⟩ := h
    exact ⟨b, rfl, trivial⟩
theorem dat_str {P : Program} {n : Nat} {t : TypeId} {xs : List HVal} (hu : P.underlying t = some .string) (h : Dat P n t xs) : ∃ s : List UInt8, xs = [.str s] ∧ True := by
  match n, h with
  | 0, h => exact h.elim
  | n + 1, h =>
    simp only [Dat, hu] at h
    obtain ⟨b, rfl⟩ := h
    exact ⟨b, rfl, trivial⟩
theorem list_of {α : Type} {c : α → List HVal} {w : α → Prop} : ∀ {es : List (List HVal)}, (∀ y ∈ es, ∃ x, y = c x ∧ w x) → ∃ l : List α, es = l.map c ∧ ∀ x ∈ l, w x
  | [], _ => ⟨[], rfl, by simp⟩
  | e :: es, h => by
    obtain ⟨x, rfl, hx⟩ := h _ List.mem_cons_self
    obtain ⟨l, rfl, hl⟩ := list_of fun y hy => h y (List.mem_cons_of_mem _ hy)
    refine ⟨x :: l, rfl, fun y hy => ?_⟩
    rcases List.mem_cons.1 hy with rfl | hy
    · exact hx
    · exact hl y hy
theorem dat_slice {P : Program} {n sz : Nat} {t e : TypeId} {α : Type} {c : α → List HVal} {w : α → Prop} {xs : List HVal} (hu : P.underlying t = some (.slice e)) (hc : P.cellsOf e = sz) (h : Dat P n t xs)
    (hx : ∀ m y, m < n → Dat P m e y → ∃ x, y = c x ∧ w x) : ∃ l : List α, xs = [sls sz c l] ∧ ∀ x ∈ l, w x := by
  match n, h with
  | 0, h => exact h.elim
  | n + 1, h =>
    simp only [Dat, hu] at h
    obtain ⟨es, rfl, hes⟩ := h
    obtain ⟨l, rfl, hl⟩ := list_of fun y hy => hx n y (by omega) (hes y hy)
    exact ⟨l, by rw [hc], hl⟩
theorem drop_split {α : Type} {xs c r : List α} {o n o' : Nat} (h : (xs.drop o).take n = c) (hr : xs.drop o' = r) (ho : o + n = o') : xs.drop o = c ++ r := by
  rw [← hr, ← ho, ← List.drop_drop, ← h, List.take_append_drop]
theorem cells28 : Tryz.prog.cellsOf 28 = 5 := by kernel_rfl
theorem cells2 : Tryz.prog.cellsOf 2 = 1 := by kernel_rfl
theorem cells204 : Tryz.prog.cellsOf 204 = 1 := by kernel_rfl
theorem cells313 : Tryz.prog.cellsOf 313 = 5 := by kernel_rfl
theorem cells9 : Tryz.prog.cellsOf 9 = 1 := by kernel_rfl
theorem cells206 : Tryz.prog.cellsOf 206 = 3 := by kernel_rfl
theorem cells22 : Tryz.prog.cellsOf 22 = 1 := by kernel_rfl
theorem cells24 : Tryz.prog.cellsOf 24 = 1 := by kernel_rfl
theorem cells25 : Tryz.prog.cellsOf 25 = 1 := by kernel_rfl
theorem cells26 : Tryz.prog.cellsOf 26 = 1 := by kernel_rfl
theorem cells53 : Tryz.prog.cellsOf 53 = 9 := by kernel_rfl
theorem cells190 : Tryz.prog.cellsOf 190 = 3 := by kernel_rfl
theorem cells50 : Tryz.prog.cellsOf 50 = 1 := by kernel_rfl
theorem cells4 : Tryz.prog.cellsOf 4 = 1 := by kernel_rfl
theorem cells51 : Tryz.prog.cellsOf 51 = 1 := by kernel_rfl
set_option maxRecDepth 100000 in
theorem dat_313 : ∀ {n : Nat} {xs : List HVal}, Dat Tryz.prog n 313 xs → ∃ x : DExpr, xs = x.c ∧ x.wf
  | 0, _, h => h.elim
  | n + 1, xs, h => by
    simp only [Dat, Tryz.underlying313] at h
    obtain ⟨hl, hf⟩ := h
    rw [cells313] at hl
    have f0 : Dat Tryz.prog n 2 ((xs.drop 0).take (Tryz.prog.cellsOf 2)) := hf 0 _ rfl
    rw [cells2] at f0
    obtain ⟨x0, e0, w0⟩ := (dat_i64 Tryz.underlying2 f0)
    have f1 : Dat Tryz.prog n 2 ((xs.drop 1).take (Tryz.prog.cellsOf 2)) := hf 1 _ rfl
    rw [cells2] at f1
    obtain ⟨x1, e1, w1⟩ := (dat_i64 Tryz.underlying2 f1)
    have f2 : Dat Tryz.prog n 2 ((xs.drop 2).take (Tryz.prog.cellsOf 2)) := hf 2 _ rfl
    rw [cells2] at f2
    obtain ⟨x2, e2, w2⟩ := (dat_i64 Tryz.underlying2 f2)
    have f3 : Dat Tryz.prog n 2 ((xs.drop 3).take (Tryz.prog.cellsOf 2)) := hf 3 _ rfl
    rw [cells2] at f3
    obtain ⟨x3, e3, w3⟩ := (dat_i64 Tryz.underlying2 f3)
    have f4 : Dat Tryz.prog n 204 ((xs.drop 4).take (Tryz.prog.cellsOf 204)) := hf 4 _ rfl
    rw [cells204] at f4
    obtain ⟨x4, e4, w4⟩ := (dat_slice (c := DExpr.c) (w := (fun x => x.wf)) Tryz.underlying204 cells313 f4 (fun m y hm hy => (dat_313 hy)))
    have r5 : xs.drop 5 = [] := List.drop_eq_nil_of_le (by omega)
    have r4 := drop_split e4 r5 rfl
    have r3 := drop_split e3 r4 rfl
    have r2 := drop_split e2 r3 rfl
    have r1 := drop_split e1 r2 rfl
    have r0 := drop_split e0 r1 rfl
    exact ⟨.mk x0 x1 x2 x3 x4, by rw [DExpr.c_eq]; exact r0, .mk _ w0 w1 w2 w3 w4⟩
termination_by n => n
decreasing_by all_goals omega
set_option maxRecDepth 100000 in
theorem dat_206 : ∀ {n : Nat} {xs : List HVal}, Dat Tryz.prog n 206 xs → ∃ x : DFunc, xs = x.c ∧ x.wf
  | 0, _, h => h.elim
  | n + 1, xs, h => by
    simp only [Dat, Tryz.underlying206] at h
    obtain ⟨hl, hf⟩ := h
    rw [cells206] at hl
    have f0 : Dat Tryz.prog n 9 ((xs.drop 0).take (Tryz.prog.cellsOf 9)) := hf 0 _ rfl
    rw [cells9] at f0
    obtain ⟨x0, e0, w0⟩ := (dat_str Tryz.underlying9 f0)
    have f1 : Dat Tryz.prog n 2 ((xs.drop 1).take (Tryz.prog.cellsOf 2)) := hf 1 _ rfl
    rw [cells2] at f1
    obtain ⟨x1, e1, w1⟩ := (dat_i64 Tryz.underlying2 f1)
    have f2 : Dat Tryz.prog n 204 ((xs.drop 2).take (Tryz.prog.cellsOf 204)) := hf 2 _ rfl
    rw [cells204] at f2
    obtain ⟨x2, e2, w2⟩ := (dat_slice (c := DExpr.c) (w := (fun x => x.wf)) Tryz.underlying204 cells313 f2 (fun m y hm hy => (dat_313 hy)))
    have r3 : xs.drop 3 = [] := List.drop_eq_nil_of_le (by omega)
    have r2 := drop_split e2 r3 rfl
    have r1 := drop_split e1 r2 rfl
    have r0 := drop_split e0 r1 rfl
    exact ⟨⟨x0, x1, x2⟩, r0, ⟨w1, w2⟩⟩
set_option maxRecDepth 100000 in
theorem dat_24 : ∀ {n : Nat} {xs : List HVal}, Dat Tryz.prog n 24 xs → ∃ x : DProgram, xs = x.c ∧ x.wf
  | 0, _, h => h.elim
  | n + 1, xs, h => by
    simp only [Dat, Tryz.underlying24] at h
    obtain ⟨hl, hf⟩ := h
    rw [cells24] at hl
    have f0 : Dat Tryz.prog n 22 ((xs.drop 0).take (Tryz.prog.cellsOf 22)) := hf 0 _ rfl
    rw [cells22] at f0
    obtain ⟨x0, e0, w0⟩ := (dat_slice (c := DFunc.c) (w := (fun x => x.wf)) Tryz.underlying22 cells206 f0 (fun m y hm hy => (dat_206 hy)))
    have r1 : xs.drop 1 = [] := List.drop_eq_nil_of_le (by omega)
    have r0 := drop_split e0 r1 rfl
    exact ⟨⟨x0⟩, r0, w0⟩
set_option maxRecDepth 100000 in
theorem dat_28 : ∀ {n : Nat} {xs : List HVal}, Dat Tryz.prog n 28 xs → ∃ x : DJob, xs = x.c ∧ x.wf
  | 0, _, h => h.elim
  | n + 1, xs, h => by
    simp only [Dat, Tryz.underlying28] at h
    obtain ⟨hl, hf⟩ := h
    rw [cells28] at hl
    have f0 : Dat Tryz.prog n 24 ((xs.drop 0).take (Tryz.prog.cellsOf 24)) := hf 0 _ rfl
    rw [cells24] at f0
    obtain ⟨x0, e0, w0⟩ := (dat_24 f0)
    have f1 : Dat Tryz.prog n 2 ((xs.drop 1).take (Tryz.prog.cellsOf 2)) := hf 1 _ rfl
    rw [cells2] at f1
    obtain ⟨x1, e1, w1⟩ := (dat_i64 Tryz.underlying2 f1)
    have f2 : Dat Tryz.prog n 2 ((xs.drop 2).take (Tryz.prog.cellsOf 2)) := hf 2 _ rfl
    rw [cells2] at f2
    obtain ⟨x2, e2, w2⟩ := (dat_i64 Tryz.underlying2 f2)
    have f3 : Dat Tryz.prog n 25 ((xs.drop 3).take (Tryz.prog.cellsOf 25)) := hf 3 _ rfl
    rw [cells25] at f3
    obtain ⟨x3, e3, w3⟩ := (dat_slice (c := (fun n => [I n])) (w := (fun x => InI x)) Tryz.underlying25 cells2 f3 (fun m y hm hy => (dat_i64 Tryz.underlying2 hy)))
    have f4 : Dat Tryz.prog n 26 ((xs.drop 4).take (Tryz.prog.cellsOf 26)) := hf 4 _ rfl
    rw [cells26] at f4
    obtain ⟨x4, e4, w4⟩ := (dat_slice (c := (fun x => [sls 1 (fun n => [I n]) x])) (w := (fun x => (∀ y ∈ x, InI y))) Tryz.underlying26 cells25 f4 (fun m y hm hy => (dat_slice (c := (fun n => [I n])) (w := (fun x => InI x)) Tryz.underlying25 cells2 hy (fun m y hm hy => (dat_i64 Tryz.underlying2 hy)))))
    have r5 : xs.drop 5 = [] := List.drop_eq_nil_of_le (by omega)
    have r4 := drop_split e4 r5 rfl
    have r3 := drop_split e3 r4 rfl
    have r2 := drop_split e2 r3 rfl
    have r1 := drop_split e1 r2 rfl
    have r0 := drop_split e0 r1 rfl
    exact ⟨⟨x0, x1, x2, x3, x4⟩, r0, ⟨w0, w1, w2, w3, w4⟩⟩
set_option maxRecDepth 100000 in
theorem dat_190 : ∀ {n : Nat} {xs : List HVal}, Dat Tryz.prog n 190 xs → ∃ x : DPart, xs = x.c ∧ x.wf
  | 0, _, h => h.elim
  | n + 1, xs, h => by
    simp only [Dat, Tryz.underlying190] at h
    obtain ⟨hl, hf⟩ := h
    rw [cells190] at hl
    have f0 : Dat Tryz.prog n 2 ((xs.drop 0).take (Tryz.prog.cellsOf 2)) := hf 0 _ rfl
    rw [cells2] at f0
    obtain ⟨x0, e0, w0⟩ := (dat_i64 Tryz.underlying2 f0)
    have f1 : Dat Tryz.prog n 2 ((xs.drop 1).take (Tryz.prog.cellsOf 2)) := hf 1 _ rfl
    rw [cells2] at f1
    obtain ⟨x1, e1, w1⟩ := (dat_i64 Tryz.underlying2 f1)
    have f2 : Dat Tryz.prog n 25 ((xs.drop 2).take (Tryz.prog.cellsOf 25)) := hf 2 _ rfl
    rw [cells25] at f2
    obtain ⟨x2, e2, w2⟩ := (dat_slice (c := (fun n => [I n])) (w := (fun x => InI x)) Tryz.underlying25 cells2 f2 (fun m y hm hy => (dat_i64 Tryz.underlying2 hy)))
    have r3 : xs.drop 3 = [] := List.drop_eq_nil_of_le (by omega)
    have r2 := drop_split e2 r3 rfl
    have r1 := drop_split e1 r2 rfl
    have r0 := drop_split e0 r1 rfl
    exact ⟨⟨x0, x1, x2⟩, r0, ⟨w0, w1, w2⟩⟩
set_option maxRecDepth 100000 in
theorem dat_53 : ∀ {n : Nat} {xs : List HVal}, Dat Tryz.prog n 53 xs → ∃ x : DService, xs = x.c ∧ x.wf
  | 0, _, h => h.elim
  | n + 1, xs, h => by
    simp only [Dat, Tryz.underlying53] at h
    obtain ⟨hl, hf⟩ := h
    rw [cells53] at hl
    have f0 : Dat Tryz.prog n 28 ((xs.drop 0).take (Tryz.prog.cellsOf 28)) := hf 0 _ rfl
    rw [cells28] at f0
    obtain ⟨x0, e0, w0⟩ := (dat_28 f0)
    have f1 : Dat Tryz.prog n 25 ((xs.drop 5).take (Tryz.prog.cellsOf 25)) := hf 1 _ rfl
    rw [cells25] at f1
    obtain ⟨x1, e1, w1⟩ := (dat_slice (c := (fun n => [I n])) (w := (fun x => InI x)) Tryz.underlying25 cells2 f1 (fun m y hm hy => (dat_i64 Tryz.underlying2 hy)))
    have f2 : Dat Tryz.prog n 50 ((xs.drop 6).take (Tryz.prog.cellsOf 50)) := hf 2 _ rfl
    rw [cells50] at f2
    obtain ⟨x2, e2, w2⟩ := (dat_slice (c := (fun b => [.bool b])) (w := (fun _ => True)) Tryz.underlying50 cells4 f2 (fun m y hm hy => (dat_bool Tryz.underlying4 hy)))
    have f3 : Dat Tryz.prog n 51 ((xs.drop 7).take (Tryz.prog.cellsOf 51)) := hf 3 _ rfl
    rw [cells51] at f3
    obtain ⟨x3, e3, w3⟩ := (dat_slice (c := DPart.c) (w := (fun x => x.wf)) Tryz.underlying51 cells190 f3 (fun m y hm hy => (dat_190 hy)))
    have f4 : Dat Tryz.prog n 25 ((xs.drop 8).take (Tryz.prog.cellsOf 25)) := hf 4 _ rfl
    rw [cells25] at f4
    obtain ⟨x4, e4, w4⟩ := (dat_slice (c := (fun n => [I n])) (w := (fun x => InI x)) Tryz.underlying25 cells2 f4 (fun m y hm hy => (dat_i64 Tryz.underlying2 hy)))
    have r5 : xs.drop 9 = [] := List.drop_eq_nil_of_le (by omega)
    have r4 := drop_split e4 r5 rfl
    have r3 := drop_split e3 r4 rfl
    have r2 := drop_split e2 r3 rfl
    have r1 := drop_split e1 r2 rfl
    have r0 := drop_split e0 r1 rfl
    exact ⟨⟨x0, x1, x2, x3, x4⟩, r0, ⟨w0, w1, w3, w4⟩⟩
def datT : List TypeId := [2, 4, 9, 22, 24, 25, 26, 28, 50, 51, 53, 75, 77, 190, 204, 206, 225, 313]
theorem datT_ok : datB Tryz.prog datT = true := by kernel_rfl

end Go.Hl

/-
  Contracts of functions and laws of the layer over the walk.
-/
import Derived.Test.YtenkidkcfjbcgaaGreatDoorVvA
import Derived.Test.YtenkidkcfjbcgaaGreatDoorProg
import Derived.Shelf.Strconv.Itoa4
import Derived.Shelf.Strings.OnBuilder
import Derived.Shelf.LaysM
import Derived.KernelRfl
import Derived.Lib.Split
import Derived.Lib.ParseIntB
import Derived.Lib.ItoaNum
import Derived.Lib.ItoaMem
import Derived.Lib.Join
import Derived.Test.YtenkidkcfjbcgaaGreatDoorHlD
namespace Go.Hl
open Go.Proofs
set_option linter.unusedVariables false
set_option linter.unusedSimpArgs false
mutual
def DExpr.d : DExpr → Nat
  | .mk _ _ _ _ kids => DExpr.dL kids + 1
def DExpr.dL : List DExpr → Nat
  | [] => 0
  | x :: l => max x.d (DExpr.dL l)
end
theorem DExpr.d_eq (x : DExpr) : x.d = DExpr.dL x.fKids + 1 := by cases x; rfl
theorem DExpr.dL_take : ∀ {l : List DExpr} {k : Nat} (h : k < l.length), DExpr.dL (l.take (k + 1)) = max (DExpr.dL (l.take k)) l[k].d
  | x :: l, 0, _ => by simp [DExpr.dL]
  | x :: l, k + 1, h => by
    have := DExpr.dL_take (l := l) (k := k) (by simpa using h)
    simp only [List.take_succ_cons, DExpr.dL, this, List.getElem_cons_succ]
    omega
mutual
theorem DExpr.d_le : ∀ x : DExpr, x.d ≤ x.s + 1
  | .mk _ _ _ _ kids => by
    have := DExpr.dL_le kids
    simp only [DExpr.d, DExpr.s]; omega
theorem DExpr.dL_le : ∀ l : List DExpr, DExpr.dL l ≤ l.length + DExpr.sL l
  | [] => by simp [DExpr.dL]
  | x :: l => by
    have h1 := DExpr.d_le x
    have h2 := DExpr.dL_le l
    simp only [DExpr.dL, DExpr.sL, List.length_cons]; omega
end
theorem DExpr.kid_s {x y : DExpr} (h : y ∈ x.fKids) : y.s < x.s := by
  have h1 := sum_mem DExpr.s h
  have h2 := List.length_pos_of_mem h
  rw [x.s_eq, szs_eq]; omega
theorem DExpr.part_s (x : DExpr) {k : Nat} (h : k < x.fKids.length) : k + ((x.fKids.take k).map DExpr.s).sum + x.fKids[k].s + 1 ≤ x.s := by
  have h1 := sum_take_succ DExpr.s x.fKids k h
  have h2 := sum_take_le DExpr.s x.fKids (k + 1)
  rw [x.s_eq, szs_eq]; omega
theorem DExpr.all_s (x : DExpr) : x.fKids.length + ((x.fKids.take x.fKids.length).map DExpr.s).sum = x.s := by
  rw [List.take_length, x.s_eq, szs_eq]
def keep47 : List Nat := [0, 1, 2, 3, 5, 7, 8, 9, 10]
def ib47 : List Nat := [1]
def mk47 : Marks := fun _ => ([], .nil, [])
set_option maxRecDepth 100000 in
theorem ExprSize_step (x : DExpr) (hs : x.s ≤ 4294967296) (hc : ∀ y ∈ x.fKids, Fn0 Tryz.prog 47 [.agg y.c] (I ((y.s : Int) + 1))) : Fn0 Tryz.prog 47 [.agg x.c] (I ((x.s : Int) + 1)) := by
  have hx := x.all_s
  rw [DExpr.c_eq x]
  refine fn0F 19 keep47 ib47 mk47 mix Tryz.func47 rfl (by kernel_rfl) (by simp) fun h => ?_
  simp (maxSteps := 1000000) -dsimp -implicitDefEqProofs only [go_sem, ↓reduceIte, keep47, ib47, mk47, Tryz.f47]
  repeat' (with_reducible first | intro _ | refine And.intro ?_ ?_)
  refine loopF (keep := keep47) (ib := ib47) (mk := mk47) mix (by kernel_rfl) (fun k : Nat => [(1, .ip 5 [x.c] 0 0), (3, I (1 + k + (((x.fKids.take k).map DExpr.s).sum : Int))), (7, sls 5 DExpr.c x.fKids), (8, I x.fKids.length), (9, I k)]) (fun _ => h) (fun k => k ≤ x.fKids.length) (fun k => x.fKids.length - k) 0 (by simp [SatL, tget, Heap.le_refl, DExpr.c_eq]) ?_
  intro k hk
  rcases Nat.lt_or_ge k x.fKids.length with hlt | hge
  · have ea : x.fKids[k]? = some x.fKids[k] := List.getElem?_eq_getElem hlt
    have hp := x.part_s hlt
    have h1 := sum_take_succ DExpr.s x.fKids k hlt
    have hcy := hc x.fKids[k] (List.getElem_mem hlt)
    simp only [DExpr.c_eq] at hcy
    simp (maxSteps := 1000000) -dsimp -implicitDefEqProofs only [go_sem, ↓reduceIte, keep47, ib47, mk47, Tryz.f47, ea, DExpr.c_eq, upd_upd]
    repeat' (with_reducible first | intro _ | refine And.intro ?_ ?_)
    all_goals try omega
    first | refine HFnF.mk (hcy) ?_ | refine CallSF.mk (hcy) ?_ | refine HFnF.mkAt (hcy) ?_ | refine CallSF.mk (FnAt.fn0 (hcy)) ?_
    simp (maxSteps := 1000000) -dsimp -implicitDefEqProofs only [go_sem, ↓reduceIte, keep47, ib47, mk47, Tryz.f47]
    rename_i n hn
    refine ⟨k + 1, ?_⟩
    repeat' (with_reducible refine And.intro ?_ ?_)
    all_goals try (rw [IntWalk.i64_in _ (by omega)]; first | rfl | omega)
    all_goals try omega
    all_goals try (repeat' (with_reducible first | exact Heap.le_refl _ | refine (le_upd (by first | assumption | exact And.right (by assumption) | exact upd_none.2 (by assumption))).2 ?_))
    all_goals try (simp only [DExpr.c_eq]; done)
  · have hk' : k = x.fKids.length := by omega
    subst hk'
    simp (maxSteps := 1000000) -dsimp -implicitDefEqProofs only [go_sem, ↓reduceIte, keep47, ib47, mk47, Tryz.f47, Nat.lt_irrefl]
    omega
theorem ExprSize (x : DExpr) (hs : x.s ≤ 4294967296) : Fn0 Tryz.prog 47 [.agg x.c] (I ((x.s : Int) + 1)) :=
  ExprSize_step x hs fun y hy => ExprSize y (by have := DExpr.kid_s hy; omega)
termination_by SizeOf.sizeOf x
decreasing_by exact DExpr.kid_lt hy
def keep70 : List Nat := [0, 1, 2, 3, 5, 7, 8, 9, 10]
def ib70 : List Nat := [1]
def mk70 : Marks := fun _ => ([], .nil, [])
set_option maxRecDepth 100000 in
theorem ExprDepth_step (x : DExpr) (hs : x.s ≤ 4294967296) (hc : ∀ y ∈ x.fKids, Fn0 Tryz.prog 70 [.agg y.c] (I (y.d : Int))) : Fn0 Tryz.prog 70 [.agg x.c] (I (x.d : Int)) := by
  have hd := x.d_le
  rw [DExpr.d_eq] at hd ⊢
  rw [DExpr.c_eq x]
  refine fn0F 20 keep70 ib70 mk70 mix Tryz.func70 rfl (by kernel_rfl) (by simp) fun h => ?_
  simp (maxSteps := 1000000) -dsimp -implicitDefEqProofs only [go_sem, ↓reduceIte, keep70, ib70, mk70, Tryz.f70]
  repeat' (with_reducible first | intro _ | refine And.intro ?_ ?_)
  refine loopF (keep := keep70) (ib := ib70) (mk := mk70) mix (by kernel_rfl) (fun k : Nat => [(1, .ip 5 [x.c] 0 0), (3, I (DExpr.dL (x.fKids.take k) : Int)), (7, sls 5 DExpr.c x.fKids), (8, I x.fKids.length), (9, I k)]) (fun _ => h) (fun k => k ≤ x.fKids.length) (fun k => x.fKids.length - k) 0 (by simp [SatL, tget, Heap.le_refl, DExpr.c_eq, DExpr.dL]) ?_
  intro k hk
  rcases Nat.lt_or_ge k x.fKids.length with hlt | hge
  · have ea : x.fKids[k]? = some x.fKids[k] := List.getElem?_eq_getElem hlt
    have h1 := DExpr.dL_take hlt
    have hcy := hc x.fKids[k] (List.getElem_mem hlt)
    simp only [DExpr.c_eq] at hcy
    simp (maxSteps := 1000000) -dsimp -implicitDefEqProofs only [go_sem, ↓reduceIte, keep70, ib70, mk70, Tryz.f70, ea, DExpr.c_eq, upd_upd]
    repeat' (with_reducible first | intro _ | refine And.intro ?_ ?_)
    all_goals try omega
    first | refine HFnF.mk (hcy) ?_ | refine CallSF.mk (hcy) ?_ | refine HFnF.mkAt (hcy) ?_ | refine CallSF.mk (FnAt.fn0 (hcy)) ?_
    simp (maxSteps := 1000000) -dsimp -implicitDefEqProofs only [go_sem, ↓reduceIte, keep70, ib70, mk70, Tryz.f70]
    repeat' (with_reducible first | intro _ | refine And.intro ?_ ?_)
    all_goals try rfl
    rename_i n hn
    refine ⟨k + 1, ?_⟩
    repeat' (with_reducible refine And.intro ?_ ?_)
    all_goals try (rw [IntWalk.i64_in _ (by omega)]; first | rfl | omega)
    all_goals try omega
    all_goals try (repeat' (with_reducible first | exact Heap.le_refl _ | refine (le_upd (by first | assumption | exact And.right (by assumption) | exact upd_none.2 (by assumption))).2 ?_))
    all_goals try (simp only [DExpr.c_eq]; done)
  · have hk' : k = x.fKids.length := by omega
    subst hk'
    simp (maxSteps := 1000000) -dsimp -implicitDefEqProofs only [go_sem, ↓reduceIte, keep70, ib70, mk70, Tryz.f70, Nat.lt_irrefl]
    rw [List.take_length, IntWalk.i64_in _ (by omega)]; omega
theorem ExprDepth (x : DExpr) (hs : x.s ≤ 4294967296) : Fn0 Tryz.prog 70 [.agg x.c] (I (x.d : Int)) :=
  ExprDepth_step x hs fun y hy => ExprDepth y (by have := DExpr.kid_s hy; omega)
termination_by SizeOf.sizeOf x
decreasing_by exact DExpr.kid_lt hy
def keep62 : List Nat := [0, 1, 4, 5, 18]
def ib62 : List Nat := []
def mk62 : Marks := fun _ => ([], .nil, [])
set_option maxRecDepth 100000 in
theorem l02Left_step (x : DExpr) (left : Int) (h0 : 0 ≤ left) (h9 : left ≤ 4294967296) (hs : x.s ≤ 4294967296) (hc : ∀ y ∈ x.fKids, ∀ left : Int, 0 ≤ left → left ≤ 4294967296 → Fn0 Tryz.prog 62 [.ip 5 [y.c] 0 0, I left] (I (lft left (y.s + 1)))) : Fn0 Tryz.prog 62 [.ip 5 [x.c] 0 0, I left] (I (lft left (x.s + 1))) := by
  have hx := x.all_s
  rw [DExpr.c_eq x]
  refine fn0F 30 keep62 ib62 mk62 mix Tryz.func62 rfl (by kernel_rfl) (by simp) fun h => ?_
  simp (maxSteps := 1000000) -dsimp -implicitDefEqProofs only [go_sem, ↓reduceIte, keep62, ib62, mk62, Tryz.f62]
  repeat' (with_reducible first | intro _ | refine And.intro ?_ ?_)
  refine loopF (keep := keep62) (ib := ib62) (mk := mk62) mix (by kernel_rfl) (fun k : Nat => [(0, .ip 5 [x.c] 0 0), (1, I (lft left (1 + k + ((x.fKids.take k).map DExpr.s).sum))), (5, I k)]) (fun _ => h) (fun k => k ≤ x.fKids.length) (fun k => x.fKids.length - k) 0 (by simp [SatL, tget, Heap.le_refl, DExpr.c_eq]; rw [IntWalk.i64_in _ (by omega)]; unfold lft; split <;> omega) ?_
  intro k hk
  rcases Nat.lt_or_ge k x.fKids.length with hlt | hge
  · have hp := x.part_s hlt
    have h1 := sum_take_succ DExpr.s x.fKids k hlt
    rcases lft_cases left (1 + k + ((x.fKids.take k).map DExpr.s).sum) with ⟨e, hl⟩ | ⟨e, hl⟩
    · rw [e, DExpr.c_eq x]
      simp (maxSteps := 1000000) -dsimp -implicitDefEqProofs only [go_sem, ↓reduceIte, keep62, ib62, mk62, Tryz.f62]
      repeat' (with_reducible first | intro _ | refine And.intro ?_ ?_)
      all_goals try omega
      exact (lft_neg (by omega)).symm
    · rw [e, DExpr.c_eq x]
      simp (maxSteps := 1000000) -dsimp -implicitDefEqProofs only [go_sem, ↓reduceIte, keep62, ib62, mk62, Tryz.f62]
      repeat' (with_reducible first | intro _ | refine And.intro ?_ ?_)
      all_goals try omega
      first | refine CallSF.mk ((hc x.fKids[k] (List.getElem_mem hlt) _ hl (by omega)).sub (by repeat' (first | exact SubL.nil | refine SubL.cons ?_ ?_ | exact Sub.refl _ | (rw [DExpr.c_eq]; exact Sub.refl _) | exact Sub.ipAt rfl rfl rfl | exact Sub.ip (map_get (by omega)) (by simp) | exact Sub.ipAt (map_get (by omega)) rfl rfl | exact Sub.ip (by simp [*]) (by simp) | exact Sub.ipAt (by simp [*]) (by rfl) (by rfl)))) ?_ | refine HFnF.mk ((hc x.fKids[k] (List.getElem_mem hlt) _ hl (by omega)).sub (by repeat' (first | exact SubL.nil | refine SubL.cons ?_ ?_ | exact Sub.refl _ | (rw [DExpr.c_eq]; exact Sub.refl _) | exact Sub.ipAt rfl rfl rfl | exact Sub.ip (map_get (by omega)) (by simp) | exact Sub.ipAt (map_get (by omega)) rfl rfl | exact Sub.ip (by simp [*]) (by simp) | exact Sub.ipAt (by simp [*]) (by rfl) (by rfl)))) ?_
      simp (maxSteps := 1000000) -dsimp -implicitDefEqProofs only [go_sem, ↓reduceIte, keep62, ib62, mk62, Tryz.f62]
      refine ⟨k + 1, ?_⟩
      repeat' (with_reducible refine And.intro ?_ ?_)
      all_goals try (rw [IntWalk.i64_in _ (by omega)]; first | rfl | omega)
      all_goals try omega
      all_goals try (repeat' (with_reducible first | exact Heap.le_refl _ | refine (le_upd (by first | assumption | exact And.right (by assumption) | exact upd_none.2 (by assumption))).2 ?_))
      all_goals try (simp only [DExpr.c_eq]; done)
      all_goals (rw [h1]; unfold lft; split <;> split <;> omega)
  · have hk' : k = x.fKids.length := by omega
    subst hk'
    rw [DExpr.c_eq x]
    simp (maxSteps := 1000000) -dsimp -implicitDefEqProofs only [go_sem, ↓reduceIte, keep62, ib62, mk62, Tryz.f62, Nat.lt_irrefl]
    rw [show 1 + x.fKids.length + ((x.fKids.take x.fKids.length).map DExpr.s).sum = x.s + 1 by omega]
    exact fun _ => rfl
theorem l02Left (x : DExpr) (left : Int) (h0 : 0 ≤ left) (h9 : left ≤ 4294967296) (hs : x.s ≤ 4294967296) : Fn0 Tryz.prog 62 [.ip 5 [x.c] 0 0, I left] (I (lft left (x.s + 1))) :=
  l02Left_step x left h0 h9 hs fun y hy left h0 h9 => l02Left y left h0 h9 (by have := DExpr.kid_s hy; omega)
termination_by SizeOf.sizeOf x
decreasing_by exact DExpr.kid_lt hy
def keep93 : List Nat := [0, 1, 4, 7]
def ib93 : List Nat := []
def mk93 : Marks := fun _ => ([], .nil, [])
theorem l00Max (a b : Int) : Fn0 Tryz.prog 93 [I a, I b] (I (max a b)) := by
  refine fn0F 10 keep93 ib93 mk93 mix Tryz.func93 rfl (by kernel_rfl) (by simp) fun h => ?_
  simp (maxSteps := 1000000) -dsimp -implicitDefEqProofs only [go_sem, ↓reduceIte, keep93, ib93, mk93, Tryz.f93]
  repeat' (with_reducible first | intro _ | refine And.intro ?_ ?_)
  all_goals omega
def keep64 : List Nat := [0, 2, 3, 4, 11]
def ib64 : List Nat := []
def mk64 : Marks := fun _ => ([], .nil, [])
set_option maxRecDepth 100000 in
theorem l02Depth_step (x : DExpr) (hs : x.s ≤ 4294967296) (hc : ∀ y ∈ x.fKids, Fn0 Tryz.prog 64 [.ip 5 [y.c] 0 0] (I (y.d : Int))) : Fn0 Tryz.prog 64 [.ip 5 [x.c] 0 0] (I (x.d : Int)) := by
  have hd := x.d_le
  rw [DExpr.d_eq] at hd ⊢
  rw [DExpr.c_eq x]
  refine fn0F 25 keep64 ib64 mk64 mix Tryz.func64 rfl (by kernel_rfl) (by simp) fun h => ?_
  simp (maxSteps := 1000000) -dsimp -implicitDefEqProofs only [go_sem, ↓reduceIte, keep64, ib64, mk64, Tryz.f64]
  repeat' (with_reducible first | intro _ | refine And.intro ?_ ?_)
  refine loopF (keep := keep64) (ib := ib64) (mk := mk64) mix (by kernel_rfl) (fun k : Nat => [(0, .ip 5 [x.c] 0 0), (3, I (DExpr.dL (x.fKids.take k) : Int)), (4, I k)]) (fun _ => h) (fun k => k ≤ x.fKids.length) (fun k => x.fKids.length - k) 0 (by simp [SatL, tget, Heap.le_refl, DExpr.c_eq, DExpr.dL]) ?_
  intro k hk
  rw [DExpr.c_eq x]
  rcases Nat.lt_or_ge k x.fKids.length with hlt | hge
  · have h1 := DExpr.dL_take hlt
    simp (maxSteps := 1000000) -dsimp -implicitDefEqProofs only [go_sem, ↓reduceIte, keep64, ib64, mk64, Tryz.f64]
    repeat' (with_reducible first | intro _ | refine And.intro ?_ ?_)
    all_goals try omega
    first | refine CallSF.mk ((hc x.fKids[k] (List.getElem_mem hlt)).sub (by repeat' (first | exact SubL.nil | refine SubL.cons ?_ ?_ | exact Sub.refl _ | (rw [DExpr.c_eq]; exact Sub.refl _) | exact Sub.ipAt rfl rfl rfl | exact Sub.ip (map_get (by omega)) (by simp) | exact Sub.ipAt (map_get (by omega)) rfl rfl | exact Sub.ip (by simp [*]) (by simp) | exact Sub.ipAt (by simp [*]) (by rfl) (by rfl)))) ?_ | refine HFnF.mk ((hc x.fKids[k] (List.getElem_mem hlt)).sub (by repeat' (first | exact SubL.nil | refine SubL.cons ?_ ?_ | exact Sub.refl _ | (rw [DExpr.c_eq]; exact Sub.refl _) | exact Sub.ipAt rfl rfl rfl | exact Sub.ip (map_get (by omega)) (by simp) | exact Sub.ipAt (map_get (by omega)) rfl rfl | exact Sub.ip (by simp [*]) (by simp) | exact Sub.ipAt (by simp [*]) (by rfl) (by rfl)))) ?_
    simp (maxSteps := 1000000) -dsimp -implicitDefEqProofs only [go_sem, ↓reduceIte, keep64, ib64, mk64, Tryz.f64]
    first | refine HFnF.mk (l00Max _ _) ?_ | refine CallSF.mk (l00Max _ _) ?_ | refine HFnF.mkAt (l00Max _ _) ?_ | refine CallSF.mk (FnAt.fn0 (l00Max _ _)) ?_
    simp (maxSteps := 1000000) -dsimp -implicitDefEqProofs only [go_sem, ↓reduceIte, keep64, ib64, mk64, Tryz.f64]
    refine ⟨k + 1, ?_⟩
    repeat' (with_reducible refine And.intro ?_ ?_)
    all_goals try (rw [IntWalk.i64_in _ (by omega)]; first | rfl | omega)
    all_goals try omega
    all_goals try (repeat' (with_reducible first | exact Heap.le_refl _ | refine (le_upd (by first | assumption | exact And.right (by assumption) | exact upd_none.2 (by assumption))).2 ?_))
    all_goals try (simp only [DExpr.c_eq]; done)
  · have hk' : k = x.fKids.length := by omega
    subst hk'
    simp (maxSteps := 1000000) -dsimp -implicitDefEqProofs only [go_sem, ↓reduceIte, keep64, ib64, mk64, Tryz.f64, Nat.lt_irrefl]
    intro _
    rw [List.take_length, IntWalk.i64_in _ (by omega)]; omega
theorem l02Depth (x : DExpr) (hs : x.s ≤ 4294967296) : Fn0 Tryz.prog 64 [.ip 5 [x.c] 0 0] (I (x.d : Int)) :=
  l02Depth_step x hs fun y hy => l02Depth y (by have := DExpr.kid_s hy; omega)
termination_by SizeOf.sizeOf x
decreasing_by exact DExpr.kid_lt hy

open Go.Proofs
set_option linter.unusedVariables false
set_option linter.unusedSimpArgs false
def kidsN (k : Int) : Int := if k = 1 ∨ k = 2 then 0 else if k = 3 ∨ k = 4 ∨ k = 5 ∨ k = 6 ∨ k = 9 then 2 else if k = 7 then 1 else if k = 8 then 3 else -1
/-- What is asked of one node. -/
def nodeOK (p : DProgram) (e : DExpr) (vars funcs : Int) : Prop :=
  if e.fKind = 10 ∨ e.fKind = 11 then
    0 ≤ e.fNum ∧ e.fNum ≤ funcs - 1 ∧ ∀ f, p.fFuncs[e.fNum.toNat]? = some f →
      0 ≤ e.fPick ∧ e.fPick ≤ (f.fOuts.length : Int) - 1 ∧ (e.fKids.length : Int) = f.fParams ∧ (e.fKind = 10 → e.fCount = 0) ∧ (e.fKind = 11 → 0 ≤ e.fCount ∧ e.fCount ≤ 8 ∧ (f.fOuts.length : Int) = f.fParams)
  else kidsN e.fKind = e.fKids.length ∧ e.fPick = 0 ∧ e.fCount = 0 ∧ (e.fKind = 1 → Num e.fNum) ∧ (e.fKind = 2 → 0 ≤ e.fNum ∧ e.fNum ≤ vars - 1) ∧ (e.fKind ≠ 1 → e.fKind ≠ 2 → e.fNum = 0)
noncomputable instance (p : DProgram) (e : DExpr) (vars funcs : Int) : Decidable (nodeOK p e vars funcs) := Classical.propDecidable _
def moreV (kind : Int) (i : Nat) (vars : Int) : Int := if kind = 9 ∧ i = 1 then vars + 1 else vars
mutual
def DExpr.ok (p : DProgram) (funcs : Int) : DExpr → Int → Prop
  | .mk a b c d kids, vars => nodeOK p (.mk a b c d kids) vars funcs ∧ DExpr.okL p funcs a kids 0 vars
def DExpr.okL (p : DProgram) (funcs : Int) (kind : Int) : List DExpr → Nat → Int → Prop
  | [], _, _ => True
  | x :: l, i, vars => x.ok p funcs (moreV kind i vars) ∧ DExpr.okL p funcs kind l (i + 1) vars
end
noncomputable instance (p : DProgram) (funcs : Int) (e : DExpr) (vars : Int) : Decidable (e.ok p funcs vars) := Classical.propDecidable _
theorem DExpr.okL_iff (p : DProgram) (funcs kind : Int) : ∀ (l : List DExpr) (i : Nat) (vars : Int), DExpr.okL p funcs kind l i vars ↔ ∀ (k : Nat) (h : k < l.length), l[k].ok p funcs (moreV kind (i + k) vars)
  | [], i, vars => by simp [DExpr.okL]
  | x :: l, i, vars => by
    rw [DExpr.okL, DExpr.okL_iff p funcs kind l (i + 1) vars]
    constructor
    · rintro ⟨h1, h2⟩ k hk
      cases k with
      | zero => exact h1
      | succ k => have := h2 k (by simpa using hk); rw [show i + 1 + k = i + (k + 1) by omega] at this; exact this
    · intro h
      refine ⟨h 0 (by simp), fun k hk => ?_⟩
      have := h (k + 1) (by simpa using hk)
      rw [show i + 1 + k = i + (k + 1) by omega]; exact this
theorem DExpr.ok_iff (p : DProgram) (funcs : Int) (x : DExpr) (vars : Int) : x.ok p funcs vars ↔ nodeOK p x vars funcs ∧ ∀ (k : Nat) (h : k < x.fKids.length), x.fKids[k].ok p funcs (moreV x.fKind k vars) := by
  cases x with
  | mk a b c d kids =>
    rw [DExpr.ok, DExpr.okL_iff]
    simp only [Nat.zero_add, DExpr.fKids, DExpr.fKind]
theorem DProgram.len_s (p : DProgram) : p.fFuncs.length ≤ p.s := by rw [p.s_eq, szs_eq]; omega
theorem DProgram.func_s {p : DProgram} {f : DFunc} (h : f ∈ p.fFuncs) : f.s + p.fFuncs.length ≤ p.s := by
  have := sum_mem DFunc.s h
  rw [p.s_eq, szs_eq]; omega
theorem DFunc.outs_s (f : DFunc) : f.fOuts.length ≤ f.s := by rw [f.s_eq, szs_eq]; omega
theorem DFunc.out_s {f : DFunc} {e : DExpr} (h : e ∈ f.fOuts) : e.s < f.s := by
  have := sum_mem DExpr.s h
  have := List.length_pos_of_mem h
  rw [f.s_eq, szs_eq]; omega
def keep110 : List Nat := [0, 2, 3, 4, 7, 13, 15]
def ib110 : List Nat := []
def mk110 : Marks := fun _ => ([], .nil, [])
theorem l02Kids (k : Int) : Fn0 Tryz.prog 110 [I k] (I (kidsN k)) := by
  refine fn0F 17 keep110 ib110 mk110 mix Tryz.func110 rfl (by kernel_rfl) (by simp) fun h => ?_
  simp (maxSteps := 1000000) -dsimp -implicitDefEqProofs only [go_sem, ↓reduceIte, keep110, ib110, mk110, Tryz.f110]
  repeat' (with_reducible first | intro _ | refine And.intro ?_ ?_)
  all_goals try (first | (simp [kidsN, *]; done) | omega | (grind [kidsN]) | (simp [kidsN]; omega))
theorem nodeOK_call {p : DProgram} {e : DExpr} {vars funcs : Int} (hk : e.fKind = 10 ∨ e.fKind = 11) {f : DFunc} (ef : p.fFuncs[e.fNum.toNat]? = some f) : nodeOK p e vars funcs ↔
    0 ≤ e.fNum ∧ e.fNum ≤ funcs - 1 ∧ 0 ≤ e.fPick ∧ e.fPick ≤ (f.fOuts.length : Int) - 1 ∧ (e.fKids.length : Int) = f.fParams ∧ (e.fKind = 10 → e.fCount = 0) ∧ (e.fKind = 11 → 0 ≤ e.fCount ∧ e.fCount ≤ 8 ∧ (f.fOuts.length : Int) = f.fParams) := by
  unfold nodeOK
  rw [if_pos hk]
  simp [ef]
theorem nodeOK_range {p : DProgram} {e : DExpr} {vars funcs : Int} (hk : e.fKind = 10 ∨ e.fKind = 11) (hr : ¬ (0 ≤ e.fNum ∧ e.fNum ≤ funcs - 1)) : ¬ nodeOK p e vars funcs := by
  unfold nodeOK
  rw [if_pos hk]
  intro h
  exact hr ⟨h.1, h.2.1⟩
theorem nodeOK_plain {p : DProgram} {e : DExpr} {vars funcs : Int} (hk : ¬ (e.fKind = 10 ∨ e.fKind = 11)) : nodeOK p e vars funcs ↔
    kidsN e.fKind = e.fKids.length ∧ e.fPick = 0 ∧ e.fCount = 0 ∧ (e.fKind = 1 → Num e.fNum) ∧ (e.fKind = 2 → 0 ≤ e.fNum ∧ e.fNum ≤ vars - 1) ∧ (e.fKind ≠ 1 → e.fKind ≠ 2 → e.fNum = 0) := by
  unfold nodeOK
  rw [if_neg hk]
def keep94 : List Nat := [0, 1, 2, 3, 8, 9, 21, 29, 62, 67, 114, 118, 119, 126]
def ib94 : List Nat := []
def mk94 : Marks := fun id => match id with | 4 => ([], (.op 0 (.op 1 (.op 2 (.op 3 (.op 4 (.op 5 (.op 6 (.op 7 (.op 8 (.op 9 .nil)))))))))), []) | 5 => ([], (.op 0 (.op 1 (.op 2 (.op 3 (.op 4 (.op 5 (.op 6 (.op 7 (.op 8 (.op 9 (.op 10 (.op 11 (.op 12 (.op 13 (.op 14 (.op 15 (.op 16 (.op 17 (.op 18 (.op 19 (.op 20 (.op 21 (.op 22 (.op 23 .nil)))))))))))))))))))))))), []) | 9 => ([], (.op 0 (.op 1 (.op 2 (.op 3 (.op 4 (.op 5 (.op 6 (.op 7 (.op 8 (.op 9 (.op 10 (.op 11 (.op 12 (.op 13 (.op 14 (.op 15 (.op 16 (.op 17 .nil)))))))))))))))))), []) | 10 => ([], (.op 0 (.op 1 (.op 2 (.op 3 (.op 4 (.op 5 (.op 6 (.op 7 (.op 8 (.op 9 (.op 10 (.op 11 (.op 12 (.op 13 (.op 14 (.op 15 (.op 16 (.op 17 (.op 18 (.op 19 (.op 20 (.op 21 (.op 22 (.op 23 (.op 24 .nil))))))))))))))))))))))))), []) | _ => ([], .nil, [])
set_option maxRecDepth 100000 in
theorem l02Node (p : DProgram) (e : DExpr) (vars funcs : Int) (hv : 0 ≤ vars) (hv2 : vars ≤ 4294967296) (hf0 : 0 ≤ funcs) (hf : funcs ≤ p.fFuncs.length) (hps : p.s ≤ 4294967296) : Fn0 Tryz.prog 94 [.ip 1 [p.c] 0 0, .ip 5 [e.c] 0 0, I vars, I funcs] (.bool (decide (nodeOK p e vars funcs))) := by
  have hl := p.len_s
  have e1 : IntKind.i64.wrap (funcs - 1) = funcs - 1 := IntWalk.i64_in _ (by omega)
  have e2 : IntKind.i64.wrap (vars - 1) = vars - 1 := IntWalk.i64_in _ (by omega)
  rw [DExpr.c_eq]
  simp only [DProgram.c_eq]
  by_cases hk : e.fKind = 10 ∨ e.fKind = 11
  · by_cases hr : 0 ≤ e.fNum ∧ e.fNum ≤ funcs - 1
    · obtain ⟨f, ef⟩ : ∃ f, p.fFuncs[e.fNum.toNat]? = some f := ⟨_, List.getElem?_eq_getElem (by omega)⟩
      have hn := nodeOK_call (vars := vars) (funcs := funcs) hk ef
      have hfs := DProgram.func_s (List.mem_of_getElem? ef)
      have hos := f.outs_s
      refine fn0F 140 keep94 ib94 mk94 mix Tryz.func94 rfl (by kernel_rfl) (by simp) fun h => ?_
      simp (maxSteps := 1000000) -dsimp -implicitDefEqProofs only [go_sem, ↓reduceIte, keep94, ib94, mk94, Tryz.f94, e1, e2]
      repeat' (with_reducible first | intro _ | refine And.intro ?_ ?_)
      all_goals try omega
      all_goals (first | refine HFnF.mk (l00In e.fNum 0 (funcs - 1)) ?_ | refine CallSF.mk (l00In e.fNum 0 (funcs - 1)) ?_)
      all_goals simp (maxSteps := 1000000) -dsimp -implicitDefEqProofs only [go_sem, ↓reduceIte, keep94, ib94, mk94, Tryz.f94, ef, DFunc.c_eq]
      all_goals repeat' (with_reducible first | intro _ | refine And.intro ?_ ?_)
      all_goals try omega
      all_goals try simp (disch := omega) only [IntWalk.i64_in]
      all_goals (first | refine HFnF.mk (l00In e.fPick 0 (f.fOuts.length - 1)) ?_ | refine CallSF.mk (l00In e.fPick 0 (f.fOuts.length - 1)) ?_)
      all_goals simp (maxSteps := 1000000) -dsimp -implicitDefEqProofs only [go_sem, ↓reduceIte, keep94, ib94, mk94, Tryz.f94, ef, DFunc.c_eq]
      all_goals repeat' (with_reducible first | intro _ | refine And.intro ?_ ?_)
      all_goals try omega
      all_goals try (first | (simp [*]; done) | omega | grind)
      first | refine HFnF.mk (l00In e.fCount 0 8) ?_ | refine CallSF.mk (l00In e.fCount 0 8) ?_ | refine HFnF.mkAt (l00In e.fCount 0 8) ?_ | refine CallSF.mk (FnAt.fn0 (l00In e.fCount 0 8)) ?_
      simp (maxSteps := 1000000) -dsimp -implicitDefEqProofs only [go_sem, ↓reduceIte, keep94, ib94, mk94, Tryz.f94, ef, DFunc.c_eq]
      repeat' (with_reducible first | intro _ | refine And.intro ?_ ?_)
      all_goals try (first | (simp [*]; done) | omega | grind)
    · have hn := nodeOK_range (p := p) (vars := vars) hk hr
      refine fn0F 140 keep94 ib94 mk94 mix Tryz.func94 rfl (by kernel_rfl) (by simp) fun h => ?_
      simp (maxSteps := 1000000) -dsimp -implicitDefEqProofs only [go_sem, ↓reduceIte, keep94, ib94, mk94, Tryz.f94, e1, e2]
      repeat' (with_reducible first | intro _ | refine And.intro ?_ ?_)
      all_goals try omega
      all_goals (first | refine HFnF.mk (l00In e.fNum 0 (funcs - 1)) ?_ | refine CallSF.mk (l00In e.fNum 0 (funcs - 1)) ?_)
      all_goals simp (maxSteps := 1000000) -dsimp -implicitDefEqProofs only [go_sem, ↓reduceIte, keep94, ib94, mk94, Tryz.f94]
      all_goals repeat' (with_reducible first | intro _ | refine And.intro ?_ ?_)
      all_goals try (first | (simp [*]; done) | omega | grind)
  · have hn := nodeOK_plain (p := p) (vars := vars) (funcs := funcs) hk
    refine fn0F 140 keep94 ib94 mk94 mix Tryz.func94 rfl (by kernel_rfl) (by simp) fun h => ?_
    simp (maxSteps := 1000000) -dsimp -implicitDefEqProofs only [go_sem, ↓reduceIte, keep94, ib94, mk94, Tryz.f94, e1, e2]
    repeat' (with_reducible first | intro _ | refine And.intro ?_ ?_)
    all_goals try omega
    first | refine HFnF.mk (l02Kids e.fKind) ?_ | refine CallSF.mk (l02Kids e.fKind) ?_ | refine HFnF.mkAt (l02Kids e.fKind) ?_ | refine CallSF.mk (FnAt.fn0 (l02Kids e.fKind)) ?_
    simp (maxSteps := 1000000) -dsimp -implicitDefEqProofs only [go_sem, ↓reduceIte, keep94, ib94, mk94, Tryz.f94]
    repeat' (with_reducible first | intro _ | refine And.intro ?_ ?_)
    all_goals try (first | (simp [*]; done) | omega | grind)
    · first | refine HFnF.mk (l01Number e.fNum) ?_ | refine CallSF.mk (l01Number e.fNum) ?_ | refine HFnF.mkAt (l01Number e.fNum) ?_ | refine CallSF.mk (FnAt.fn0 (l01Number e.fNum)) ?_
      simp (maxSteps := 1000000) -dsimp -implicitDefEqProofs only [go_sem, ↓reduceIte, keep94, ib94, mk94, Tryz.f94]
      all_goals try (first | (simp [*]; done) | omega | grind)
    · all_goals try simp (disch := omega) only [IntWalk.i64_in]
      first | refine HFnF.mk (l00In e.fNum 0 (vars - 1)) ?_ | refine CallSF.mk (l00In e.fNum 0 (vars - 1)) ?_ | refine HFnF.mkAt (l00In e.fNum 0 (vars - 1)) ?_ | refine CallSF.mk (FnAt.fn0 (l00In e.fNum 0 (vars - 1))) ?_
      simp (maxSteps := 1000000) -dsimp -implicitDefEqProofs only [go_sem, ↓reduceIte, keep94, ib94, mk94, Tryz.f94]
      all_goals try (first | (simp [*]; done) | omega | grind)
def keep71 : List Nat := [0, 1, 2, 3, 4, 6, 7, 8, 9, 10, 11, 12, 25, 26, 38, 52, 68, 69, 81, 82, 94, 95, 104, 125, 152, 154, 155, 156, 157, 168, 175]
def ib71 : List Nat := [3, 4]
def mk71 : Marks := fun _ => ([], .nil, [])
open Go.Proofs
set_option linter.unusedVariables false
set_option linter.unusedSimpArgs false
def keep65 : List Nat := [0, 1, 2, 3, 8, 9, 10, 16, 23, 35, 48]
def ib65 : List Nat := []
def mk65 : Marks := fun _ => ([], .nil, [])
set_option maxRecDepth 100000 in
theorem l02Tree_step (p : DProgram) (e : DExpr) (vars funcs : Int) (hv : 0 ≤ vars) (hv2 : vars + e.s ≤ 4294967296) (hf0 : 0 ≤ funcs) (hf : funcs ≤ p.fFuncs.length) (hps : p.s ≤ 4294967296)
    (hc : ∀ y ∈ e.fKids, ∀ vars : Int, 0 ≤ vars → vars + y.s ≤ 4294967296 → Fn0 Tryz.prog 65 [.ip 1 [p.c] 0 0, .ip 5 [y.c] 0 0, I vars, I funcs] (.bool (decide (y.ok p funcs vars)))) :
    Fn0 Tryz.prog 65 [.ip 1 [p.c] 0 0, .ip 5 [e.c] 0 0, I vars, I funcs] (.bool (decide (e.ok p funcs vars))) := by
  have hok := DExpr.ok_iff p funcs e vars
  simp only [DExpr.c_eq, DProgram.c_eq]
  refine fn0F 49 keep65 ib65 mk65 mix Tryz.func65 rfl (by kernel_rfl) (by simp) fun h => ?_
  simp (maxSteps := 1000000) -dsimp -implicitDefEqProofs only [go_sem, ↓reduceIte, keep65, ib65, mk65, Tryz.f65]
  first | refine CallSF.mk ((l02Node p e vars funcs hv (by omega) hf0 hf hps).sub (by repeat' (first | exact SubL.nil | refine SubL.cons ?_ ?_ | exact Sub.refl _ | (rw [DExpr.c_eq]; exact Sub.refl _) | exact Sub.ipAt rfl rfl rfl | exact Sub.ip (map_get (by omega)) (by simp) | exact Sub.ipAt (map_get (by omega)) rfl rfl | exact Sub.ip (by simp [*]) (by simp) | exact Sub.ipAt (by simp [*]) (by rfl) (by rfl)))) ?_ | refine HFnF.mk ((l02Node p e vars funcs hv (by omega) hf0 hf hps).sub (by repeat' (first | exact SubL.nil | refine SubL.cons ?_ ?_ | exact Sub.refl _ | (rw [DExpr.c_eq]; exact Sub.refl _) | exact Sub.ipAt rfl rfl rfl | exact Sub.ip (map_get (by omega)) (by simp) | exact Sub.ipAt (map_get (by omega)) rfl rfl | exact Sub.ip (by simp [*]) (by simp) | exact Sub.ipAt (by simp [*]) (by rfl) (by rfl)))) ?_
  simp (maxSteps := 1000000) -dsimp -implicitDefEqProofs only [go_sem, ↓reduceIte, keep65, ib65, mk65, Tryz.f65]
  repeat' (with_reducible first | intro _ | refine And.intro ?_ ?_)
  · rename_i hn
    exact (decide_eq_false fun q => hn (hok.1 q).1).symm
  · rename_i hn
    refine loopF (keep := keep65) (ib := ib65) (mk := mk65) mix (by kernel_rfl) (fun k : Nat => [(0, .ip 1 [p.c] 0 0), (1, .ip 5 [e.c] 0 0), (2, I vars), (3, I funcs), (9, I k)]) (fun _ => h) (fun k => k ≤ e.fKids.length ∧ ∀ (j : Nat) (hj : j < e.fKids.length), j < k → e.fKids[j].ok p funcs (moreV e.fKind j vars)) (fun k => e.fKids.length - k) 0 (by simp [SatL, tget, Heap.le_refl, DExpr.c_eq, DProgram.c_eq]) ?_
    intro k ⟨hk, hp⟩
    simp only [DExpr.c_eq, DProgram.c_eq]
    rcases Nat.lt_or_ge k e.fKids.length with hlt | hge
    · have hs1 := DExpr.kid_s (List.getElem_mem hlt)
      have nx (q : e.fKids[k].ok p funcs (moreV e.fKind k vars)) : ∀ (j : Nat) (hj : j < e.fKids.length), j < k + 1 → e.fKids[j].ok p funcs (moreV e.fKind j vars) := by
        intro j hj hjk
        rcases Nat.lt_succ_iff_lt_or_eq.1 hjk with h1 | rfl
        · exact hp j hj h1
        · exact q
      have no (q : ¬ e.fKids[k].ok p funcs (moreV e.fKind k vars)) : false = decide (e.ok p funcs vars) := (decide_eq_false fun z => q ((hok.1 z).2 k hlt)).symm
      simp (maxSteps := 1000000) -dsimp -implicitDefEqProofs only [go_sem, ↓reduceIte, keep65, ib65, mk65, Tryz.f65]
      repeat' (with_reducible first | intro _ | refine And.intro ?_ ?_)
      all_goals try omega
      · have em : moreV e.fKind k vars = vars + 1 := if_pos ⟨by assumption, by omega⟩
        rw [em] at nx no
        all_goals try simp (disch := omega) only [IntWalk.i64_in]
        first | refine CallSF.mk ((hc e.fKids[k] (List.getElem_mem hlt) (vars + 1) (by omega) (by omega)).sub (by repeat' (first | exact SubL.nil | refine SubL.cons ?_ ?_ | exact Sub.refl _ | (rw [DExpr.c_eq]; exact Sub.refl _) | exact Sub.ipAt rfl rfl rfl | exact Sub.ip (map_get (by omega)) (by simp) | exact Sub.ipAt (map_get (by omega)) rfl rfl | exact Sub.ip (by simp [*]) (by simp) | exact Sub.ipAt (by simp [*]) (by rfl) (by rfl)))) ?_ | refine HFnF.mk ((hc e.fKids[k] (List.getElem_mem hlt) (vars + 1) (by omega) (by omega)).sub (by repeat' (first | exact SubL.nil | refine SubL.cons ?_ ?_ | exact Sub.refl _ | (rw [DExpr.c_eq]; exact Sub.refl _) | exact Sub.ipAt rfl rfl rfl | exact Sub.ip (map_get (by omega)) (by simp) | exact Sub.ipAt (map_get (by omega)) rfl rfl | exact Sub.ip (by simp [*]) (by simp) | exact Sub.ipAt (by simp [*]) (by rfl) (by rfl)))) ?_
        simp (maxSteps := 1000000) -dsimp -implicitDefEqProofs only [go_sem, ↓reduceIte, keep65, ib65, mk65, Tryz.f65]
        repeat' (with_reducible first | intro _ | refine And.intro ?_ ?_)
        · exact no (by assumption)
        · refine ⟨k + 1, ?_⟩
          repeat' (with_reducible refine And.intro ?_ ?_)
          all_goals try (rw [IntWalk.i64_in _ (by omega)]; first | rfl | omega)
          all_goals try omega
          all_goals try (repeat' (with_reducible first | exact Heap.le_refl _ | refine (le_upd (by first | assumption | exact And.right (by assumption) | exact upd_none.2 (by assumption))).2 ?_))
          all_goals try (simp only [DExpr.c_eq, DProgram.c_eq]; done)
          exact nx (by assumption)
      all_goals
        have em : moreV e.fKind k vars = vars := if_neg (by omega)
        rw [em] at nx no
        first | refine CallSF.mk ((hc e.fKids[k] (List.getElem_mem hlt) vars (by omega) (by omega)).sub (by repeat' (first | exact SubL.nil | refine SubL.cons ?_ ?_ | exact Sub.refl _ | (rw [DExpr.c_eq]; exact Sub.refl _) | exact Sub.ipAt rfl rfl rfl | exact Sub.ip (map_get (by omega)) (by simp) | exact Sub.ipAt (map_get (by omega)) rfl rfl | exact Sub.ip (by simp [*]) (by simp) | exact Sub.ipAt (by simp [*]) (by rfl) (by rfl)))) ?_ | refine HFnF.mk ((hc e.fKids[k] (List.getElem_mem hlt) vars (by omega) (by omega)).sub (by repeat' (first | exact SubL.nil | refine SubL.cons ?_ ?_ | exact Sub.refl _ | (rw [DExpr.c_eq]; exact Sub.refl _) | exact Sub.ipAt rfl rfl rfl | exact Sub.ip (map_get (by omega)) (by simp) | exact Sub.ipAt (map_get (by omega)) rfl rfl | exact Sub.ip (by simp [*]) (by simp) | exact Sub.ipAt (by simp [*]) (by rfl) (by rfl)))) ?_
        simp (maxSteps := 1000000) -dsimp -implicitDefEqProofs only [go_sem, ↓reduceIte, keep65, ib65, mk65, Tryz.f65]
        repeat' (with_reducible first | intro _ | refine And.intro ?_ ?_)
        · exact no (by assumption)
        · refine ⟨k + 1, ?_⟩
          repeat' (with_reducible refine And.intro ?_ ?_)
          all_goals try (rw [IntWalk.i64_in _ (by omega)]; first | rfl | omega)
          all_goals try omega
          all_goals try (repeat' (with_reducible first | exact Heap.le_refl _ | refine (le_upd (by first | assumption | exact And.right (by assumption) | exact upd_none.2 (by assumption))).2 ?_))
          all_goals try (simp only [DExpr.c_eq, DProgram.c_eq]; done)
          exact nx (by assumption)
    · have hk' : k = e.fKids.length := by omega
      subst hk'
      simp (maxSteps := 1000000) -dsimp -implicitDefEqProofs only [go_sem, ↓reduceIte, keep65, ib65, mk65, Tryz.f65, Nat.lt_irrefl]
      exact fun _ => (decide_eq_true (hok.2 ⟨hn, fun j hj => hp j hj hj⟩)).symm
theorem l02Tree (p : DProgram) (e : DExpr) (vars funcs : Int) (hv : 0 ≤ vars) (hv2 : vars + e.s ≤ 4294967296) (hf0 : 0 ≤ funcs) (hf : funcs ≤ p.fFuncs.length) (hps : p.s ≤ 4294967296) :
    Fn0 Tryz.prog 65 [.ip 1 [p.c] 0 0, .ip 5 [e.c] 0 0, I vars, I funcs] (.bool (decide (e.ok p funcs vars))) :=
  l02Tree_step p e vars funcs hv hv2 hf0 hf hps fun y hy vars hv hv2 => l02Tree p y vars funcs hv hv2 hf0 hf hps
termination_by SizeOf.sizeOf e
decreasing_by exact DExpr.kid_lt hy
open Go.Proofs
set_option linter.unusedVariables false
set_option linter.unusedSimpArgs false
set_option maxHeartbeats 8000000 in
set_option maxRecDepth 100000 in
theorem isFormed_plain (p : DProgram) (e : DExpr) (vars funcs : Int) (hv : 0 ≤ vars) (hv2 : vars + e.s ≤ 4294967296) (hf0 : 0 ≤ funcs) (hf : funcs ≤ p.fFuncs.length) (hps : p.s ≤ 4294967296)
    (hc : ∀ y ∈ e.fKids, ∀ vars : Int, 0 ≤ vars → vars + y.s ≤ 4294967296 → Fn0 Tryz.prog 71 [.agg [sls 3 DFunc.c p.fFuncs, I funcs], .agg y.c, I vars] (.bool (decide (y.ok p funcs vars)))) (hk : ¬ (e.fKind = 10 ∨ e.fKind = 11)) :
    Fn0 Tryz.prog 71 [.agg [sls 3 DFunc.c p.fFuncs, I funcs], .agg e.c, I vars] (.bool (decide (e.ok p funcs vars))) := by
  have hok := DExpr.ok_iff p funcs e vars
  have hl := p.len_s
  have e1 : IntKind.i64.wrap (funcs - 1) = funcs - 1 := IntWalk.i64_in _ (by omega)
  have e2 : IntKind.i64.wrap (vars - 1) = vars - 1 := IntWalk.i64_in _ (by omega)
  simp only [DExpr.c_eq]
  have no1 (hk : ¬ (e.fKind = 10 ∨ e.fKind = 11)) (q : ¬ (kidsN e.fKind = e.fKids.length ∧ e.fPick = 0 ∧ e.fCount = 0 ∧ (e.fKind = 1 → Num e.fNum) ∧ (e.fKind = 2 → 0 ≤ e.fNum ∧ e.fNum ≤ vars - 1) ∧ (e.fKind ≠ 1 → e.fKind ≠ 2 → e.fNum = 0))) : false = decide (e.ok p funcs vars) :=
    (decide_eq_false fun z => q ((nodeOK_plain hk).1 (hok.1 z).1)).symm
  have yes1 (hk : ¬ (e.fKind = 10 ∨ e.fKind = 11)) (q : kidsN e.fKind = e.fKids.length ∧ e.fPick = 0 ∧ e.fCount = 0 ∧ (e.fKind = 1 → Num e.fNum) ∧ (e.fKind = 2 → 0 ≤ e.fNum ∧ e.fNum ≤ vars - 1) ∧ (e.fKind ≠ 1 → e.fKind ≠ 2 → e.fNum = 0)) : nodeOK p e vars funcs := (nodeOK_plain hk).2 q
  refine fn0F 177 keep71 ib71 mk71 mix Tryz.func71 rfl (by kernel_rfl) (by simp) fun h => ?_
  simp (maxSteps := 1000000) -dsimp -implicitDefEqProofs only [go_sem, ↓reduceIte, keep71, ib71, mk71, Tryz.f71, e1, e2]
  repeat' (with_reducible first | intro _ | refine And.intro ?_ ?_)
  all_goals try omega
  all_goals try (refine no1 (by omega) ?_; simp only [kidsN]; grind)
  · first | refine HFnF.mk (isNumber e.fNum) ?_ | refine CallSF.mk (isNumber e.fNum) ?_ | refine HFnF.mkAt (isNumber e.fNum) ?_ | refine CallSF.mk (FnAt.fn0 (isNumber e.fNum)) ?_
    simp (maxSteps := 1000000) -dsimp -implicitDefEqProofs only [go_sem, ↓reduceIte, keep71, ib71, mk71, Tryz.f71]
    rw [decide_eq_decide, hok, nodeOK_plain hk]
    have : e.fKids.length = 0 := by omega
    constructor
    · intro q
      exact ⟨by simp only [kidsN]; grind, fun k hk => by omega⟩
    · intro q
      grind
  · first | refine HFnF.mk (within e.fNum 0 (vars - 1)) ?_ | refine CallSF.mk (within e.fNum 0 (vars - 1)) ?_ | refine HFnF.mkAt (within e.fNum 0 (vars - 1)) ?_ | refine CallSF.mk (FnAt.fn0 (within e.fNum 0 (vars - 1))) ?_
    simp (maxSteps := 1000000) -dsimp -implicitDefEqProofs only [go_sem, ↓reduceIte, keep71, ib71, mk71, Tryz.f71]
    rw [decide_eq_decide, hok, nodeOK_plain hk]
    have : e.fKids.length = 0 := by omega
    constructor
    · intro q
      exact ⟨by simp only [kidsN]; grind, fun k hk => by omega⟩
    · intro q
      grind
  all_goals
    have hn := yes1 hk (by simp only [kidsN]; grind)
    clear no1 yes1
    refine loopF (keep := keep71) (ib := ib71) (mk := mk71) mix (by kernel_rfl) (fun k : Nat => [(2, I vars), (3, .ip 2 [[sls 3 DFunc.c p.fFuncs, I funcs]] 0 0), (4, .ip 5 [e.c] 0 0), (154, sls 5 DExpr.c e.fKids), (155, I e.fKids.length), (156, I k)]) (fun _ => h) (fun k => k ≤ e.fKids.length ∧ ∀ (j : Nat) (hj : j < e.fKids.length), j < k → e.fKids[j].ok p funcs (moreV e.fKind j vars)) (fun k => e.fKids.length - k) 0 (by refine ⟨by simp [SatL, tget, DExpr.c_eq], by repeat' (with_reducible first | exact Heap.le_refl _ | refine (le_upd (by first | assumption | exact And.right (by assumption) | exact upd_none.2 (by assumption))).2 ?_), by simp⟩) ?_
    intro k ⟨hk, hp⟩
    simp only [DExpr.c_eq]
    rcases Nat.lt_or_ge k e.fKids.length with hlt | hge
    · have hs1 := DExpr.kid_s (List.getElem_mem hlt)
      have nx (q : e.fKids[k].ok p funcs (moreV e.fKind k vars)) : ∀ (j : Nat) (hj : j < e.fKids.length), j < k + 1 → e.fKids[j].ok p funcs (moreV e.fKind j vars) := by
        intro j hj hjk
        rcases Nat.lt_succ_iff_lt_or_eq.1 hjk with h1 | rfl
        · exact hp j hj h1
        · exact q
      have no (q : ¬ e.fKids[k].ok p funcs (moreV e.fKind k vars)) : false = decide (e.ok p funcs vars) := (decide_eq_false fun z => q ((hok.1 z).2 k hlt)).symm
      have ea : e.fKids[k]? = some e.fKids[k] := List.getElem?_eq_getElem hlt
      rcases Decidable.em (e.fKind = 9 ∧ k = 1) with e9 | e9
      · have em : moreV e.fKind k vars = vars + 1 := if_pos e9
        rw [em] at nx no
        have hcy := hc e.fKids[k] (List.getElem_mem hlt) (vars + 1) (by omega) (by omega)
        simp only [DExpr.c_eq] at hcy
        simp (maxSteps := 1000000) -dsimp -implicitDefEqProofs only [go_sem, ↓reduceIte, keep71, ib71, mk71, Tryz.f71, ea, DExpr.c_eq, upd_upd]
        repeat' (with_reducible first | intro _ | refine And.intro ?_ ?_)
        all_goals try omega
        all_goals try simp (disch := omega) only [IntWalk.i64_in]
        all_goals (first | refine HFnF.mk (hcy) ?_ | refine CallSF.mk (hcy) ?_)
        all_goals simp (maxSteps := 1000000) -dsimp -implicitDefEqProofs only [go_sem, ↓reduceIte, keep71, ib71, mk71, Tryz.f71]
        all_goals repeat' (with_reducible first | intro _ | refine And.intro ?_ ?_)
        all_goals first | exact no (by assumption) | exact Heap.le_refl _ | skip
        all_goals try (exact (le_upd (by assumption)).2 (Heap.le_refl _))
        all_goals
          refine ⟨k + 1, ?_⟩
          repeat' (with_reducible refine And.intro ?_ ?_)
          all_goals try (rw [IntWalk.i64_in _ (by omega)]; first | rfl | omega)
          all_goals try omega
          all_goals try (repeat' (with_reducible first | exact Heap.le_refl _ | refine (le_upd (by first | assumption | exact And.right (by assumption) | exact upd_none.2 (by assumption))).2 ?_))
          all_goals try (simp only [DExpr.c_eq]; done)
          exact nx (by assumption)
      · have em : moreV e.fKind k vars = vars := if_neg e9
        rw [em] at nx no
        have hcy := hc e.fKids[k] (List.getElem_mem hlt) vars (by omega) (by omega)
        simp only [DExpr.c_eq] at hcy
        simp (maxSteps := 1000000) -dsimp -implicitDefEqProofs only [go_sem, ↓reduceIte, keep71, ib71, mk71, Tryz.f71, ea, DExpr.c_eq, upd_upd]
        repeat' (with_reducible first | intro _ | refine And.intro ?_ ?_)
        all_goals try omega
        all_goals (first | refine HFnF.mk (hcy) ?_ | refine CallSF.mk (hcy) ?_)
        all_goals simp (maxSteps := 1000000) -dsimp -implicitDefEqProofs only [go_sem, ↓reduceIte, keep71, ib71, mk71, Tryz.f71]
        all_goals repeat' (with_reducible first | intro _ | refine And.intro ?_ ?_)
        all_goals first | exact no (by assumption) | exact Heap.le_refl _ | skip
        all_goals try (exact (le_upd (by assumption)).2 (Heap.le_refl _))
        all_goals
          refine ⟨k + 1, ?_⟩
          repeat' (with_reducible refine And.intro ?_ ?_)
          all_goals try (rw [IntWalk.i64_in _ (by omega)]; first | rfl | omega)
          all_goals try omega
          all_goals try (repeat' (with_reducible first | exact Heap.le_refl _ | refine (le_upd (by first | assumption | exact And.right (by assumption) | exact upd_none.2 (by assumption))).2 ?_))
          all_goals try (simp only [DExpr.c_eq]; done)
          exact nx (by assumption)
    · have hk' : k = e.fKids.length := by omega
      subst hk'
      simp (maxSteps := 1000000) -dsimp -implicitDefEqProofs only [go_sem, ↓reduceIte, keep71, ib71, mk71, Tryz.f71, Nat.lt_irrefl]
      exact (decide_eq_true (hok.2 ⟨hn, fun j hj => hp j hj hj⟩)).symm
open Go.Proofs
set_option linter.unusedVariables false
set_option linter.unusedSimpArgs false
theorem no_call {p : DProgram} {e : DExpr} {vars funcs : Int} {f : DFunc} (hk : e.fKind = 10 ∨ e.fKind = 11) (ef : p.fFuncs[e.fNum.toNat]? = some f)
    (q : ¬ (0 ≤ e.fPick ∧ e.fPick ≤ (f.fOuts.length : Int) - 1 ∧ (e.fKids.length : Int) = f.fParams ∧ (e.fKind = 10 → e.fCount = 0) ∧ (e.fKind = 11 → 0 ≤ e.fCount ∧ e.fCount ≤ 8 ∧ (f.fOuts.length : Int) = f.fParams))) : false = decide (e.ok p funcs vars) :=
  (decide_eq_false fun z => q ((nodeOK_call hk ef).1 ((DExpr.ok_iff _ _ _ _).1 z).1).2.2).symm
theorem no_range {p : DProgram} {e : DExpr} {vars funcs : Int} (hk : e.fKind = 10 ∨ e.fKind = 11) (q : ¬ (0 ≤ e.fNum ∧ e.fNum ≤ funcs - 1)) : false = decide (e.ok p funcs vars) :=
  (decide_eq_false fun z => nodeOK_range hk q ((DExpr.ok_iff _ _ _ _).1 z).1).symm
set_option maxHeartbeats 8000000 in
set_option maxRecDepth 100000 in
theorem isFormed_10 (p : DProgram) (e : DExpr) (vars funcs : Int) (hv : 0 ≤ vars) (hv2 : vars + e.s ≤ 4294967296) (hf0 : 0 ≤ funcs) (hf : funcs ≤ p.fFuncs.length) (hps : p.s ≤ 4294967296)
    (hc : ∀ y ∈ e.fKids, ∀ vars : Int, 0 ≤ vars → vars + y.s ≤ 4294967296 → Fn0 Tryz.prog 71 [.agg [sls 3 DFunc.c p.fFuncs, I funcs], .agg y.c, I vars] (.bool (decide (y.ok p funcs vars)))) (hk : e.fKind = 10) :
    Fn0 Tryz.prog 71 [.agg [sls 3 DFunc.c p.fFuncs, I funcs], .agg e.c, I vars] (.bool (decide (e.ok p funcs vars))) := by
  have hl := p.len_s
  have e1 : IntKind.i64.wrap (funcs - 1) = funcs - 1 := IntWalk.i64_in _ (by omega)
  simp only [DExpr.c_eq]
  by_cases hr : 0 ≤ e.fNum ∧ e.fNum ≤ funcs - 1
  · obtain ⟨f, ef⟩ : ∃ f, p.fFuncs[e.fNum.toNat]? = some f := ⟨_, List.getElem?_eq_getElem (by omega)⟩
    have hfs := DProgram.func_s (List.mem_of_getElem? ef)
    have hos := f.outs_s
    have e3 : IntKind.i64.wrap ((f.fOuts.length : Int) - 1) = f.fOuts.length - 1 := IntWalk.i64_in _ (by omega)
    refine fn0F 177 keep71 ib71 mk71 mix Tryz.func71 rfl (by kernel_rfl) (by simp) fun h => ?_
    simp (maxSteps := 1000000) -dsimp -implicitDefEqProofs only [go_sem, ↓reduceIte, keep71, ib71, mk71, Tryz.f71, e1, e3, hk]
    repeat' (with_reducible first | intro _ | refine And.intro ?_ ?_)
    all_goals try omega
    all_goals (first | refine HFnF.mk (within e.fNum 0 (funcs - 1)) ?_ | refine CallSF.mk (within e.fNum 0 (funcs - 1)) ?_)
    all_goals simp (maxSteps := 1000000) -dsimp -implicitDefEqProofs only [go_sem, ↓reduceIte, keep71, ib71, mk71, Tryz.f71, ef, DFunc.c_eq, upd_upd, hk, e3]
    all_goals repeat' (with_reducible first | intro _ | refine And.intro ?_ ?_)
    all_goals try omega
    all_goals try (refine no_call (by omega) ef ?_; omega)
    all_goals try (repeat' (with_reducible first | exact Heap.le_refl _ | refine (le_upd (by first | assumption | exact And.right (by assumption) | exact upd_none.2 (by assumption))).2 ?_))
    all_goals (first | refine HFnF.mk (within e.fPick 0 (f.fOuts.length - 1)) ?_ | refine CallSF.mk (within e.fPick 0 (f.fOuts.length - 1)) ?_)
    all_goals simp (maxSteps := 1000000) -dsimp -implicitDefEqProofs only [go_sem, ↓reduceIte, keep71, ib71, mk71, Tryz.f71, ef, DFunc.c_eq, upd_upd, hk]
    all_goals repeat' (with_reducible first | intro _ | refine And.intro ?_ ?_)
    all_goals try omega
    all_goals try (refine no_call (by omega) ef ?_; omega)
    all_goals try (repeat' (with_reducible first | exact Heap.le_refl _ | refine (le_upd (by first | assumption | exact And.right (by assumption) | exact upd_none.2 (by assumption))).2 ?_))
    all_goals
      have hn : nodeOK p e vars funcs := (nodeOK_call (by omega) ef).2 (by omega)
      have hok := DExpr.ok_iff p funcs e vars
      clear hr hfs hos ef
      refine loopF (keep := keep71) (ib := ib71) (mk := mk71) mix (by kernel_rfl) (fun k : Nat => [(2, I vars), (3, .ip 2 [[sls 3 DFunc.c p.fFuncs, I funcs]] 0 0), (4, .ip 5 [e.c] 0 0), (154, sls 5 DExpr.c e.fKids), (155, I e.fKids.length), (156, I k)]) (fun _ => h) (fun k => k ≤ e.fKids.length ∧ ∀ (j : Nat) (hj : j < e.fKids.length), j < k → e.fKids[j].ok p funcs vars) (fun k => e.fKids.length - k) 0 (by refine ⟨by simp [SatL, tget, DExpr.c_eq, hk], by repeat' (with_reducible first | exact Heap.le_refl _ | refine (le_upd (by first | assumption | exact And.right (by assumption) | exact upd_none.2 (by assumption))).2 ?_), by simp⟩) ?_
      intro k ⟨hk', hp⟩
      simp only [DExpr.c_eq]
      rcases Nat.lt_or_ge k e.fKids.length with hlt | hge
      · have hs1 := DExpr.kid_s (List.getElem_mem hlt)
        have nx (q : e.fKids[k].ok p funcs vars) : ∀ (j : Nat) (hj : j < e.fKids.length), j < k + 1 → e.fKids[j].ok p funcs vars := by
          intro j hj hjk
          rcases Nat.lt_succ_iff_lt_or_eq.1 hjk with h1 | rfl
          · exact hp j hj h1
          · exact q
        have no (q : ¬ e.fKids[k].ok p funcs vars) : false = decide (e.ok p funcs vars) := (decide_eq_false fun z => q (by have := (hok.1 z).2 k hlt; rwa [show moreV e.fKind k vars = vars from if_neg (by omega)] at this)).symm
        have ea : e.fKids[k]? = some e.fKids[k] := List.getElem?_eq_getElem hlt
        have hcy := hc e.fKids[k] (List.getElem_mem hlt) vars (by omega) (by omega)
        simp only [DExpr.c_eq] at hcy
        simp (maxSteps := 1000000) -dsimp -implicitDefEqProofs only [go_sem, ↓reduceIte, keep71, ib71, mk71, Tryz.f71, ea, DExpr.c_eq, upd_upd, hk]
        repeat' (with_reducible first | intro _ | refine And.intro ?_ ?_)
        all_goals try omega
        first | refine HFnF.mk (hcy) ?_ | refine CallSF.mk (hcy) ?_ | refine HFnF.mkAt (hcy) ?_ | refine CallSF.mk (FnAt.fn0 (hcy)) ?_
        simp (maxSteps := 1000000) -dsimp -implicitDefEqProofs only [go_sem, ↓reduceIte, keep71, ib71, mk71, Tryz.f71]
        repeat' (with_reducible first | intro _ | refine And.intro ?_ ?_)
        all_goals first | exact no (by assumption) | skip
        all_goals try (repeat' (with_reducible first | exact Heap.le_refl _ | refine (le_upd (by first | assumption | exact And.right (by assumption) | exact upd_none.2 (by assumption))).2 ?_))
        refine ⟨k + 1, ?_⟩
        repeat' (with_reducible refine And.intro ?_ ?_)
        all_goals try (rw [IntWalk.i64_in _ (by omega)]; first | rfl | omega)
        all_goals try omega
        all_goals try (repeat' (with_reducible first | exact Heap.le_refl _ | refine (le_upd (by first | assumption | exact And.right (by assumption) | exact upd_none.2 (by assumption))).2 ?_))
        all_goals try (simp only [DExpr.c_eq, hk]; done)
        exact nx (by assumption)
      · have hk'' : k = e.fKids.length := by omega
        subst hk''
        simp (maxSteps := 1000000) -dsimp -implicitDefEqProofs only [go_sem, ↓reduceIte, keep71, ib71, mk71, Tryz.f71, Nat.lt_irrefl]
        exact (decide_eq_true (hok.2 ⟨hn, fun j hj => by rw [show moreV e.fKind j vars = vars from if_neg (by omega)]; exact hp j hj hj⟩)).symm
  · refine fn0F 177 keep71 ib71 mk71 mix Tryz.func71 rfl (by kernel_rfl) (by simp) fun h => ?_
    simp (maxSteps := 1000000) -dsimp -implicitDefEqProofs only [go_sem, ↓reduceIte, keep71, ib71, mk71, Tryz.f71, e1, hk]
    repeat' (with_reducible first | intro _ | refine And.intro ?_ ?_)
    all_goals try omega
    all_goals (first | refine HFnF.mk (within e.fNum 0 (funcs - 1)) ?_ | refine CallSF.mk (within e.fNum 0 (funcs - 1)) ?_)
    all_goals simp (maxSteps := 1000000) -dsimp -implicitDefEqProofs only [go_sem, ↓reduceIte, keep71, ib71, mk71, Tryz.f71]
    all_goals repeat' (with_reducible first | intro _ | refine And.intro ?_ ?_)
    all_goals try omega
    all_goals exact no_range (by omega) hr
set_option maxHeartbeats 8000000 in
set_option maxRecDepth 100000 in
theorem isFormed_11 (p : DProgram) (e : DExpr) (vars funcs : Int) (hv : 0 ≤ vars) (hv2 : vars + e.s ≤ 4294967296) (hf0 : 0 ≤ funcs) (hf : funcs ≤ p.fFuncs.length) (hps : p.s ≤ 4294967296)
    (hc : ∀ y ∈ e.fKids, ∀ vars : Int, 0 ≤ vars → vars + y.s ≤ 4294967296 → Fn0 Tryz.prog 71 [.agg [sls 3 DFunc.c p.fFuncs, I funcs], .agg y.c, I vars] (.bool (decide (y.ok p funcs vars)))) (hk : e.fKind = 11) :
    Fn0 Tryz.prog 71 [.agg [sls 3 DFunc.c p.fFuncs, I funcs], .agg e.c, I vars] (.bool (decide (e.ok p funcs vars))) := by
  have hl := p.len_s
  have e1 : IntKind.i64.wrap (funcs - 1) = funcs - 1 := IntWalk.i64_in _ (by omega)
  simp only [DExpr.c_eq]
  by_cases hr : 0 ≤ e.fNum ∧ e.fNum ≤ funcs - 1
  · obtain ⟨f, ef⟩ : ∃ f, p.fFuncs[e.fNum.toNat]? = some f := ⟨_, List.getElem?_eq_getElem (by omega)⟩
    have hfs := DProgram.func_s (List.mem_of_getElem? ef)
    have hos := f.outs_s
    have e3 : IntKind.i64.wrap ((f.fOuts.length : Int) - 1) = f.fOuts.length - 1 := IntWalk.i64_in _ (by omega)
    refine fn0F 177 keep71 ib71 mk71 mix Tryz.func71 rfl (by kernel_rfl) (by simp) fun h => ?_
    simp (maxSteps := 1000000) -dsimp -implicitDefEqProofs only [go_sem, ↓reduceIte, keep71, ib71, mk71, Tryz.f71, e1, e3, hk]
    repeat' (with_reducible first | intro _ | refine And.intro ?_ ?_)
    all_goals try omega
    all_goals (first | refine HFnF.mk (within e.fNum 0 (funcs - 1)) ?_ | refine CallSF.mk (within e.fNum 0 (funcs - 1)) ?_)
    all_goals simp (maxSteps := 1000000) -dsimp -implicitDefEqProofs only [go_sem, ↓reduceIte, keep71, ib71, mk71, Tryz.f71, ef, DFunc.c_eq, upd_upd, hk, e3]
    all_goals repeat' (with_reducible first | intro _ | refine And.intro ?_ ?_)
    all_goals try omega
    all_goals try (refine no_call (by omega) ef ?_; omega)
    all_goals try (repeat' (with_reducible first | exact Heap.le_refl _ | refine (le_upd (by first | assumption | exact And.right (by assumption) | exact upd_none.2 (by assumption))).2 ?_))
    all_goals (first | refine HFnF.mk (within e.fPick 0 (f.fOuts.length - 1)) ?_ | refine CallSF.mk (within e.fPick 0 (f.fOuts.length - 1)) ?_)
    all_goals simp (maxSteps := 1000000) -dsimp -implicitDefEqProofs only [go_sem, ↓reduceIte, keep71, ib71, mk71, Tryz.f71, ef, DFunc.c_eq, upd_upd, hk]
    all_goals repeat' (with_reducible first | intro _ | refine And.intro ?_ ?_)
    all_goals try omega
    all_goals try (refine no_call (by omega) ef ?_; omega)
    all_goals try (repeat' (with_reducible first | exact Heap.le_refl _ | refine (le_upd (by first | assumption | exact And.right (by assumption) | exact upd_none.2 (by assumption))).2 ?_))
    all_goals (first | refine HFnF.mk (within e.fCount 0 8) ?_ | refine CallSF.mk (within e.fCount 0 8) ?_)
    all_goals simp (maxSteps := 1000000) -dsimp -implicitDefEqProofs only [go_sem, ↓reduceIte, keep71, ib71, mk71, Tryz.f71, upd_upd, hk]
    all_goals repeat' (with_reducible first | intro _ | refine And.intro ?_ ?_)
    all_goals try (refine no_call (by omega) ef ?_; omega)
    all_goals try (repeat' (with_reducible first | exact Heap.le_refl _ | refine (le_upd (by first | assumption | exact And.right (by assumption) | exact upd_none.2 (by assumption))).2 ?_))
    all_goals
      have hn : nodeOK p e vars funcs := (nodeOK_call (by omega) ef).2 (by omega)
      have hok := DExpr.ok_iff p funcs e vars
      clear hr hfs hos ef
      refine loopF (keep := keep71) (ib := ib71) (mk := mk71) mix (by kernel_rfl) (fun k : Nat => [(2, I vars), (3, .ip 2 [[sls 3 DFunc.c p.fFuncs, I funcs]] 0 0), (4, .ip 5 [e.c] 0 0), (154, sls 5 DExpr.c e.fKids), (155, I e.fKids.length), (156, I k)]) (fun _ => h) (fun k => k ≤ e.fKids.length ∧ ∀ (j : Nat) (hj : j < e.fKids.length), j < k → e.fKids[j].ok p funcs vars) (fun k => e.fKids.length - k) 0 (by refine ⟨by simp [SatL, tget, DExpr.c_eq, hk], by repeat' (with_reducible first | exact Heap.le_refl _ | refine (le_upd (by first | assumption | exact And.right (by assumption) | exact upd_none.2 (by assumption))).2 ?_), by simp⟩) ?_
      intro k ⟨hk', hp⟩
      simp only [DExpr.c_eq]
      rcases Nat.lt_or_ge k e.fKids.length with hlt | hge
      · have hs1 := DExpr.kid_s (List.getElem_mem hlt)
        have nx (q : e.fKids[k].ok p funcs vars) : ∀ (j : Nat) (hj : j < e.fKids.length), j < k + 1 → e.fKids[j].ok p funcs vars := by
          intro j hj hjk
          rcases Nat.lt_succ_iff_lt_or_eq.1 hjk with h1 | rfl
          · exact hp j hj h1
          · exact q
        have no (q : ¬ e.fKids[k].ok p funcs vars) : false = decide (e.ok p funcs vars) := (decide_eq_false fun z => q (by have := (hok.1 z).2 k hlt; rwa [show moreV e.fKind k vars = vars from if_neg (by omega)] at this)).symm
        have ea : e.fKids[k]? = some e.fKids[k] := List.getElem?_eq_getElem hlt
        have hcy := hc e.fKids[k] (List.getElem_mem hlt) vars (by omega) (by omega)
        simp only [DExpr.c_eq] at hcy
        simp (maxSteps := 1000000) -dsimp -implicitDefEqProofs only [go_sem, ↓reduceIte, keep71, ib71, mk71, Tryz.f71, ea, DExpr.c_eq, upd_upd, hk]
        repeat' (with_reducible first | intro _ | refine And.intro ?_ ?_)
        all_goals try omega
        first | refine HFnF.mk (hcy) ?_ | refine CallSF.mk (hcy) ?_ | refine HFnF.mkAt (hcy) ?_ | refine CallSF.mk (FnAt.fn0 (hcy)) ?_
        simp (maxSteps := 1000000) -dsimp -implicitDefEqProofs only [go_sem, ↓reduceIte, keep71, ib71, mk71, Tryz.f71]
        repeat' (with_reducible first | intro _ | refine And.intro ?_ ?_)
        all_goals first | exact no (by assumption) | skip
        all_goals try (repeat' (with_reducible first | exact Heap.le_refl _ | refine (le_upd (by first | assumption | exact And.right (by assumption) | exact upd_none.2 (by assumption))).2 ?_))
        refine ⟨k + 1, ?_⟩
        repeat' (with_reducible refine And.intro ?_ ?_)
        all_goals try (rw [IntWalk.i64_in _ (by omega)]; first | rfl | omega)
        all_goals try omega
        all_goals try (repeat' (with_reducible first | exact Heap.le_refl _ | refine (le_upd (by first | assumption | exact And.right (by assumption) | exact upd_none.2 (by assumption))).2 ?_))
        all_goals try (simp only [DExpr.c_eq, hk]; done)
        exact nx (by assumption)
      · have hk'' : k = e.fKids.length := by omega
        subst hk''
        simp (maxSteps := 1000000) -dsimp -implicitDefEqProofs only [go_sem, ↓reduceIte, keep71, ib71, mk71, Tryz.f71, Nat.lt_irrefl]
        exact (decide_eq_true (hok.2 ⟨hn, fun j hj => by rw [show moreV e.fKind j vars = vars from if_neg (by omega)]; exact hp j hj hj⟩)).symm
  · refine fn0F 177 keep71 ib71 mk71 mix Tryz.func71 rfl (by kernel_rfl) (by simp) fun h => ?_
    simp (maxSteps := 1000000) -dsimp -implicitDefEqProofs only [go_sem, ↓reduceIte, keep71, ib71, mk71, Tryz.f71, e1, hk]
    repeat' (with_reducible first | intro _ | refine And.intro ?_ ?_)
    all_goals try omega
    all_goals (first | refine HFnF.mk (within e.fNum 0 (funcs - 1)) ?_ | refine CallSF.mk (within e.fNum 0 (funcs - 1)) ?_)
    all_goals simp (maxSteps := 1000000) -dsimp -implicitDefEqProofs only [go_sem, ↓reduceIte, keep71, ib71, mk71, Tryz.f71]
    all_goals repeat' (with_reducible first | intro _ | refine And.intro ?_ ?_)
    all_goals try omega
    all_goals exact no_range (by omega) hr
open Go.Proofs
set_option linter.unusedVariables false
set_option linter.unusedSimpArgs false
theorem isFormed (p : DProgram) (e : DExpr) (vars funcs : Int) (hv : 0 ≤ vars) (hv2 : vars + e.s ≤ 4294967296) (hf0 : 0 ≤ funcs) (hf : funcs ≤ p.fFuncs.length) (hps : p.s ≤ 4294967296) :
    Fn0 Tryz.prog 71 [.agg [sls 3 DFunc.c p.fFuncs, I funcs], .agg e.c, I vars] (.bool (decide (e.ok p funcs vars))) := by
  by_cases h1 : e.fKind = 10
  · exact isFormed_10 p e vars funcs hv hv2 hf0 hf hps (fun y hy vars hv hv2 => isFormed p y vars funcs hv hv2 hf0 hf hps) h1
  · by_cases h2 : e.fKind = 11
    · exact isFormed_11 p e vars funcs hv hv2 hf0 hf hps (fun y hy vars hv hv2 => isFormed p y vars funcs hv hv2 hf0 hf hps) h2
    · exact isFormed_plain p e vars funcs hv hv2 hf0 hf hps (fun y hy vars hv hv2 => isFormed p y vars funcs hv hv2 hf0 hf hps) (fun q => q.elim h1 h2)
termination_by SizeOf.sizeOf e
decreasing_by all_goals exact DExpr.kid_lt hy

open Go.Proofs
set_option linter.unusedVariables false
set_option linter.unusedSimpArgs false
def exprOK (p : DProgram) (e : DExpr) (vars funcs : Int) : Prop := (0 ≤ vars ∧ vars ≤ 412) ∧ (0 ≤ funcs ∧ funcs ≤ p.fFuncs.length) ∧ (e.s : Int) + 1 ≤ 400 ∧ (e.d : Int) ≤ 60 ∧ e.ok p funcs vars
noncomputable instance (p : DProgram) (e : DExpr) (vars funcs : Int) : Decidable (exprOK p e vars funcs) := Classical.propDecidable _
def funcOK (p : DProgram) (k : Nat) (f : DFunc) : Prop := IsNm f.fName ∧ (0 ≤ f.fParams ∧ f.fParams ≤ 12) ∧ (1 ≤ (f.fOuts.length : Int) ∧ (f.fOuts.length : Int) ≤ 12) ∧ (∀ g ∈ p.fFuncs.take k, g.fName ≠ f.fName) ∧ (szs DExpr.s f.fOuts : Int) ≤ 400 ∧ ∀ e ∈ f.fOuts, exprOK p e f.fParams k
noncomputable instance (p : DProgram) (k : Nat) (f : DFunc) : Decidable (funcOK p k f) := Classical.propDecidable _
def DProgram.ok (p : DProgram) : Prop := (p.fFuncs.length : Int) ≤ 16 ∧ ∀ (k : Nat) (f : DFunc), p.fFuncs[k]? = some f → funcOK p k f
noncomputable instance (p : DProgram) : Decidable p.ok := Classical.propDecidable _
def keep19 : List Nat := [0, 2]
def ib19 : List Nat := []
def mk19 : Marks := fun _ => ([], .nil, [])
theorem l02Vars (n : Int) : Fn0 Tryz.prog 19 [I n] (.bool (decide (0 ≤ n ∧ n ≤ 412))) := by
  refine fn0F 5 keep19 ib19 mk19 mix Tryz.func19 rfl (by kernel_rfl) (by simp) fun h => ?_
  simp (maxSteps := 1000000) -dsimp -implicitDefEqProofs only [go_sem, ↓reduceIte, keep19, ib19, mk19, Tryz.f19]
  first | refine HFnF.mk (l00In n 0 412) ?_ | refine CallSF.mk (l00In n 0 412) ?_ | refine HFnF.mkAt (l00In n 0 412) ?_ | refine CallSF.mk (FnAt.fn0 (l00In n 0 412)) ?_
  simp (maxSteps := 1000000) -dsimp -implicitDefEqProofs only [go_sem, ↓reduceIte, keep19, ib19, mk19, Tryz.f19]
def keep24 : List Nat := [0, 2]
def ib24 : List Nat := []
def mk24 : Marks := fun _ => ([], .nil, [])
theorem areVars (n : Int) : Fn0 Tryz.prog 24 [I n] (.bool (decide (0 ≤ n ∧ n ≤ 412))) := by
  refine fn0F 5 keep24 ib24 mk24 mix Tryz.func24 rfl (by kernel_rfl) (by simp) fun h => ?_
  simp (maxSteps := 1000000) -dsimp -implicitDefEqProofs only [go_sem, ↓reduceIte, keep24, ib24, mk24, Tryz.f24]
  first | refine HFnF.mk (within n 0 412) ?_ | refine CallSF.mk (within n 0 412) ?_ | refine HFnF.mkAt (within n 0 412) ?_ | refine CallSF.mk (FnAt.fn0 (within n 0 412)) ?_
  simp (maxSteps := 1000000) -dsimp -implicitDefEqProofs only [go_sem, ↓reduceIte, keep24, ib24, mk24, Tryz.f24]
theorem lft_nonneg {left : Int} {n : Nat} : 0 ≤ lft left n ↔ (n : Int) ≤ left := by
  unfold lft; split <;> omega
def keep40 : List Nat := [0, 1, 2, 3, 8]
def ib40 : List Nat := []
def mk40 : Marks := fun _ => ([], .nil, [])
set_option maxRecDepth 100000 in
theorem l02Expr (p : DProgram) (e : DExpr) (vars funcs : Int) (hs : e.s ≤ 4294966296) (hps : p.s ≤ 4294967296) : Fn0 Tryz.prog 40 [.ip 1 [p.c] 0 0, .ip 5 [e.c] 0 0, I vars, I funcs] (.bool (decide (exprOK p e vars funcs))) := by
  simp only [DProgram.c_eq]
  refine fn0F 37 keep40 ib40 mk40 mix Tryz.func40 rfl (by kernel_rfl) (by simp) fun h => ?_
  simp (maxSteps := 1000000) -dsimp -implicitDefEqProofs only [go_sem, ↓reduceIte, keep40, ib40, mk40, Tryz.f40]
  first | refine HFnF.mk (l02Vars vars) ?_ | refine CallSF.mk (l02Vars vars) ?_ | refine HFnF.mkAt (l02Vars vars) ?_ | refine CallSF.mk (FnAt.fn0 (l02Vars vars)) ?_
  simp (maxSteps := 1000000) -dsimp -implicitDefEqProofs only [go_sem, ↓reduceIte, keep40, ib40, mk40, Tryz.f40]
  repeat' (with_reducible first | intro _ | refine And.intro ?_ ?_)
  all_goals try (first | (simp [exprOK, *]; done) | omega | (grind [exprOK]) | (simp [exprOK]; omega))
  first | refine HFnF.mk (l00In funcs 0 p.fFuncs.length) ?_ | refine CallSF.mk (l00In funcs 0 p.fFuncs.length) ?_ | refine HFnF.mkAt (l00In funcs 0 p.fFuncs.length) ?_ | refine CallSF.mk (FnAt.fn0 (l00In funcs 0 p.fFuncs.length)) ?_
  simp (maxSteps := 1000000) -dsimp -implicitDefEqProofs only [go_sem, ↓reduceIte, keep40, ib40, mk40, Tryz.f40]
  repeat' (with_reducible first | intro _ | refine And.intro ?_ ?_)
  all_goals try (first | (simp [exprOK, *]; done) | omega | (grind [exprOK]) | (simp [exprOK]; omega))
  first | refine CallSF.mk ((l02Left e 400 (by omega) (by omega) (by omega)).sub (by repeat' (first | exact SubL.nil | refine SubL.cons ?_ ?_ | exact Sub.refl _ | (rw [DExpr.c_eq]; exact Sub.refl _) | exact Sub.ipAt rfl rfl rfl | exact Sub.ip (map_get (by omega)) (by simp) | exact Sub.ipAt (map_get (by omega)) rfl rfl | exact Sub.ip (by simp [*]) (by simp) | exact Sub.ipAt (by simp [*]) (by rfl) (by rfl)))) ?_ | refine HFnF.mk ((l02Left e 400 (by omega) (by omega) (by omega)).sub (by repeat' (first | exact SubL.nil | refine SubL.cons ?_ ?_ | exact Sub.refl _ | (rw [DExpr.c_eq]; exact Sub.refl _) | exact Sub.ipAt rfl rfl rfl | exact Sub.ip (map_get (by omega)) (by simp) | exact Sub.ipAt (map_get (by omega)) rfl rfl | exact Sub.ip (by simp [*]) (by simp) | exact Sub.ipAt (by simp [*]) (by rfl) (by rfl)))) ?_
  simp (maxSteps := 1000000) -dsimp -implicitDefEqProofs only [go_sem, ↓reduceIte, keep40, ib40, mk40, Tryz.f40]
  repeat' (with_reducible first | intro _ | refine And.intro ?_ ?_)
  · have hle : ((e.s + 1 : Nat) : Int) ≤ 400 := lft_nonneg.1 (by assumption)
    first | refine CallSF.mk ((l02Depth e (by omega)).sub (by repeat' (first | exact SubL.nil | refine SubL.cons ?_ ?_ | exact Sub.refl _ | (rw [DExpr.c_eq]; exact Sub.refl _) | exact Sub.ipAt rfl rfl rfl | exact Sub.ip (map_get (by omega)) (by simp) | exact Sub.ipAt (map_get (by omega)) rfl rfl | exact Sub.ip (by simp [*]) (by simp) | exact Sub.ipAt (by simp [*]) (by rfl) (by rfl)))) ?_ | refine HFnF.mk ((l02Depth e (by omega)).sub (by repeat' (first | exact SubL.nil | refine SubL.cons ?_ ?_ | exact Sub.refl _ | (rw [DExpr.c_eq]; exact Sub.refl _) | exact Sub.ipAt rfl rfl rfl | exact Sub.ip (map_get (by omega)) (by simp) | exact Sub.ipAt (map_get (by omega)) rfl rfl | exact Sub.ip (by simp [*]) (by simp) | exact Sub.ipAt (by simp [*]) (by rfl) (by rfl)))) ?_
    simp (maxSteps := 1000000) -dsimp -implicitDefEqProofs only [go_sem, ↓reduceIte, keep40, ib40, mk40, Tryz.f40]
    repeat' (with_reducible first | intro _ | refine And.intro ?_ ?_)
    · first | refine CallSF.mk ((l02Tree p e vars funcs (by omega) (by omega) (by omega) (by omega) hps).sub (by repeat' (first | exact SubL.nil | refine SubL.cons ?_ ?_ | exact Sub.refl _ | (rw [DExpr.c_eq]; exact Sub.refl _) | exact Sub.ipAt rfl rfl rfl | exact Sub.ip (map_get (by omega)) (by simp) | exact Sub.ipAt (map_get (by omega)) rfl rfl | exact Sub.ip (by simp [*]) (by simp) | exact Sub.ipAt (by simp [*]) (by rfl) (by rfl)))) ?_ | refine HFnF.mk ((l02Tree p e vars funcs (by omega) (by omega) (by omega) (by omega) hps).sub (by repeat' (first | exact SubL.nil | refine SubL.cons ?_ ?_ | exact Sub.refl _ | (rw [DExpr.c_eq]; exact Sub.refl _) | exact Sub.ipAt rfl rfl rfl | exact Sub.ip (map_get (by omega)) (by simp) | exact Sub.ipAt (map_get (by omega)) rfl rfl | exact Sub.ip (by simp [*]) (by simp) | exact Sub.ipAt (by simp [*]) (by rfl) (by rfl)))) ?_
      simp (maxSteps := 1000000) -dsimp -implicitDefEqProofs only [go_sem, ↓reduceIte, keep40, ib40, mk40, Tryz.f40]
      rw [decide_eq_decide]
      exact ⟨fun q => ⟨by omega, by omega, by omega, by omega, q⟩, fun q => q.2.2.2.2⟩
    · exact (decide_eq_false fun q => by have := q.2.2.2.1; omega).symm
  · rename_i hn
    exact (decide_eq_false fun q => hn (lft_nonneg.2 (by have := q.2.2.1; omega))).symm
def keep46 : List Nat := [0, 1, 2, 3, 4, 5, 8]
def ib46 : List Nat := [4, 5]
def mk46 : Marks := fun _ => ([], .nil, [])
set_option maxRecDepth 100000 in
theorem ValidExpr (p : DProgram) (e : DExpr) (vars funcs : Int) (hs : e.s ≤ 4294966296) (hps : p.s ≤ 4294967296) : Fn0 Tryz.prog 46 [.agg p.c, .agg e.c, I vars, I funcs] (.bool (decide (exprOK p e vars funcs))) := by
  have h1 := ExprSize e (by omega)
  have h2 := ExprDepth e (by omega)
  simp only [DExpr.c_eq] at h1 h2
  simp only [DProgram.c_eq, DExpr.c_eq]
  refine fn0F 36 keep46 ib46 mk46 mix Tryz.func46 rfl (by kernel_rfl) (by simp) fun h => ?_
  simp (maxSteps := 1000000) -dsimp -implicitDefEqProofs only [go_sem, ↓reduceIte, keep46, ib46, mk46, Tryz.f46]
  first | refine HFnF.mk (areVars vars) ?_ | refine CallSF.mk (areVars vars) ?_ | refine HFnF.mkAt (areVars vars) ?_ | refine CallSF.mk (FnAt.fn0 (areVars vars)) ?_
  simp (maxSteps := 1000000) -dsimp -implicitDefEqProofs only [go_sem, ↓reduceIte, keep46, ib46, mk46, Tryz.f46]
  repeat' (with_reducible first | intro _ | refine And.intro ?_ ?_)
  all_goals try (first | (simp [exprOK, *]; done) | omega | (grind [exprOK]) | (simp [exprOK]; omega))
  first | refine HFnF.mk (within funcs 0 p.fFuncs.length) ?_ | refine CallSF.mk (within funcs 0 p.fFuncs.length) ?_ | refine HFnF.mkAt (within funcs 0 p.fFuncs.length) ?_ | refine CallSF.mk (FnAt.fn0 (within funcs 0 p.fFuncs.length)) ?_
  simp (maxSteps := 1000000) -dsimp -implicitDefEqProofs only [go_sem, ↓reduceIte, keep46, ib46, mk46, Tryz.f46]
  repeat' (with_reducible first | intro _ | refine And.intro ?_ ?_)
  all_goals try (first | (simp [exprOK, *]; done) | omega | (grind [exprOK]) | (simp [exprOK]; omega))
  first | refine HFnF.mk (h1) ?_ | refine CallSF.mk (h1) ?_ | refine HFnF.mkAt (h1) ?_ | refine CallSF.mk (FnAt.fn0 (h1)) ?_
  simp (maxSteps := 1000000) -dsimp -implicitDefEqProofs only [go_sem, ↓reduceIte, keep46, ib46, mk46, Tryz.f46]
  repeat' (with_reducible first | intro _ | refine And.intro ?_ ?_)
  · first | refine HFnF.mk (h2) ?_ | refine CallSF.mk (h2) ?_ | refine HFnF.mkAt (h2) ?_ | refine CallSF.mk (FnAt.fn0 (h2)) ?_
    simp (maxSteps := 1000000) -dsimp -implicitDefEqProofs only [go_sem, ↓reduceIte, keep46, ib46, mk46, Tryz.f46]
    repeat' (with_reducible first | intro _ | refine And.intro ?_ ?_)
    · have h3 := isFormed p e vars funcs (by omega) (by omega) (by omega) (by omega) hps
      simp only [DExpr.c_eq] at h3
      first | refine HFnF.mk (h3) ?_ | refine CallSF.mk (h3) ?_ | refine HFnF.mkAt (h3) ?_ | refine CallSF.mk (FnAt.fn0 (h3)) ?_
      simp (maxSteps := 1000000) -dsimp -implicitDefEqProofs only [go_sem, ↓reduceIte, keep46, ib46, mk46, Tryz.f46]
      rw [decide_eq_decide]
      exact ⟨fun q => ⟨by omega, by omega, by omega, by omega, q⟩, fun q => q.2.2.2.2⟩
    · exact (decide_eq_false fun q => by have := q.2.2.2.1; omega).symm
  · exact (decide_eq_false fun q => by have := q.2.2.1; omega).symm
def keep38 : List Nat := [0, 1, 4, 5, 6, 7, 8, 37, 40, 55, 62, 90]
def ib38 : List Nat := []
def mk38 : Marks := fun id => match id with | 7 => ([], (.op 0 (.op 1 (.op 2 (.op 3 (.op 4 (.op 5 (.op 6 (.op 7 (.op 8 (.op 9 (.op 10 (.op 11 (.op 12 .nil))))))))))))), []) | 14 => ([], (.op 0 (.op 1 (.op 2 (.op 3 (.op 4 (.op 5 (.op 6 (.op 7 (.op 8 (.op 9 (.op 10 (.op 11 (.op 12 (.op 13 (.op 14 (.op 15 (.op 16 (.op 17 .nil)))))))))))))))))), []) | _ => ([], .nil, [])
set_option maxRecDepth 100000 in
theorem l02Func (p : DProgram) (k : Nat) (f : DFunc) (ef : p.fFuncs[k]? = some f) (hps : p.s ≤ 4194304) : Fn0 Tryz.prog 38 [.ip 1 [p.c] 0 0, I k] (.bool (decide (funcOK p k f))) := by
  have hk : k < p.fFuncs.length := (List.getElem?_eq_some_iff.1 ef).1
  have hfs := DProgram.func_s (List.mem_of_getElem? ef)
  have hl := p.len_s
  have hos := f.outs_s
  simp only [DProgram.c_eq]
  have no (q : ¬ (IsNm f.fName ∧ (0 ≤ f.fParams ∧ f.fParams ≤ 12) ∧ (1 ≤ (f.fOuts.length : Int) ∧ (f.fOuts.length : Int) ≤ 12))) : false = decide (funcOK p k f) := (decide_eq_false fun z => q ⟨z.1, z.2.1, z.2.2.1⟩).symm
  refine fn0F 91 keep38 ib38 mk38 mix Tryz.func38 rfl (by kernel_rfl) (by simp) fun h => ?_
  simp (maxSteps := 1000000) -dsimp -implicitDefEqProofs only [go_sem, ↓reduceIte, keep38, ib38, mk38, Tryz.f38, ef, DFunc.c_eq, Int.toNat_natCast]
  repeat' (with_reducible first | intro _ | refine And.intro ?_ ?_)
  all_goals try omega
  first | refine HFnF.mk (specIsName f.fName) ?_ | refine CallSF.mk (specIsName f.fName) ?_ | refine HFnF.mkAt (specIsName f.fName) ?_ | refine CallSF.mk (FnAt.fn0 (specIsName f.fName)) ?_
  simp (maxSteps := 1000000) -dsimp -implicitDefEqProofs only [go_sem, ↓reduceIte, keep38, ib38, mk38, Tryz.f38, ef, DFunc.c_eq]
  repeat' (with_reducible first | intro _ | refine And.intro ?_ ?_)
  · first | refine HFnF.mk (l00In f.fParams 0 12) ?_ | refine CallSF.mk (l00In f.fParams 0 12) ?_ | refine HFnF.mkAt (l00In f.fParams 0 12) ?_ | refine CallSF.mk (FnAt.fn0 (l00In f.fParams 0 12)) ?_
    simp (maxSteps := 1000000) -dsimp -implicitDefEqProofs only [go_sem, ↓reduceIte, keep38, ib38, mk38, Tryz.f38, ef, DFunc.c_eq]
    repeat' (with_reducible first | intro _ | refine And.intro ?_ ?_)
    · first | refine HFnF.mk (l00In f.fOuts.length 1 12) ?_ | refine CallSF.mk (l00In f.fOuts.length 1 12) ?_ | refine HFnF.mkAt (l00In f.fOuts.length 1 12) ?_ | refine CallSF.mk (FnAt.fn0 (l00In f.fOuts.length 1 12)) ?_
      simp (maxSteps := 1000000) -dsimp -implicitDefEqProofs only [go_sem, ↓reduceIte, keep38, ib38, mk38, Tryz.f38, ef, DFunc.c_eq]
      repeat' (with_reducible first | intro _ | refine And.intro ?_ ?_)
      · exact no fun z => by simp_all
      · rename_i q1 q2 q3
        refine loopF (keep := keep38) (ib := ib38) (mk := mk38) mix (by kernel_rfl) (fun j : Nat => [(0, .ip 1 [p.c] 0 0), (1, I k), (5, .ip 3 (p.fFuncs.map DFunc.c) k 0), (6, I j)]) (fun _ => h) (fun j => j ≤ k ∧ ∀ g ∈ p.fFuncs.take j, g.fName ≠ f.fName) (fun j => k - j) 0 (by refine ⟨by simp [SatL, tget, DProgram.c_eq], by repeat' (with_reducible first | exact Heap.le_refl _ | refine (le_upd (by first | assumption | exact And.right (by assumption) | exact upd_none.2 (by assumption))).2 ?_), by simp⟩) ?_
        intro j ⟨hj, hp⟩
        simp only [DProgram.c_eq]
        rcases Nat.lt_or_ge j k with hlt | hge
        · have eg : p.fFuncs[j]? = some p.fFuncs[j] := List.getElem?_eq_getElem (by omega)
          simp (maxSteps := 1000000) -dsimp -implicitDefEqProofs only [go_sem, ↓reduceIte, keep38, ib38, mk38, Tryz.f38, ef, eg, DFunc.c_eq, Int.toNat_natCast]
          repeat' (with_reducible first | intro _ | refine And.intro ?_ ?_)
          all_goals try omega
          · rename_i he
            refine (decide_eq_false fun z => z.2.2.2.1 p.fFuncs[j] ?_ he).symm
            exact List.mem_take_iff_getElem.2 ⟨j, by omega, rfl⟩
          · rename_i he
            refine ⟨j + 1, ?_⟩
            repeat' (with_reducible refine And.intro ?_ ?_)
            all_goals try (rw [IntWalk.i64_in _ (by omega)]; first | rfl | omega)
            all_goals try omega
            all_goals try (repeat' (with_reducible first | exact Heap.le_refl _ | refine (le_upd (by first | assumption | exact And.right (by assumption) | exact upd_none.2 (by assumption))).2 ?_))
            all_goals try (simp only [DProgram.c_eq]; done)
            exact all_step (P := fun g : DFunc => g.fName ≠ f.fName) (by omega) hp he
        · have hj' : j = k := by omega
          rw [hj'] at hp
          simp (maxSteps := 1000000) -dsimp -implicitDefEqProofs only [go_sem, ↓reduceIte, keep38, ib38, mk38, Tryz.f38, hj', Int.lt_irrefl]
          have part (i : Nat) (hi : i < f.fOuts.length) : i + ((f.fOuts.take i).map DExpr.s).sum + f.fOuts[i].s + 1 ≤ szs DExpr.s f.fOuts := by
            have h1 := sum_take_succ DExpr.s f.fOuts i hi
            have h2 := sum_take_le DExpr.s f.fOuts (i + 1)
            rw [szs_eq]; omega
          have hszs : szs DExpr.s f.fOuts ≤ f.s := by rw [f.s_eq]; omega
          refine loopF (keep := keep38) (ib := ib38) (mk := mk38) mix (by kernel_rfl) (fun i : Nat => [(0, .ip 1 [p.c] 0 0), (1, I k), (5, .ip 3 (p.fFuncs.map DFunc.c) k 0), (7, I (400 - (i + ((f.fOuts.take i).map DExpr.s).sum : Nat))), (8, I i)]) (fun _ => h) (fun i => i ≤ f.fOuts.length ∧ i + ((f.fOuts.take i).map DExpr.s).sum ≤ 400 ∧ ∀ e ∈ f.fOuts.take i, exprOK p e f.fParams k) (fun i => f.fOuts.length - i) 0 (by refine ⟨by simp [SatL, tget, DProgram.c_eq], by repeat' (with_reducible first | exact Heap.le_refl _ | refine (le_upd (by first | assumption | exact And.right (by assumption) | exact upd_none.2 (by assumption))).2 ?_), by simp⟩) ?_
          intro i ⟨hi, hsum, hall⟩
          simp only [DProgram.c_eq]
          rcases Nat.lt_or_ge i f.fOuts.length with hlt | hge
          · have h1 := sum_take_succ DExpr.s f.fOuts i hlt
            have hpt := part i hlt
            have hout := DFunc.out_s (List.getElem_mem hlt)
            simp (maxSteps := 1000000) -dsimp -implicitDefEqProofs only [go_sem, ↓reduceIte, keep38, ib38, mk38, Tryz.f38, ef, DFunc.c_eq, Int.toNat_natCast]
            repeat' (with_reducible first | intro _ | refine And.intro ?_ ?_)
            all_goals try omega
            first | refine CallSF.mk ((l02Left f.fOuts[i] (400 - (i + ((f.fOuts.take i).map DExpr.s).sum : Nat)) (by omega) (by omega) (by omega)).sub (by repeat' (first | exact SubL.nil | refine SubL.cons ?_ ?_ | exact Sub.refl _ | (rw [DExpr.c_eq]; exact Sub.refl _) | exact Sub.ipAt rfl rfl rfl | exact Sub.ip (map_get (by omega)) (by simp) | exact Sub.ipAt (map_get (by omega)) rfl rfl | exact Sub.ip (by simp [*]) (by simp) | exact Sub.ipAt (by simp [*]) (by rfl) (by rfl)))) ?_ | refine HFnF.mk ((l02Left f.fOuts[i] (400 - (i + ((f.fOuts.take i).map DExpr.s).sum : Nat)) (by omega) (by omega) (by omega)).sub (by repeat' (first | exact SubL.nil | refine SubL.cons ?_ ?_ | exact Sub.refl _ | (rw [DExpr.c_eq]; exact Sub.refl _) | exact Sub.ipAt rfl rfl rfl | exact Sub.ip (map_get (by omega)) (by simp) | exact Sub.ipAt (map_get (by omega)) rfl rfl | exact Sub.ip (by simp [*]) (by simp) | exact Sub.ipAt (by simp [*]) (by rfl) (by rfl)))) ?_
            simp (maxSteps := 1000000) -dsimp -implicitDefEqProofs only [go_sem, ↓reduceIte, keep38, ib38, mk38, Tryz.f38, ef, DFunc.c_eq]
            rcases lft_cases (400 - (i + ((f.fOuts.take i).map DExpr.s).sum : Nat)) (f.fOuts[i].s + 1) with ⟨e, hl1⟩ | ⟨e, hl1⟩
            · simp (maxSteps := 1000000) -dsimp -implicitDefEqProofs only [go_sem, ↓reduceIte, keep38, ib38, mk38, Tryz.f38, e]
              repeat' (with_reducible first | intro _ | refine And.intro ?_ ?_)
              all_goals try omega
              all_goals exact (decide_eq_false fun z => by have := z.2.2.2.2.1; omega).symm
            · simp (maxSteps := 1000000) -dsimp -implicitDefEqProofs only [go_sem, ↓reduceIte, keep38, ib38, mk38, Tryz.f38, e]
              repeat' (with_reducible first | intro _ | refine And.intro ?_ ?_)
              all_goals try omega
              first | refine CallSF.mk ((l02Expr p f.fOuts[i] f.fParams k (by omega) (by omega)).sub (by repeat' (first | exact SubL.nil | refine SubL.cons ?_ ?_ | exact Sub.refl _ | (rw [DExpr.c_eq]; exact Sub.refl _) | exact Sub.ipAt rfl rfl rfl | exact Sub.ip (map_get (by omega)) (by simp) | exact Sub.ipAt (map_get (by omega)) rfl rfl | exact Sub.ip (by simp [*]) (by simp) | exact Sub.ipAt (by simp [*]) (by rfl) (by rfl)))) ?_ | refine HFnF.mk ((l02Expr p f.fOuts[i] f.fParams k (by omega) (by omega)).sub (by repeat' (first | exact SubL.nil | refine SubL.cons ?_ ?_ | exact Sub.refl _ | (rw [DExpr.c_eq]; exact Sub.refl _) | exact Sub.ipAt rfl rfl rfl | exact Sub.ip (map_get (by omega)) (by simp) | exact Sub.ipAt (map_get (by omega)) rfl rfl | exact Sub.ip (by simp [*]) (by simp) | exact Sub.ipAt (by simp [*]) (by rfl) (by rfl)))) ?_
              simp (maxSteps := 1000000) -dsimp -implicitDefEqProofs only [go_sem, ↓reduceIte, keep38, ib38, mk38, Tryz.f38, ef, DFunc.c_eq]
              repeat' (with_reducible first | intro _ | refine And.intro ?_ ?_)
              · rename_i hn
                exact (decide_eq_false fun z => hn (z.2.2.2.2.2 _ (List.getElem_mem hlt))).symm
              · rename_i hn
                refine ⟨i + 1, ?_⟩
                repeat' (with_reducible refine And.intro ?_ ?_)
                all_goals try (rw [IntWalk.i64_in _ (by omega)]; first | rfl | omega)
                all_goals try omega
                all_goals try (repeat' (with_reducible first | exact Heap.le_refl _ | refine (le_upd (by first | assumption | exact And.right (by assumption) | exact upd_none.2 (by assumption))).2 ?_))
                all_goals try (simp only [DProgram.c_eq]; done)
                exact all_step (P := fun e => exprOK p e f.fParams k) hlt hall hn
          · have hi' : i = f.fOuts.length := by omega
            subst hi'
            rw [List.take_length] at hsum hall
            simp (maxSteps := 1000000) -dsimp -implicitDefEqProofs only [go_sem, ↓reduceIte, keep38, ib38, mk38, Tryz.f38, ef, DFunc.c_eq, Nat.lt_irrefl]
            exact fun _ => (decide_eq_true ⟨by assumption, q1, q3, hp, by rw [szs_eq]; omega, hall⟩).symm
    · exact no fun z => by simp_all
  · exact no fun z => by simp_all
def keep18 : List Nat := [0, 2, 3, 9, 16, 22]
def ib18 : List Nat := []
def mk18 : Marks := fun _ => ([], .nil, [])
set_option maxRecDepth 100000 in
theorem l02Ok (p : DProgram) (hps : p.s ≤ 4194304) : Fn0 Tryz.prog 18 [.ip 1 [p.c] 0 0] (.bool (decide p.ok)) := by
  simp only [DProgram.c_eq]
  refine fn0F 23 keep18 ib18 mk18 mix Tryz.func18 rfl (by kernel_rfl) (by simp) fun h => ?_
  simp (maxSteps := 1000000) -dsimp -implicitDefEqProofs only [go_sem, ↓reduceIte, keep18, ib18, mk18, Tryz.f18]
  repeat' (with_reducible first | intro _ | refine And.intro ?_ ?_)
  · exact (decide_eq_false fun z => by have := z.1; omega).symm
  refine loopF (keep := keep18) (ib := ib18) (mk := mk18) mix (by kernel_rfl) (fun k : Nat => [(0, .ip 1 [p.c] 0 0), (3, I k)]) (fun _ => h) (fun k => k ≤ p.fFuncs.length ∧ ∀ (j : Nat) (f : DFunc), j < k → p.fFuncs[j]? = some f → funcOK p j f) (fun k => p.fFuncs.length - k) 0 (by refine ⟨by simp [SatL, tget, DProgram.c_eq], by repeat' (with_reducible first | exact Heap.le_refl _ | refine (le_upd (by first | assumption | exact And.right (by assumption) | exact upd_none.2 (by assumption))).2 ?_), by simp⟩) ?_
  intro k ⟨hk, hp⟩
  simp only [DProgram.c_eq]
  rcases Nat.lt_or_ge k p.fFuncs.length with hlt | hge
  · have eg : p.fFuncs[k]? = some p.fFuncs[k] := List.getElem?_eq_getElem (by omega)
    simp (maxSteps := 1000000) -dsimp -implicitDefEqProofs only [go_sem, ↓reduceIte, keep18, ib18, mk18, Tryz.f18]
    repeat' (with_reducible first | intro _ | refine And.intro ?_ ?_)
    all_goals try omega
    first | refine CallSF.mk ((l02Func p k p.fFuncs[k] eg hps).sub (by repeat' (first | exact SubL.nil | refine SubL.cons ?_ ?_ | exact Sub.refl _ | (rw [DExpr.c_eq]; exact Sub.refl _) | exact Sub.ipAt rfl rfl rfl | exact Sub.ip (map_get (by omega)) (by simp) | exact Sub.ipAt (map_get (by omega)) rfl rfl | exact Sub.ip (by simp [*]) (by simp) | exact Sub.ipAt (by simp [*]) (by rfl) (by rfl)))) ?_ | refine HFnF.mk ((l02Func p k p.fFuncs[k] eg hps).sub (by repeat' (first | exact SubL.nil | refine SubL.cons ?_ ?_ | exact Sub.refl _ | (rw [DExpr.c_eq]; exact Sub.refl _) | exact Sub.ipAt rfl rfl rfl | exact Sub.ip (map_get (by omega)) (by simp) | exact Sub.ipAt (map_get (by omega)) rfl rfl | exact Sub.ip (by simp [*]) (by simp) | exact Sub.ipAt (by simp [*]) (by rfl) (by rfl)))) ?_
    simp (maxSteps := 1000000) -dsimp -implicitDefEqProofs only [go_sem, ↓reduceIte, keep18, ib18, mk18, Tryz.f18]
    repeat' (with_reducible first | intro _ | refine And.intro ?_ ?_)
    · rename_i hn
      exact (decide_eq_false fun z => hn (z.2 k _ eg)).symm
    · rename_i hn
      refine ⟨k + 1, ?_⟩
      repeat' (with_reducible refine And.intro ?_ ?_)
      all_goals try (rw [IntWalk.i64_in _ (by omega)]; first | rfl | omega)
      all_goals try omega
      all_goals try (repeat' (with_reducible first | exact Heap.le_refl _ | refine (le_upd (by first | assumption | exact And.right (by assumption) | exact upd_none.2 (by assumption))).2 ?_))
      all_goals try (simp only [DProgram.c_eq]; done)
      intro j f hj ej
      rcases Nat.lt_succ_iff_lt_or_eq.1 hj with h1 | rfl
      · exact hp j f h1 ej
      · rw [eg] at ej; obtain rfl := Option.some.inj ej; exact hn
  · have hk' : k = p.fFuncs.length := by omega
    subst hk'
    simp (maxSteps := 1000000) -dsimp -implicitDefEqProofs only [go_sem, ↓reduceIte, keep18, ib18, mk18, Tryz.f18, Nat.lt_irrefl]
    exact fun _ => (decide_eq_true ⟨by omega, fun j f ej => hp j f (List.getElem?_eq_some_iff.1 ej).1 ej⟩).symm
open Go.Proofs
set_option linter.unusedVariables false
set_option linter.unusedSimpArgs false
def keep69 : List Nat := [0, 1, 4, 5, 7, 8, 9, 16]
def ib69 : List Nat := []
def mk69 : Marks := fun _ => ([], .nil, [])
set_option maxRecDepth 100000 in
theorem idxF_FuncS (a : List DFunc) (p : DFunc → Bool) (g : FuncId) (cap : List HVal) {h0 : Heap} (hc : ∀ x ∈ a, FnAt Tryz.prog g ([(.agg (DFunc.c x))] ++ cap) (.bool (p x)) h0) : FnAt Tryz.prog 69 [(sls 3 DFunc.c a), .fn (.func g) [] cap] (I (idxOf p a)) h0 := by
  refine fnAtF 19 keep69 ib69 mk69 mix Tryz.func69 rfl (by kernel_rfl) (by simp) fun h hle => ?_
  simp -dsimp -implicitDefEqProofs only [go_sem, ↓reduceIte, keep69, ib69, mk69, Tryz.f69, Tryz.f69]
  intro _
  refine loopF (keep := keep69) (ib := ib69) (mk := mk69) mix (by kernel_rfl) (fun k : Nat => [(0, (sls 3 DFunc.c a)), (1, .fn (.func g) [] cap), (7, I a.length), (8, I k)]) (fun _ => h) (fun k => k ≤ a.length ∧ ∀ x ∈ a.take k, p x = false) (fun k => a.length - k) 0 (by simp [SatL, tget, Heap.le_refl]) ?_
  intro k ⟨hk, hp⟩
  rcases Nat.lt_or_ge k a.length with hlt | hge
  · have ea : a[k]? = some a[k] := List.getElem?_eq_getElem hlt
    simp -dsimp -implicitDefEqProofs only [go_sem, ↓reduceIte, keep69, ib69, mk69, Tryz.f69, Tryz.f69, ea, DFunc.c_eq]
    repeat' (with_reducible first | intro _ | refine And.intro ?_ ?_)
    all_goals try omega
    have hx := hc a[k] (List.getElem_mem hlt)
    simp only [DFunc.c_eq] at hx
    refine HFnF.mkAt (hx.mono hle) ?_
    cases hpk : p a[k] with
    | true =>
      simp -dsimp -implicitDefEqProofs only [go_sem, ↓reduceIte, keep69, ib69, mk69, Tryz.f69, Tryz.f69]
      repeat' (with_reducible first | intro _ | refine And.intro ?_ ?_)
      all_goals first | exact (idxOf_some hlt hp hpk).symm | rfl | (rw [idxOf_some hlt hp hpk])
    | false =>
      simp -dsimp -implicitDefEqProofs only [go_sem, ↓reduceIte, keep69, ib69, mk69, Tryz.f69, Tryz.f69]
      refine ⟨k + 1, ?_⟩
      repeat' (with_reducible refine And.intro ?_ ?_)
      all_goals try (rw [IntWalk.i64_in _ (by omega)]; first | rfl | omega)
      all_goals try omega
      exact all_step (P := fun x => p x = false) hlt hp hpk
  · have hk' : k = a.length := by omega
    subst hk'
    rw [List.take_length] at hp
    simp -dsimp -implicitDefEqProofs only [go_sem, ↓reduceIte, keep69, ib69, mk69, Tryz.f69, Tryz.f69, Nat.lt_irrefl]
    all_goals first | exact (idxOf_none hp).symm | rw [idxOf_none hp]
def keep44 : List Nat := [0, 1, 4]
def ib44 : List Nat := []
def mk44 : Marks := fun _ => ([], .nil, [])
set_option maxRecDepth 100000 in
theorem hasF_FuncS (a : List DFunc) (p : DFunc → Bool) (g : FuncId) (cap : List HVal) {h0 : Heap} (hc : ∀ x ∈ a, FnAt Tryz.prog g ([(.agg (DFunc.c x))] ++ cap) (.bool (p x)) h0) : FnAt Tryz.prog 44 [(sls 3 DFunc.c a), .fn (.func g) [] cap] (.bool (a.any p)) h0 := by
  refine fnAtF 9 keep44 ib44 mk44 mix Tryz.func44 rfl (by kernel_rfl) (by simp) fun h hle => ?_
  simp -dsimp -implicitDefEqProofs only [go_sem, ↓reduceIte, keep44, ib44, mk44, Tryz.f44, Tryz.f44]
  refine HFnF.mkAt ((idxF_FuncS a p g cap hc).mono hle) ?_
  simp -dsimp -implicitDefEqProofs only [go_sem, ↓reduceIte, keep44, ib44, mk44, Tryz.f44, Tryz.f44]
  all_goals first | done | exact idxOf_nonneg | rw [idxOf_nonneg]

def keep45 : List Nat := [0, 1, 2, 3]
def ib45 : List Nat := [2]
def mk45 : Marks := fun _ => ([], .nil, [])
set_option maxRecDepth 100000 in
theorem ValidProgram1 (g f : DFunc) (n : Nat) {h0 : Heap} (hn : h0 n = some (.row 3 [f.c.map .v])) : FnAt Tryz.prog 45 [.agg g.c, .op n 3 0 0] (.bool (decide (g.fName = f.fName))) h0 := by
  simp only [DFunc.c_eq]
  have hg (h : Heap) (hle : h0.le h) := Heap.le_get hle hn
  refine fnAtF 9 keep45 ib45 mk45 mix Tryz.func45 rfl (by kernel_rfl) (by simp) fun h hle => ?_
  simp (maxSteps := 1000000) -dsimp -implicitDefEqProofs only [go_sem, ↓reduceIte, keep45, ib45, mk45, Tryz.f45]
  have hn' := hg h hle
  simp only [DFunc.c_eq] at hn'
  simp (maxSteps := 1000000) -dsimp -implicitDefEqProofs only [go_sem, ↓reduceIte, keep45, ib45, mk45, Tryz.f45, hn']
def keep23 : List Nat := [0, 1, 2, 3, 4, 5, 7, 11, 13, 14, 15, 16, 31, 42, 44, 45, 46, 47, 56, 63]
def ib23 : List Nat := [1]
def mk23 : Marks := fun _ => ([], .nil, [])
set_option maxRecDepth 100000 in
theorem ValidProgram (p : DProgram) (hps : p.s ≤ 4194304) : Fn0 Tryz.prog 23 [.agg p.c] (.bool (decide p.ok)) := by
  simp only [DProgram.c_eq]
  refine fn0F 65 keep23 ib23 mk23 mix Tryz.func23 rfl (by kernel_rfl) (by simp) fun h => ?_
  simp (maxSteps := 1000000) -dsimp -implicitDefEqProofs only [go_sem, ↓reduceIte, keep23, ib23, mk23, Tryz.f23]
  repeat' (with_reducible first | intro _ | refine And.intro ?_ ?_)
  · exact (decide_eq_false fun z => by have := z.1; omega).symm
  refine loopF (keep := keep23) (ib := ib23) (mk := mk23) mix (by kernel_rfl) (fun k : Nat => [(1, .ip 1 [p.c] 0 0), (13, sls 3 DFunc.c p.fFuncs), (14, I p.fFuncs.length), (15, I k)]) (fun _ => h) (fun k => k ≤ p.fFuncs.length ∧ ∀ (j : Nat) (f : DFunc), j < k → p.fFuncs[j]? = some f → funcOK p j f) (fun k => p.fFuncs.length - k) 0 (by refine ⟨by simp [SatL, tget, DProgram.c_eq], by repeat' (with_reducible first | exact Heap.le_refl _ | refine (le_upd (by first | assumption | exact And.right (by assumption) | exact upd_none.2 (by assumption))).2 ?_), by simp⟩) ?_
  intro k ⟨hk, hp⟩
  simp only [DProgram.c_eq]
  rcases Nat.lt_or_ge k p.fFuncs.length with hlt | hge
  · obtain ⟨f, eg⟩ : ∃ f, p.fFuncs[k]? = some f := ⟨_, List.getElem?_eq_getElem hlt⟩
    have hfs := DProgram.func_s (List.mem_of_getElem? eg)
    have hos := f.outs_s
    have no (q : ¬ funcOK p k f) : false = decide p.ok := (decide_eq_false fun z => q (z.2 k f eg)).symm
    simp (maxSteps := 1000000) -dsimp -implicitDefEqProofs only [go_sem, ↓reduceIte, keep23, ib23, mk23, Tryz.f23, eg, DFunc.c_eq, upd_upd]
    repeat' (with_reducible first | intro _ | refine And.intro ?_ ?_)
    all_goals try omega
    rename_i n hn
    first | refine HFnF.mk (IsName f.fName) ?_ | refine CallSF.mk (IsName f.fName) ?_ | refine HFnF.mkAt (IsName f.fName) ?_ | refine CallSF.mk (FnAt.fn0 (IsName f.fName)) ?_
    simp (maxSteps := 1000000) -dsimp -implicitDefEqProofs only [go_sem, ↓reduceIte, keep23, ib23, mk23, Tryz.f23, upd_get, upd_upd]
    repeat' (with_reducible first | intro _ | refine And.intro ?_ ?_)
    all_goals try (repeat' (with_reducible first | exact Heap.le_refl _ | refine (le_upd (by first | assumption | exact And.right (by assumption) | exact upd_none.2 (by assumption))).2 ?_))
    all_goals try omega
    all_goals try (rename_i hnm; exact no fun z => hnm z.1)
    rename_i hnm
    rw [← List.map_take]
    refine HFnF.mkAt (hasF_FuncS (p.fFuncs.take k) (fun g => decide (g.fName = f.fName)) 45 [.op n 3 0 0] fun g _ => ValidProgram1 g f n (by simp [upd_get, DFunc.c_eq])) ?_
    simp (maxSteps := 1000000) -dsimp -implicitDefEqProofs only [go_sem, ↓reduceIte, keep23, ib23, mk23, Tryz.f23, upd_get, upd_upd]
    repeat' (with_reducible first | intro _ | refine And.intro ?_ ?_)
    all_goals try (repeat' (with_reducible first | exact Heap.le_refl _ | refine (le_upd (by first | assumption | exact And.right (by assumption) | exact upd_none.2 (by assumption))).2 ?_))
    · rename_i q
      refine no fun z => ?_
      obtain ⟨g, hg1, hg2⟩ := List.any_eq_true.1 q
      exact z.2.2.2.1 g hg1 (by simpa using hg2)
    rename_i hnd
    have hnd' : ∀ g ∈ p.fFuncs.take k, g.fName ≠ f.fName := fun g hg => by
      have := List.any_eq_false.1 hnd g hg
      simpa using this
    first | refine HFnF.mk (within f.fParams 0 12) ?_ | refine CallSF.mk (within f.fParams 0 12) ?_ | refine HFnF.mkAt (within f.fParams 0 12) ?_ | refine CallSF.mk (FnAt.fn0 (within f.fParams 0 12)) ?_
    simp (maxSteps := 1000000) -dsimp -implicitDefEqProofs only [go_sem, ↓reduceIte, keep23, ib23, mk23, Tryz.f23, upd_get, upd_upd]
    repeat' (with_reducible first | intro _ | refine And.intro ?_ ?_)
    all_goals try (repeat' (with_reducible first | exact Heap.le_refl _ | refine (le_upd (by first | assumption | exact And.right (by assumption) | exact upd_none.2 (by assumption))).2 ?_))
    · first | refine HFnF.mk (within f.fOuts.length 1 12) ?_ | refine CallSF.mk (within f.fOuts.length 1 12) ?_ | refine HFnF.mkAt (within f.fOuts.length 1 12) ?_ | refine CallSF.mk (FnAt.fn0 (within f.fOuts.length 1 12)) ?_
      simp (maxSteps := 1000000) -dsimp -implicitDefEqProofs only [go_sem, ↓reduceIte, keep23, ib23, mk23, Tryz.f23, upd_get, upd_upd]
      repeat' (with_reducible first | intro _ | refine And.intro ?_ ?_)
      all_goals try (repeat' (with_reducible first | exact Heap.le_refl _ | refine (le_upd (by first | assumption | exact And.right (by assumption) | exact upd_none.2 (by assumption))).2 ?_))
      · rename_i q
        exact no fun z => q z.2.2.1
      · rename_i q1 q2 q3 q4
        have part (i : Nat) (hi : i < f.fOuts.length) : i + ((f.fOuts.take i).map DExpr.s).sum + f.fOuts[i].s + 1 ≤ szs DExpr.s f.fOuts := by
          have h1 := sum_take_succ DExpr.s f.fOuts i hi
          have h2 := sum_take_le DExpr.s f.fOuts (i + 1)
          rw [szs_eq]; omega
        have hszs : szs DExpr.s f.fOuts ≤ f.s := by rw [f.s_eq]; omega
        refine loopF (keep := keep23) (ib := ib23) (mk := mk23) mix (by kernel_rfl) (fun i : Nat => [(1, .ip 1 [p.c] 0 0), (3, I k), (4, .op n 3 0 0), (5, I ((i + ((f.fOuts.take i).map DExpr.s).sum : Nat) : Int)), (13, sls 3 DFunc.c p.fFuncs), (14, I p.fFuncs.length), (15, I k), (44, sls 5 DExpr.c f.fOuts), (45, I f.fOuts.length), (46, I i)]) (fun _ => upd h n (.row 3 [f.c.map .v])) (fun i => i ≤ f.fOuts.length ∧ ∀ e ∈ f.fOuts.take i, exprOK p e f.fParams k) (fun i => f.fOuts.length - i) 0 (by refine ⟨by simp [SatL, tget, DProgram.c_eq], by simp [DFunc.c_eq, Heap.le_refl], by simp⟩) ?_
        intro i ⟨hi, hall⟩
        simp only [DProgram.c_eq, DFunc.c_eq, List.map_cons, List.map_nil]
        rcases Nat.lt_or_ge i f.fOuts.length with hlt2 | hge2
        · have h1 := sum_take_succ DExpr.s f.fOuts i hlt2
          have hpt := part i hlt2
          have hout := DFunc.out_s (List.getElem_mem hlt2)
          have ee : f.fOuts[i]? = some f.fOuts[i] := List.getElem?_eq_getElem hlt2
          have hv := ValidExpr p f.fOuts[i] f.fParams k (by omega) (by omega)
          have hz := ExprSize f.fOuts[i] (by omega)
          simp only [DExpr.c_eq, DProgram.c_eq] at hv hz
          simp (maxSteps := 1000000) -dsimp -implicitDefEqProofs only [go_sem, ↓reduceIte, keep23, ib23, mk23, Tryz.f23, ee, DExpr.c_eq, upd_upd]
          repeat' (with_reducible first | intro _ | refine And.intro ?_ ?_)
          all_goals try omega
          rename_i m hm
          have hmn : (n = m) = False := eq_false fun e => hm.1 e.symm
          have hnm2 : (m = n) = False := eq_false hm.1
          simp (maxSteps := 1000000) -dsimp -implicitDefEqProofs only [go_sem, ↓reduceIte, keep23, ib23, mk23, Tryz.f23, upd_get, hmn, hnm2]
          first | refine HFnF.mk (hv) ?_ | refine CallSF.mk (hv) ?_ | refine HFnF.mkAt (hv) ?_ | refine CallSF.mk (FnAt.fn0 (hv)) ?_
          simp (maxSteps := 1000000) -dsimp -implicitDefEqProofs only [go_sem, ↓reduceIte, keep23, ib23, mk23, Tryz.f23, upd_get, hmn, hnm2]
          repeat' (with_reducible first | intro _ | refine And.intro ?_ ?_)
          · rename_i hne
            exact no fun z => hne (z.2.2.2.2.2 _ (List.getElem_mem hlt2))
          · all_goals try (repeat' (with_reducible first | exact Heap.le_refl _ | refine (le_upd (by first | assumption | exact And.right (by assumption) | exact upd_none.2 (by assumption))).2 ?_))
          · rename_i hne
            first | refine HFnF.mk (hz) ?_ | refine CallSF.mk (hz) ?_ | refine HFnF.mkAt (hz) ?_ | refine CallSF.mk (FnAt.fn0 (hz)) ?_
            simp (maxSteps := 1000000) -dsimp -implicitDefEqProofs only [go_sem, ↓reduceIte, keep23, ib23, mk23, Tryz.f23, upd_get, hmn, hnm2]
            refine ⟨i + 1, ?_⟩
            repeat' (with_reducible refine And.intro ?_ ?_)
            all_goals try (rw [IntWalk.i64_in _ (by omega)]; first | rfl | omega)
            all_goals try omega
            all_goals try (repeat' (with_reducible first | exact Heap.le_refl _ | refine (le_upd (by first | assumption | exact And.right (by assumption) | exact upd_none.2 (by assumption))).2 ?_))
            all_goals try (simp only [DProgram.c_eq]; done)
            exact all_step (P := fun e => exprOK p e f.fParams k) hlt2 hall hne
        · have hi' : i = f.fOuts.length := by omega
          subst hi'
          rw [List.take_length] at hall ⊢
          simp (maxSteps := 1000000) -dsimp -implicitDefEqProofs only [go_sem, ↓reduceIte, keep23, ib23, mk23, Tryz.f23, Nat.lt_irrefl]
          have hss : szs DExpr.s f.fOuts = f.fOuts.length + (f.fOuts.map DExpr.s).sum := szs_eq _ _
          repeat' (with_reducible first | intro _ | refine And.intro ?_ ?_)
          all_goals try (repeat' (with_reducible first | exact Heap.le_refl _ | refine (le_upd (by first | assumption | exact And.right (by assumption) | exact upd_none.2 (by assumption))).2 ?_))
          · rename_i q
            exact no fun z => by have := z.2.2.2.2.1; omega
          · rename_i q
            have hfk : funcOK p k f := ⟨hnm, q1, q3, hnd', by omega, hall⟩
            refine ⟨k + 1, ?_⟩
            repeat' (with_reducible refine And.intro ?_ ?_)
            all_goals try (rw [IntWalk.i64_in _ (by omega)]; first | rfl | omega)
            all_goals try omega
            all_goals try (repeat' (with_reducible first | exact Heap.le_refl _ | refine (le_upd (by first | assumption | exact And.right (by assumption) | exact upd_none.2 (by assumption))).2 ?_))
            intro j f' hj ej
            rcases Nat.lt_succ_iff_lt_or_eq.1 hj with h1 | rfl
            · exact hp j f' h1 ej
            · rw [eg] at ej; obtain rfl := Option.some.inj ej; exact hfk
    · rename_i q
      exact no fun z => q z.2.1
  · have hk' : k = p.fFuncs.length := by omega
    subst hk'
    simp (maxSteps := 1000000) -dsimp -implicitDefEqProofs only [go_sem, ↓reduceIte, keep23, ib23, mk23, Tryz.f23, Nat.lt_irrefl]
    exact (decide_eq_true ⟨by omega, fun j f ej => hp j f (List.getElem?_eq_some_iff.1 ej).1 ej⟩).symm
open Go.Proofs
set_option linter.unusedVariables false
set_option linter.unusedSimpArgs false
end Go.Hl
namespace Go.Proofs
open Go.Shelf
def Tryz.laysM173_ren : Go.Shelf.Ren := ⟨fun | 173 => 109 | 246 => 124 | 283 => 133 | 284 => 134 | 285 => 135 | 286 => 136 | 129 => 139 | 317 => 138 | 318 => 140 | 319 => 141 | 320 => 142 | 337 => 143 | 338 => 144 | n => n, fun | 2 => 2 | 3 => 3 | 9 => 9 | 4 => 4 | 171 => 164 | 0 => 0 | 53 => 144 | 37 => 109 | 5 => 5 | 173 => 167 | 212 => 173 | 51 => 156 | 20 => 20 | 213 => 174 | 46 => 142 | 232 => 178 | 233 => 179 | n => n, fun | 17 => 5 | 18 => 6 | 19 => 7 | n => n⟩
theorem Tryz.laysM173 : Go.Proofs.LaysM.n173 Tryz.prog Tryz.laysM173_ren := {
  mixed := by kernel_rfl
  f129 := Tryz.func139.trans (congrArg some (by kernel_rfl))
  f173 := Tryz.func109.trans (congrArg some (by kernel_rfl))
  f246 := Tryz.func124.trans (congrArg some (by kernel_rfl))
  f283 := Tryz.func133.trans (congrArg some (by kernel_rfl))
  f284 := Tryz.func134.trans (congrArg some (by kernel_rfl))
  f285 := Tryz.func135.trans (congrArg some (by kernel_rfl))
  f286 := Tryz.func136.trans (congrArg some (by kernel_rfl))
  f317 := Tryz.func138.trans (congrArg some (by kernel_rfl))
  f318 := Tryz.func140.trans (congrArg some (by kernel_rfl))
  f319 := Tryz.func141.trans (congrArg some (by kernel_rfl))
  f320 := Tryz.func142.trans (congrArg some (by kernel_rfl))
  f337 := Tryz.func143.trans (congrArg some (by kernel_rfl))
  f338 := Tryz.func144.trans (congrArg some (by kernel_rfl))
  t0 := Tryz.underlying0
  a0 := Tryz.isAgg0
  z0 := Tryz.sizeOf0
  v0 := Tryz.zeroValue0
  t2 := Tryz.underlying2
  a2 := Tryz.isAgg2
  z2 := Tryz.sizeOf2
  v2 := Tryz.zeroValue2
  t3 := Tryz.underlying3
  a3 := Tryz.isAgg3
  z3 := Tryz.sizeOf3
  v3 := Tryz.zeroValue3
  t4 := Tryz.underlying4
  a4 := Tryz.isAgg4
  z4 := Tryz.sizeOf4
  v4 := Tryz.zeroValue4
  t5 := Tryz.underlying5
  a5 := Tryz.isAgg5
  z5 := Tryz.sizeOf5
  v5 := Tryz.zeroValue5
  t9 := Tryz.underlying9
  a9 := Tryz.isAgg9
  z9 := Tryz.sizeOf9
  v9 := Tryz.zeroValue9
  t20 := Tryz.underlying20
  a20 := Tryz.isAgg20
  z20 := Tryz.sizeOf20
  v20 := Tryz.zeroValue20
  t37 := Tryz.underlying109
  a37 := Tryz.isAgg109
  z37 := Tryz.sizeOf109
  v37 := Tryz.zeroValue109
  t46 := Tryz.underlying142
  a46 := Tryz.isAgg142
  z46 := Tryz.sizeOf142
  v46 := Tryz.zeroValue142
  t51 := Tryz.underlying156
  a51 := Tryz.isAgg156
  z51 := Tryz.sizeOf156
  v51 := Tryz.zeroValue156
  t53 := Tryz.underlying144
  a53 := Tryz.isAgg144
  z53 := Tryz.sizeOf144
  v53 := Tryz.zeroValue144
  t171 := Tryz.underlying164
  a171 := Tryz.isAgg164
  z171 := Tryz.sizeOf164
  v171 := Tryz.zeroValue164
  t173 := Tryz.underlying167
  a173 := Tryz.isAgg167
  z173 := Tryz.sizeOf167
  v173 := Tryz.zeroValue167
  t212 := Tryz.underlying173
  a212 := Tryz.isAgg173
  z212 := Tryz.sizeOf173
  v212 := Tryz.zeroValue173
  t213 := Tryz.underlying174
  a213 := Tryz.isAgg174
  z213 := Tryz.sizeOf174
  t232 := Tryz.underlying178
  a232 := Tryz.isAgg178
  z232 := Tryz.sizeOf178
  v232 := Tryz.zeroValue178
  t233 := Tryz.underlying179
  a233 := Tryz.isAgg179
  z233 := Tryz.sizeOf179
  v233 := Tryz.zeroValue179
  g17 := by kernel_rfl
  g18 := by kernel_rfl
  g19 := by kernel_rfl
  i0 := by kernel_rfl
  i2 := by kernel_rfl
  i3 := by kernel_rfl
  i4 := by kernel_rfl
  i5 := by kernel_rfl
  i9 := by kernel_rfl
  i20 := by kernel_rfl
  i37 := by kernel_rfl
  i46 := by kernel_rfl
  i51 := by kernel_rfl
  i53 := by kernel_rfl
  i171 := by kernel_rfl
  i173 := by kernel_rfl
  i212 := by kernel_rfl
  i232 := by kernel_rfl
  i233 := by kernel_rfl
  m17 := by kernel_rfl
  m18 := by kernel_rfl
  m19 := by kernel_rfl }
open Go.RowKit Go.Sort Go.Lib in
theorem Tryz.strconv_FormatInt_10 (n : Int) (h0 : -9223372036854775808 ≤ n) (h1 : n ≤ 9223372036854775807) (w : World) (htab : Lib.TabIs Tryz.prog w "internal/strconv.uint64pow10" .u64 Lib.pow10Tab) :
    Calls Tryz.prog 109 #[.int .i64 n, .int .i64 10] w fun e w' => e = .returned (.string ⟨(Lib.itoa n).toArray⟩) ∧ ∃ k os, w' = grow (w.drewN k) os := Any.strconv_FormatInt_10 Tryz.laysM173 n h0 h1 w htab
end Go.Proofs
namespace Go.Hl

open Go.Proofs
set_option linter.unusedVariables false
set_option linter.unusedSimpArgs false
/-! ### texts cut at a byte -/
/-! ### the library's functions at a byte -/
/-! ### decimal numerals -/
theorem dec_one {u : Nat} (h : u < 10) : Go.Lib.decDigits u = [UInt8.ofNat (48 + u)] := by rw [Go.Lib.decDigits, dif_pos h]
theorem dec_more {u : Nat} (h : 10 ≤ u) : Go.Lib.decDigits u = Go.Lib.decDigits (u / 10) ++ [UInt8.ofNat (48 + u % 10)] := by rw [Go.Lib.decDigits, dif_neg (by omega)]
theorem dig_val {d : Nat} (h : d < 10) : (UInt8.ofNat (48 + d)).toNat = 48 + d := by
  show (48 + d) % 256 = 48 + d
  omega
def numEnd {α : Type} (x : Go.Lib.NumEnd Nat) (ok : Nat → Go.Lib.NumEnd α) : Go.Lib.NumEnd α := match x with | .ok a => ok a | Go.Lib.NumEnd.syntax => Go.Lib.NumEnd.syntax | .range => .range
theorem parseU_snoc (M : Nat) (c : UInt8) : ∀ (l : List UInt8) (acc : Nat), Go.Lib.parseUintM M acc (l ++ [c]) = numEnd (Go.Lib.parseUintM M acc l) fun a => Go.Lib.parseUintM M a [c]
  | [], acc => rfl
  | x :: l, acc => by
    rw [List.cons_append, Go.Lib.parseUintM, Go.Lib.parseUintM]
    split
    · split
      · rfl
      · split
        · rfl
        · exact parseU_snoc M c l _
    · rfl
theorem parseU_one {M acc d : Nat} (hd : d < 10) (h1 : acc < 1844674407370955162) (h2 : acc * 10 + d ≤ M) : Go.Lib.parseUintM M acc [UInt8.ofNat (48 + d)] = .ok (acc * 10 + d) := by
  rw [Go.Lib.parseUintM, dig_val hd, if_pos (by omega), if_neg (by omega), if_neg (by omega), Go.Lib.parseUintM]
  congr 1; omega
theorem parseU_dec {M : Nat} (hM : M < 18446744073709551616) (u : Nat) (h : u ≤ M) : Go.Lib.parseUintM M 0 (Go.Lib.decDigits u) = .ok u := by
  induction u using Nat.strongRecOn with
  | _ u ih =>
    by_cases e : u < 10
    · rw [dec_one e, parseU_one e (by omega) (by omega)]; congr 1; omega
    · rw [dec_more (by omega), parseU_snoc, ih (u / 10) (by omega) (by omega)]
      show Go.Lib.parseUintM M (u / 10) _ = _
      rw [parseU_one (by omega) (by omega) (by omega)]; congr 1; omega
theorem dec_head (u : Nat) : ∃ d r, Go.Lib.decDigits u = UInt8.ofNat (48 + d) :: r ∧ d < 10 ∧ (r ≠ [] → 1 ≤ d) := by
  induction u using Nat.strongRecOn with
  | _ u ih =>
    by_cases e : u < 10
    · exact ⟨u, [], dec_one e, e, fun h => absurd rfl h⟩
    · obtain ⟨d, r, h1, h2, h3⟩ := ih (u / 10) (by omega)
      refine ⟨d, r ++ [UInt8.ofNat (48 + u % 10)], by rw [dec_more (by omega), h1]; rfl, h2, fun _ => ?_⟩
      by_cases hr : r = []
      · subst hr
        by_cases e2 : u / 10 < 10
        · rw [dec_one e2] at h1
          have h4 : UInt8.ofNat (48 + u / 10) = UInt8.ofNat (48 + d) := by injection h1
          have := congrArg UInt8.toNat h4
          rw [dig_val e2, dig_val h2] at this; omega
        · rw [dec_more (by omega)] at h1
          have := congrArg List.length h1
          have h5 := (ih (u / 10 / 10) (by omega))
          obtain ⟨d', r', h6, _⟩ := h5
          rw [h6] at this; simp at this
      · exact h3 hr
theorem itoa_dec (n : Int) (h : 0 ≤ n) : Go.Lib.itoa n = Go.Lib.decDigits n.toNat := by rw [Go.Lib.itoa, if_neg (by omega)]
theorem parseI_itoa {n : Int} (h0 : 0 ≤ n) (h1 : n ≤ 9223372036854775807) : Go.Lib.parseIntB 64 (Go.Lib.itoa n) = .ok n := by
  rw [itoa_dec n h0]
  obtain ⟨d, r, hd, h2, _⟩ := dec_head n.toNat
  have hp := parseU_dec (M := 2 ^ 64 - 1) (by decide) n.toNat (by omega)
  rw [hd] at hp ⊢
  have hv := dig_val h2
  simp only [Go.Lib.parseIntB, hv]
  rw [if_neg (by omega), Go.Lib.parseUintB, if_neg (by simp), hp]
  simp only [show ¬ (48 + d = 45) by omega, not_false_eq_true, true_and, false_and, if_false]
  rw [if_neg (by omega)]
  congr 1; omega
/-- What strconv.ParseInt makes of a text. -/
def rdN (s : List UInt8) : Int := match Go.Lib.parseIntB 64 s with | .ok v => v | Go.Lib.NumEnd.syntax => 0 | .range => Go.Lib.intSat 64 s
/-- A text is the numeral of a number that is not over a bound. -/
def rdOK (hi : Int) (s : List UInt8) : Prop := 0 ≤ rdN s ∧ rdN s ≤ hi ∧ s = Go.Lib.itoa (rdN s)
instance (hi : Int) (s : List UInt8) : Decidable (rdOK hi s) := inferInstanceAs (Decidable (_ ∧ _ ∧ _))
theorem rdN_itoa {n : Int} (h0 : 0 ≤ n) (h1 : n ≤ 9223372036854775807) : rdN (Go.Lib.itoa n) = n := by rw [rdN, parseI_itoa h0 h1]
theorem rdOK_itoa {n hi : Int} (h0 : 0 ≤ n) (h1 : n ≤ 9223372036854775807) : rdOK hi (Go.Lib.itoa n) ↔ n ≤ hi := by
  rw [rdOK, rdN_itoa h0 h1]; exact ⟨fun h => h.2.1, fun h => ⟨h0, h, rfl⟩⟩
theorem rdOK_iff {hi : Int} (h : hi ≤ 9223372036854775807) (s : List UInt8) : rdOK hi s ↔ ∃ n, 0 ≤ n ∧ n ≤ hi ∧ s = Go.Lib.itoa n :=
  ⟨fun q => ⟨_, q⟩, fun ⟨n, h0, h1, e⟩ => by rw [e]; exact (rdOK_itoa h0 (by omega)).2 h1⟩
theorem dec_digits (u : Nat) : ∀ c ∈ Go.Lib.decDigits u, 48 ≤ c.toNat ∧ c.toNat ≤ 57 := by
  induction u using Nat.strongRecOn with
  | _ u ih =>
    intro c hc
    by_cases e : u < 10
    · rw [dec_one e] at hc
      rw [List.mem_singleton.1 hc, dig_val e]; omega
    · rw [dec_more (by omega)] at hc
      rcases List.mem_append.1 hc with hc | hc
      · exact ih (u / 10) (by omega) c hc
      · rw [List.mem_singleton.1 hc, dig_val (Nat.mod_lt _ (by omega))]; omega
theorem dec_ne (u : Nat) : Go.Lib.decDigits u ≠ [] := by obtain ⟨d, r, h, _⟩ := dec_head u; rw [h]; simp
theorem itoa_ne {n : Int} (h : 0 ≤ n) : Go.Lib.itoa n ≠ [] := by rw [itoa_dec n h]; exact dec_ne _
/-- The number that digits spell. -/
def decV (l : List UInt8) : Nat := l.foldl (fun n c => 10 * n + (c.toNat - 48)) 0
theorem decV_snoc (l : List UInt8) (c : UInt8) : decV (l ++ [c]) = 10 * decV l + (c.toNat - 48) := by simp [decV]
theorem decV_dec (u : Nat) : decV (Go.Lib.decDigits u) = u := by
  induction u using Nat.strongRecOn with
  | _ u ih =>
    by_cases e : u < 10
    · rw [dec_one e]; simp only [decV, List.foldl_cons, List.foldl_nil]; rw [dig_val e]; omega
    · rw [dec_more (by omega), decV_snoc, ih (u / 10) (by omega), dig_val (Nat.mod_lt _ (by omega))]; omega
/-- Digits without a zero ahead. -/
def digsOK (l : List UInt8) : Prop := l ≠ [] ∧ (∀ c ∈ l, 48 ≤ c.toNat ∧ c.toNat ≤ 57) ∧ (1 < l.length → l[0]? ≠ some 48)
theorem digsOK_dec (u : Nat) : digsOK (Go.Lib.decDigits u) := by
  refine ⟨dec_ne u, dec_digits u, fun h q => ?_⟩
  obtain ⟨d, r, h1, h2, h3⟩ := dec_head u
  rw [h1] at h q
  have h4 : UInt8.ofNat (48 + d) = 48 := by simpa using q
  have h5 := congrArg UInt8.toNat h4
  rw [dig_val h2] at h5
  have : r ≠ [] := by intro e; rw [e] at h; simp at h
  have := h3 this
  have h6 : (48 : UInt8).toNat = 48 := rfl
  omega
theorem digs_dec (l : List UInt8) (h : digsOK l) : l = Go.Lib.decDigits (decV l) := by
  induction hn : l.length using Nat.strongRecOn generalizing l with
  | _ n ih =>
    obtain ⟨h1, h2, h3⟩ := h
    rcases List.eq_nil_or_concat l with e | ⟨l', c, e⟩
    · exact absurd e h1
    · rw [List.concat_eq_append] at e
      subst e
      have hc := h2 c (by simp)
      have ec : UInt8.ofNat (48 + (c.toNat - 48)) = c := by
        apply UInt8.toNat.inj
        rw [dig_val (by omega)]; omega
      rw [decV_snoc]
      by_cases e : l' = []
      · subst e
        rw [show decV [] = 0 from rfl, Nat.mul_zero, Nat.zero_add, dec_one (by omega), ec]; rfl
      · have hl : 1 < (l' ++ [c]).length := by
          have := List.length_pos_iff.2 e
          simp; omega
        have h4 := h3 hl
        have hd : digsOK l' := ⟨e, fun x hx => h2 x (by simp [hx]), fun hl' q => h4 (by rw [List.getElem?_append_left (by omega)]; exact q)⟩
        have h5 := ih l'.length (by rw [← hn]; simp) l' hd rfl
        have hv : 1 ≤ decV l' := by
          rcases Nat.eq_zero_or_pos (decV l') with e0 | e0
          · rw [e0, dec_one (by omega)] at h5
            exact absurd (by rw [h5]; rfl) h4
          · exact e0
        rw [dec_more (by omega), show (10 * decV l' + (c.toNat - 48)) / 10 = decV l' by omega, show (10 * decV l' + (c.toNat - 48)) % 10 = c.toNat - 48 by omega, ec, ← h5]
theorem dec_len9 (u : Nat) : (Go.Lib.decDigits u).length ≤ 9 ↔ u ≤ 999999999 := by
  have h := Go.Lib.lt_pow_nDigits u
  rw [Go.Lib.decDigits_length]
  constructor
  · intro q
    have : 10 ^ Go.Lib.nDigits u ≤ 10 ^ 9 := Nat.pow_le_pow_right (by decide) q
    omega
  · intro q
    rcases Nat.lt_or_ge u 10 with e | e
    · rw [Go.Lib.nDigits_small e]; omega
    · have h1 : ∀ k, k ≤ 8 → 10 ^ k ≤ u → u < 10 ^ (k + 1) → Go.Lib.nDigits u ≤ 9 := fun k hk a b => by rw [Go.Lib.nDigits_unique k u a b]; omega
      rcases Nat.lt_or_ge u 100 with e1 | e1
      · exact h1 1 (by omega) (by omega) (by omega)
      rcases Nat.lt_or_ge u 1000 with e2 | e2
      · exact h1 2 (by omega) (by omega) (by omega)
      rcases Nat.lt_or_ge u 10000 with e3 | e3
      · exact h1 3 (by omega) (by omega) (by omega)
      rcases Nat.lt_or_ge u 100000 with e4 | e4
      · exact h1 4 (by omega) (by omega) (by omega)
      rcases Nat.lt_or_ge u 1000000 with e5 | e5
      · exact h1 5 (by omega) (by omega) (by omega)
      rcases Nat.lt_or_ge u 10000000 with e6 | e6
      · exact h1 6 (by omega) (by omega) (by omega)
      rcases Nat.lt_or_ge u 100000000 with e7 | e7
      · exact h1 7 (by omega) (by omega) (by omega)
      · exact h1 8 (by omega) (by omega) (by omega)
/-- What spec.ReadDecimal takes. -/
theorem digs_iff (l : List UInt8) : (digsOK l ∧ l.length ≤ 9) ↔ ∃ n : Int, 0 ≤ n ∧ n ≤ 999999999 ∧ l = Go.Lib.itoa n := by
  constructor
  · rintro ⟨h1, h2⟩
    have h3 := digs_dec l h1
    refine ⟨decV l, by omega, ?_, by rw [itoa_dec _ (by omega)]; exact h3⟩
    rw [h3, dec_len9] at h2
    omega
  · rintro ⟨n, h0, h1, rfl⟩
    rw [itoa_dec n h0]
    exact ⟨digsOK_dec _, (dec_len9 _).2 (by omega)⟩
theorem digs_rd (l : List UInt8) : (digsOK l ∧ l.length ≤ 9) ↔ rdOK 999999999 l := by rw [digs_iff, rdOK_iff (by decide)]
theorem decV_rd {l : List UInt8} (h : rdOK 999999999 l) : (decV l : Int) = rdN l := by
  have h2 := h.2.2
  have h0 := h.1
  generalize rdN l = n at *
  rw [h2, itoa_dec n h0, decV_dec]; omega
open Go.Proofs
set_option linter.unusedVariables false
set_option linter.unusedSimpArgs false
open Go.Proofs
set_option linter.unusedVariables false
set_option linter.unusedSimpArgs false
theorem itoa_lt {n : Int} (h0 : 0 ≤ n) (h : n < 10) : Go.Lib.itoa n = [UInt8.ofNat (48 + n).toNat] := by
  unfold Go.Lib.itoa
  rw [if_neg (by omega), Go.Lib.decDigits, dif_pos (by omega), show (48 + n).toNat = 48 + n.toNat from by omega]
theorem itoa_ge {n : Int} (h : 10 ≤ n) : Go.Lib.itoa n = Go.Lib.itoa (n / 10) ++ [UInt8.ofNat (48 + n % 10).toNat] := by
  unfold Go.Lib.itoa
  rw [if_neg (by omega), if_neg (by omega), Go.Lib.decDigits, dif_neg (by omega), show (48 + n % 10).toNat = 48 + n.toNat % 10 from by omega, show (n / 10).toNat = n.toNat / 10 from by omega]
theorem decDigits_len20 {u k : Nat} (h : u < 10 ^ k) (hk : 1 ≤ k) : (Go.Lib.decDigits u).length ≤ k := by
  induction k generalizing u with
  | zero => omega
  | succ k ih =>
    rw [Go.Lib.decDigits]
    split
    · simp
    · rename_i hu
      rcases Nat.eq_zero_or_pos k with e | e
      · subst e; simp at h; omega
      · have := ih (u := u / 10) (by rw [Nat.pow_succ] at h; omega) e
        simp; omega
theorem itoa_len64 {n : Int} (h0 : -9223372036854775808 ≤ n) (h1 : n ≤ 9223372036854775807) : (Go.Lib.itoa n).length ≤ 21 := by
  unfold Go.Lib.itoa
  split
  · have := decDigits_len20 (u := n.natAbs) (k := 20) (by omega) (by omega)
    simp; omega
  · have := decDigits_len20 (u := n.toNat) (k := 20) (by omega) (by omega)
    omega
theorem laid_tab {E : Env} {h : Heap} {w : World} (x : LaidIn E h w) : Go.Lib.TabIs Tryz.prog w "internal/strconv.uint64pow10" .u64 Go.Lib.pow10Tab :=
  let ⟨_, h1, h2⟩ := x.var (P := Tryz.prog) (name := "internal/strconv.uint64pow10") (by kernel_rfl) (List.mem_cons_self ..)
  h1.trans (congrArg some (h2.trans (by kernel_rfl)))
theorem formatInt (n : Int) (h0 : -9223372036854775808 ≤ n) (h1 : n ≤ 9223372036854775807) : Fn0 Tryz.prog 109 [I n, I 10] (.str (Go.Lib.itoa n)) :=
  fn0_grown (by kernel_rfl) fun E h w vs R rl => by
    match vs, rl with
    | [v0, v1], rl =>
      obtain ⟨r0, r1, _⟩ := rl
      rw [rep_int r0, rep_int r1]
      refine (Go.Proofs.Tryz.strconv_FormatInt_10 n h0 h1 w (laid_tab R.laid)).mono fun e w' ⟨he, hw⟩ => ⟨_, he, fun E' h' w' => .str _ ?_, hw⟩
      have := itoa_len64 h0 h1
      simp only [maxLen]
      omega
def keep88 : List Nat := [0, 2]
def ib88 : List Nat := []
def mk88 : Marks := fun _ => ([], .nil, [])
theorem decimal (n : Int) (h : Num n) : Fn0 Tryz.prog 88 [I n] (.str (Go.Lib.itoa n)) := by
  have h0 := h.1
  have h1 := h.2
  refine fn0F 5 keep88 ib88 mk88 mix Tryz.func88 rfl (by kernel_rfl) (by simp) fun h => ?_
  simp (maxSteps := 1000000) -dsimp -implicitDefEqProofs only [go_sem, ↓reduceIte, keep88, ib88, mk88, Tryz.f88]
  first | refine HFnF.mk (formatInt n (by omega) (by omega)) ?_ | refine CallSF.mk (formatInt n (by omega) (by omega)) ?_ | refine HFnF.mkAt (formatInt n (by omega) (by omega)) ?_ | refine CallSF.mk (FnAt.fn0 (formatInt n (by omega) (by omega))) ?_
  simp (maxSteps := 1000000) -dsimp -implicitDefEqProofs only [go_sem, ↓reduceIte, keep88, ib88, mk88, Tryz.f88]
def keep66 : List Nat := [0, 2, 4]
def ib66 : List Nat := [8, 17]
def mk66 : Marks := fun id => match id with | 3 => ([], (.op 0 (.op 1 (.op 2 (.op 3 (.op 4 (.op 5 (.op 6 (.op 7 (.op 8 (.op 9 (.op 10 .nil))))))))))), []) | _ => ([], .nil, [])
set_option maxRecDepth 100000 in
theorem Decimal (m : Nat) : ∀ n : Int, 0 ≤ n → n < m → n ≤ 1000002 → Fn0 Tryz.prog 66 [I n] (.str (Go.Lib.itoa n)) := by
  induction m with
  | zero => intro n a b; omega
  | succ m ih =>
  intro n h0 hm hn
  refine fn0F 20 keep66 ib66 mk66 mix Tryz.func66 rfl (by kernel_rfl) (by simp) fun h => ?_
  simp (maxSteps := 1000000) -dsimp -implicitDefEqProofs only [go_sem, ↓reduceIte, keep66, ib66, mk66, Tryz.f66]
  repeat' (with_reducible first | intro _ | refine And.intro ?_ ?_)
  all_goals try omega
  · rw [itoa_lt h0 (by assumption), IntWalk.i64_in (48 + n) (by omega), IntWalk.u8_in (48 + n) (by omega)]
  · rw [Int.tdiv_eq_ediv_of_nonneg (by omega), IntWalk.i64_in (n / 10) (by omega)]
    first | refine HFnF.mk (ih (n / 10) (by omega) (by omega) (by omega)) ?_ | refine CallSF.mk (ih (n / 10) (by omega) (by omega) (by omega)) ?_ | refine HFnF.mkAt (ih (n / 10) (by omega) (by omega) (by omega)) ?_ | refine CallSF.mk (FnAt.fn0 (ih (n / 10) (by omega) (by omega) (by omega))) ?_
    simp (maxSteps := 1000000) -dsimp -implicitDefEqProofs only [go_sem, ↓reduceIte, keep66, ib66, mk66, Tryz.f66]
    repeat' (with_reducible first | intro _ | refine And.intro ?_ ?_)
    all_goals try (first | omega | decide)
    · have := itoa_len64 (n := n / 10) (by omega) (by omega)
      omega
    · rw [itoa_ge (n := n) (by omega), Int.tmod_eq_emod_of_nonneg (by omega), IntWalk.i64_in (48 + n % 10) (by omega), IntWalk.u8_in (48 + n % 10) (by omega)]
theorem itoa_num {n : Int} (h : Num n) : (Go.Lib.itoa n).length ≤ 21 := itoa_len64 (by have := h.1; omega) (by have := h.2; omega)
end Go.Hl

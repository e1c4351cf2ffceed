/-
  Contracts of functions and laws of the layer over the walk.
-/
import Derived.Test.YtcpocmbgibafdaaVvA
import Derived.Test.YtcpocmbgibafdaaHlD
namespace Go.Hl
open Go.Proofs
set_option linter.unusedVariables false
set_option linter.unusedSimpArgs false
def frH (hA : Heap) (nb m n : Nat) (l : List It) : Heap := upd (upd hA nb (frB m n)) m (rowT l)
abbrev itI (x : It) : HVal := .iface 45 (.agg (itC x))
@[go_sem] def keep58 : List Nat := [0, 1]
@[go_sem] def ib58 : List Nat := [10]
@[go_sem] def mk58 : Marks := fun id => match id with | 0 => ([3, 5, 7, 9], (.op 0 (.op 1 (.op 2 (.op 4 (.op 3 (.op 5 (.op 6 (.op 7 (.op 8 (.op 9 .nil)))))))))), [(3, 5)]) | _ => ([], .nil, [])
theorem fPush {hA : Heap} {nb m n : Nat} {l : List It} (hnm : ¬ nb = m) (hn : n ≤ l.length) (hn2 : n < 4398046511103) (hA1 : hA m = none) (x : It) :
    HFn Try.prog 58 [.op nb 1 0 0, itI x] (frH hA nb m n l) fun _ h' => ∃ b, ¬ nb = b ∧ hA b = none ∧ h' = frH hA nb b (n + 1) (l.take n ++ [x]) := by
  have d_nb_m : ¬ nb = m := hnm
  have d_m_nb : ¬ m = nb := Ne.symm d_nb_m
  have e_nb_m : (nb = m) = False := eq_false d_nb_m
  have e_m_nb : (m = nb) = False := eq_false d_m_nb
  unfold frH
  refine fnHA 13 keep58 ib58 mk58 Try.func58 ?_
  simp (maxSteps := 1000000) -dsimp -implicitDefEqProofs only [go_sem, ↓reduceIte, keep58, ib58, mk58, Try.f58, upd_ne, e_nb_m, e_m_nb, itC_eq]
  repeat' (with_reducible first | intro _ | refine And.intro ?_ ?_)
  all_goals try omega
  rename_i b hb
  revert hb; revert b
  intro b q_b
  have d_b_nb : ¬ b = nb := by first | exact q_b.1 | exact q_b | exact q_b.2.1 | exact q_b.2 | exact q_b.2.2.1 | exact q_b.2.2 | exact q_b.2.2.2.1 | exact q_b.2.2.2 | exact q_b.2.2.2.2.1 | exact q_b.2.2.2.2 | exact q_b.2.2.2.2.2.1 | exact q_b.2.2.2.2.2 | exact q_b.2.2.2.2.2.2.1 | exact q_b.2.2.2.2.2.2 | exact q_b.2.2.2.2.2.2.2.1 | exact q_b.2.2.2.2.2.2.2 | exact q_b.2.2.2.2.2.2.2.2.1 | exact q_b.2.2.2.2.2.2.2.2 | exact q_b.2.2.2.2.2.2.2.2.2.1 | exact q_b.2.2.2.2.2.2.2.2.2 | exact q_b.2.2.2.2.2.2.2.2.2.2.1 | exact q_b.2.2.2.2.2.2.2.2.2.2 | exact q_b.2.2.2.2.2.2.2.2.2.2.2.1 | exact q_b.2.2.2.2.2.2.2.2.2.2.2 | exact q_b.2.2.2.2.2.2.2.2.2.2.2.2.1 | exact q_b.2.2.2.2.2.2.2.2.2.2.2.2 | exact q_b.2.2.2.2.2.2.2.2.2.2.2.2.2.1 | exact q_b.2.2.2.2.2.2.2.2.2.2.2.2.2
  have e_b_nb : (b = nb) = False := eq_false d_b_nb
  have e_nb_b : (nb = b) = False := eq_false (Ne.symm d_b_nb)
  have d_nb_b : ¬ nb = b := Ne.symm d_b_nb
  have d_b_m : ¬ b = m := by first | exact q_b.1 | exact q_b | exact q_b.2.1 | exact q_b.2 | exact q_b.2.2.1 | exact q_b.2.2 | exact q_b.2.2.2.1 | exact q_b.2.2.2 | exact q_b.2.2.2.2.1 | exact q_b.2.2.2.2 | exact q_b.2.2.2.2.2.1 | exact q_b.2.2.2.2.2 | exact q_b.2.2.2.2.2.2.1 | exact q_b.2.2.2.2.2.2 | exact q_b.2.2.2.2.2.2.2.1 | exact q_b.2.2.2.2.2.2.2 | exact q_b.2.2.2.2.2.2.2.2.1 | exact q_b.2.2.2.2.2.2.2.2 | exact q_b.2.2.2.2.2.2.2.2.2.1 | exact q_b.2.2.2.2.2.2.2.2.2 | exact q_b.2.2.2.2.2.2.2.2.2.2.1 | exact q_b.2.2.2.2.2.2.2.2.2.2 | exact q_b.2.2.2.2.2.2.2.2.2.2.2.1 | exact q_b.2.2.2.2.2.2.2.2.2.2.2 | exact q_b.2.2.2.2.2.2.2.2.2.2.2.2.1 | exact q_b.2.2.2.2.2.2.2.2.2.2.2.2 | exact q_b.2.2.2.2.2.2.2.2.2.2.2.2.2.1 | exact q_b.2.2.2.2.2.2.2.2.2.2.2.2.2
  have e_b_m : (b = m) = False := eq_false d_b_m
  have e_m_b : (m = b) = False := eq_false (Ne.symm d_b_m)
  have d_m_b : ¬ m = b := Ne.symm d_b_m
  have z_b : hA b = none := by first | exact q_b.1 | exact q_b | exact q_b.2.1 | exact q_b.2 | exact q_b.2.2.1 | exact q_b.2.2 | exact q_b.2.2.2.1 | exact q_b.2.2.2 | exact q_b.2.2.2.2.1 | exact q_b.2.2.2.2 | exact q_b.2.2.2.2.2.1 | exact q_b.2.2.2.2.2 | exact q_b.2.2.2.2.2.2.1 | exact q_b.2.2.2.2.2.2 | exact q_b.2.2.2.2.2.2.2.1 | exact q_b.2.2.2.2.2.2.2 | exact q_b.2.2.2.2.2.2.2.2.1 | exact q_b.2.2.2.2.2.2.2.2 | exact q_b.2.2.2.2.2.2.2.2.2.1 | exact q_b.2.2.2.2.2.2.2.2.2 | exact q_b.2.2.2.2.2.2.2.2.2.2.1 | exact q_b.2.2.2.2.2.2.2.2.2.2 | exact q_b.2.2.2.2.2.2.2.2.2.2.2.1 | exact q_b.2.2.2.2.2.2.2.2.2.2.2 | exact q_b.2.2.2.2.2.2.2.2.2.2.2.2.1 | exact q_b.2.2.2.2.2.2.2.2.2.2.2.2 | exact q_b.2.2.2.2.2.2.2.2.2.2.2.2.2.1 | exact q_b.2.2.2.2.2.2.2.2.2.2.2.2.2
  simp (maxSteps := 1000000) -dsimp -implicitDefEqProofs only [go_sem, ↓reduceIte, keep58, ib58, mk58, Try.f58, upd_ne, e_b_nb, e_b_m, e_nb_b, e_nb_m, e_m_b, e_m_nb]
  refine ⟨_, ?_, b, d_nb_b, z_b, rfl⟩
  have er : (List.take n ((l.map itC).map (List.map Cell.v)) ++ [[Cell.v (I x.1.s), Cell.v (I x.1.q), Cell.v (I x.1.left), Cell.v (I x.2)]]) = ((l.take n ++ [x]).map itC).map (List.map Cell.v) := by simp [itC_eq, List.map_take]
  simp only [er]
  exact (by intro q_; simp only [upd_get, oheap_none, oheap_some, onil_none, onil_some, List.length_nil]; grind)
@[go_sem] def keep57 : List Nat := [0, 2, 3, 4]
@[go_sem] def ib57 : List Nat := []
@[go_sem] def mk57 : Marks := fun _ => ([], .nil, [])
theorem fPop {hA : Heap} {nb m n : Nat} {l : List It} (hnm : ¬ nb = m) (hn0 : 0 < n) (hn : n ≤ l.length) (hn2 : n < 4398046511103) (hA1 : hA nb = none) (hA2 : hA m = none) :
    HFn Try.prog 57 [.op nb 1 0 0] (frH hA nb m n l) fun r h' => r = itI (l[n - 1]'(by omega)) ∧ h' = frH hA nb m (n - 1) l := by
  have d_nb_m : ¬ nb = m := hnm
  have d_m_nb : ¬ m = nb := Ne.symm d_nb_m
  have e_nb_m : (nb = m) = False := eq_false d_nb_m
  have e_m_nb : (m = nb) = False := eq_false d_m_nb
  have en : IntKind.i64.wrap ((n : Int) - 1) = ((n - 1 : Nat) : Int) := by rw [IntWalk.i64_in _ (by omega)]; omega
  have el : l[n - 1]? = some (l[n - 1]'(by omega)) := List.getElem?_eq_getElem _
  unfold frH
  refine fnHA 25 keep57 ib57 mk57 Try.func57 ?_
  simp (maxSteps := 1000000) -dsimp -implicitDefEqProofs only [go_sem, ↓reduceIte, keep57, ib57, mk57, Try.f57, upd_ne, e_nb_m, e_m_nb, itC_eq, en, el, Int.toNat_natCast]
  repeat' (with_reducible first | intro _ | refine And.intro ?_ ?_)
  · omega
  rename_i b hb
  revert hb; revert b
  intro b q_b
  have d_b_nb : ¬ b = nb := by first | exact q_b.1 | exact q_b | exact q_b.2.1 | exact q_b.2 | exact q_b.2.2.1 | exact q_b.2.2 | exact q_b.2.2.2.1 | exact q_b.2.2.2 | exact q_b.2.2.2.2.1 | exact q_b.2.2.2.2 | exact q_b.2.2.2.2.2.1 | exact q_b.2.2.2.2.2 | exact q_b.2.2.2.2.2.2.1 | exact q_b.2.2.2.2.2.2 | exact q_b.2.2.2.2.2.2.2.1 | exact q_b.2.2.2.2.2.2.2 | exact q_b.2.2.2.2.2.2.2.2.1 | exact q_b.2.2.2.2.2.2.2.2 | exact q_b.2.2.2.2.2.2.2.2.2.1 | exact q_b.2.2.2.2.2.2.2.2.2 | exact q_b.2.2.2.2.2.2.2.2.2.2.1 | exact q_b.2.2.2.2.2.2.2.2.2.2 | exact q_b.2.2.2.2.2.2.2.2.2.2.2.1 | exact q_b.2.2.2.2.2.2.2.2.2.2.2 | exact q_b.2.2.2.2.2.2.2.2.2.2.2.2.1 | exact q_b.2.2.2.2.2.2.2.2.2.2.2.2 | exact q_b.2.2.2.2.2.2.2.2.2.2.2.2.2.1 | exact q_b.2.2.2.2.2.2.2.2.2.2.2.2.2
  have e_b_nb : (b = nb) = False := eq_false d_b_nb
  have e_nb_b : (nb = b) = False := eq_false (Ne.symm d_b_nb)
  have d_nb_b : ¬ nb = b := Ne.symm d_b_nb
  have d_b_m : ¬ b = m := by first | exact q_b.1 | exact q_b | exact q_b.2.1 | exact q_b.2 | exact q_b.2.2.1 | exact q_b.2.2 | exact q_b.2.2.2.1 | exact q_b.2.2.2 | exact q_b.2.2.2.2.1 | exact q_b.2.2.2.2 | exact q_b.2.2.2.2.2.1 | exact q_b.2.2.2.2.2 | exact q_b.2.2.2.2.2.2.1 | exact q_b.2.2.2.2.2.2 | exact q_b.2.2.2.2.2.2.2.1 | exact q_b.2.2.2.2.2.2.2 | exact q_b.2.2.2.2.2.2.2.2.1 | exact q_b.2.2.2.2.2.2.2.2 | exact q_b.2.2.2.2.2.2.2.2.2.1 | exact q_b.2.2.2.2.2.2.2.2.2 | exact q_b.2.2.2.2.2.2.2.2.2.2.1 | exact q_b.2.2.2.2.2.2.2.2.2.2 | exact q_b.2.2.2.2.2.2.2.2.2.2.2.1 | exact q_b.2.2.2.2.2.2.2.2.2.2.2 | exact q_b.2.2.2.2.2.2.2.2.2.2.2.2.1 | exact q_b.2.2.2.2.2.2.2.2.2.2.2.2 | exact q_b.2.2.2.2.2.2.2.2.2.2.2.2.2.1 | exact q_b.2.2.2.2.2.2.2.2.2.2.2.2.2
  have e_b_m : (b = m) = False := eq_false d_b_m
  have e_m_b : (m = b) = False := eq_false (Ne.symm d_b_m)
  have d_m_b : ¬ m = b := Ne.symm d_b_m
  have z_b : hA b = none := by first | exact q_b.1 | exact q_b | exact q_b.2.1 | exact q_b.2 | exact q_b.2.2.1 | exact q_b.2.2 | exact q_b.2.2.2.1 | exact q_b.2.2.2 | exact q_b.2.2.2.2.1 | exact q_b.2.2.2.2 | exact q_b.2.2.2.2.2.1 | exact q_b.2.2.2.2.2 | exact q_b.2.2.2.2.2.2.1 | exact q_b.2.2.2.2.2.2 | exact q_b.2.2.2.2.2.2.2.1 | exact q_b.2.2.2.2.2.2.2 | exact q_b.2.2.2.2.2.2.2.2.1 | exact q_b.2.2.2.2.2.2.2.2 | exact q_b.2.2.2.2.2.2.2.2.2.1 | exact q_b.2.2.2.2.2.2.2.2.2 | exact q_b.2.2.2.2.2.2.2.2.2.2.1 | exact q_b.2.2.2.2.2.2.2.2.2.2 | exact q_b.2.2.2.2.2.2.2.2.2.2.2.1 | exact q_b.2.2.2.2.2.2.2.2.2.2.2 | exact q_b.2.2.2.2.2.2.2.2.2.2.2.2.1 | exact q_b.2.2.2.2.2.2.2.2.2.2.2.2 | exact q_b.2.2.2.2.2.2.2.2.2.2.2.2.2.1 | exact q_b.2.2.2.2.2.2.2.2.2.2.2.2.2
  simp (maxSteps := 1000000) -dsimp -implicitDefEqProofs only [go_sem, ↓reduceIte, keep57, ib57, mk57, Try.f57, upd_ne, e_b_nb, e_b_m, e_nb_b, e_nb_m, e_m_b, e_m_nb, en, el, Int.toNat_natCast]
  refine ⟨⟨by omega, by omega⟩, by omega, _, ?_, rfl, rfl⟩
  rw [Nat.sub_zero]
  exact (by intro q_; simp only [upd_get, oheap_none, oheap_some, onil_none, onil_some, List.length_nil]; grind)
@[go_sem] def keep21 : List Nat := [0, 1]
@[go_sem] def ib21 : List Nat := []
@[go_sem] def mk21 : Marks := fun _ => ([], .nil, [])
theorem hpPush {hA : Heap} {nb m n : Nat} {l : List It} (hnm : ¬ nb = m) (hn : n ≤ l.length) (hn2 : n < 4398046511103) (hA1 : hA m = none) (x : It) (hH : HeapOK (cst l) n) :
    HFn Try.prog 21 [hpI nb, itI x] (frH hA nb m n l) fun _ h' => ∃ b l', ¬ nb = b ∧ hA b = none ∧ l'.Perm (l.take n ++ [x]) ∧ HeapOK (cst l') (n + 1) ∧ l'.length = n + 1 ∧ h' = frH hA nb b (n + 1) l' := by
  have d_nb_m : ¬ nb = m := hnm
  have d_m_nb : ¬ m = nb := Ne.symm d_nb_m
  have e_nb_m : (nb = m) = False := eq_false d_nb_m
  have e_m_nb : (m = nb) = False := eq_false d_m_nb
  refine fnHA 12 keep21 ib21 mk21 Try.func21 ?_
  simp (maxSteps := 1000000) -dsimp -implicitDefEqProofs only [go_sem, ↓reduceIte, keep21, ib21, mk21, Try.f21]
  refine HFnF.mkH (fPush hnm hn hn2 hA1 x) ?_
  rintro _ _ ⟨b, hnb, hb0, rfl⟩
  have d_nb_b : ¬ nb = b := hnb
  have d_b_nb : ¬ b = nb := Ne.symm d_nb_b
  have e_nb_b : (nb = b) = False := eq_false d_nb_b
  have e_b_nb : (b = nb) = False := eq_false d_b_nb
  have en : IntKind.i64.wrap (((n + 1 : Nat) : Int) - 1) = (n : Int) := by rw [IntWalk.i64_in _ (by omega)]; omega
  have hl1 : (l.take n ++ [x]).length = n + 1 := by rw [List.length_append, List.length_take]; simp; omega
  have hgb : frH hA nb b (n + 1) (l.take n ++ [x]) nb = some (frB b (n + 1)) := by unfold frH; rw [upd_ne _ _ _ _ hnb, upd_same]
  have hgm : frH hA nb b (n + 1) (l.take n ++ [x]) b = some (rowT (l.take n ++ [x])) := by unfold frH; rw [upd_same]
  simp (maxSteps := 1000000) -dsimp -implicitDefEqProofs only [go_sem, ↓reduceIte, keep21, ib21, mk21, Try.f21, hgb]
  first | refine HFnF.mk (fLen b (n + 1)) ?_ | refine CallSF.mk (fLen b (n + 1)) ?_ | refine HFnF.mkAt (fLen b (n + 1)) ?_ | refine CallSF.mk (FnAt.fn0 (fLen b (n + 1))) ?_
  simp (maxSteps := 1000000) -dsimp -implicitDefEqProofs only [go_sem, ↓reduceIte, keep21, ib21, mk21, Try.f21, en]
  have hc : ∀ i, i < n → cst (l.take n ++ [x]) i = cst l i := fun i hi => by
    unfold cst
    rw [List.getElem?_append_left (by rw [List.length_take]; omega), List.getElem?_take, if_pos hi]
  have hu : UpOK (cst (l.take n ++ [x])) (n + 1) n := by
    refine ⟨fun i h0 h1 h2 => ?_, fun i h0 h1 h2 h3 => ?_⟩
    · have := par_lt h0
      rw [hc i (by omega), hc _ (by omega)]; exact hH i h0 (by omega)
    · have := par_lt h0; omega
  refine HFnF.mkH (hpUp hnb hgb hgm (by omega) (by omega) (by omega) hu) ?_
  rintro _ _ ⟨l', p1, p2, p3, rfl⟩
  simp (maxSteps := 1000000) -dsimp -implicitDefEqProofs only [go_sem, ↓reduceIte, keep21, ib21, mk21, Try.f21]
  refine ⟨_, Heap.le_refl _, b, l', hnb, hb0, p1, p3, by omega, ?_⟩
  unfold frH
  rw [upd_upd]
@[go_sem] def keep19 : List Nat := [0, 2, 3]
@[go_sem] def ib19 : List Nat := []
@[go_sem] def mk19 : Marks := fun _ => ([], .nil, [])
theorem hpPop {hA : Heap} {nb m n : Nat} {l : List It} (hnm : ¬ nb = m) (hn0 : 0 < n) (hn : n ≤ l.length) (hn2 : n < 4398046511103) (hA1 : hA nb = none) (hA2 : hA m = none) (hH : HeapOK (cst l) n) :
    HFn Try.prog 19 [hpI nb] (frH hA nb m n l) fun r h' => ∃ x l', r = itI x ∧ (l.take n).Perm (x :: l'.take (n - 1)) ∧ (∀ y ∈ l.take n, x.2 ≤ y.2) ∧ HeapOK (cst l') (n - 1) ∧ l'.length = l.length ∧ h' = frH hA nb m (n - 1) l' := by
  have d_nb_m : ¬ nb = m := hnm
  have d_m_nb : ¬ m = nb := Ne.symm d_nb_m
  have e_nb_m : (nb = m) = False := eq_false d_nb_m
  have e_m_nb : (m = nb) = False := eq_false d_m_nb
  have hgb : frH hA nb m n l nb = some (frB m n) := by unfold frH; rw [upd_ne _ _ _ _ hnm, upd_same]
  have hgm : frH hA nb m n l m = some (rowT l) := by unfold frH; rw [upd_same]
  have en : IntKind.i64.wrap ((n : Int) - 1) = ((n - 1 : Nat) : Int) := by rw [IntWalk.i64_in _ (by omega)]; omega
  refine fnHA 15 keep19 ib19 mk19 Try.func19 ?_
  simp (maxSteps := 1000000) -dsimp -implicitDefEqProofs only [go_sem, ↓reduceIte, keep19, ib19, mk19, Try.f19, hgb]
  first | refine HFnF.mk (fLen m n) ?_ | refine CallSF.mk (fLen m n) ?_ | refine HFnF.mkAt (fLen m n) ?_ | refine CallSF.mk (FnAt.fn0 (fLen m n)) ?_
  simp (maxSteps := 1000000) -dsimp -implicitDefEqProofs only [go_sem, ↓reduceIte, keep19, ib19, mk19, Try.f19, en, hgb]
  refine HFnF.mkH (fSwap (i := 0) (j := n - 1) hgm hn0 (by omega) hn) ?_
  rintro _ _ rfl
  have hh : upd (frH hA nb m n l) m (rowT (swL l 0 (n - 1))) = frH hA nb m n (swL l 0 (n - 1)) := by unfold frH; rw [upd_upd]
  have hgb1 : frH hA nb m n (swL l 0 (n - 1)) nb = some (frB m n) := by unfold frH; rw [upd_ne _ _ _ _ hnm, upd_same]
  have hgm1 : frH hA nb m n (swL l 0 (n - 1)) m = some (rowT (swL l 0 (n - 1))) := by unfold frH; rw [upd_same]
  have hsl := swL_len l 0 (n - 1)
  rw [hh]
  simp (maxSteps := 1000000) -dsimp -implicitDefEqProofs only [go_sem, ↓reduceIte, keep19, ib19, mk19, Try.f19]
  have hself : ∀ (l : List It) (i : Nat), i < l.length → swL l i i = l := fun l i hi => by rw [swL_eq hi hi]; simp
  have hcs : ∀ k, k < n - 1 → 0 < k → cst (swL l 0 (n - 1)) k = cst l k := fun k h1 h2 => by
    rw [cst_sw (by omega) (by omega) (by omega)]
    unfold swC
    rw [if_neg (by omega), if_neg (by omega)]
  have hdn : DownOK (cst (swL l 0 (n - 1))) (n - 1) 0 := by
    refine ⟨fun i h0 h1 h2 => ?_, fun i h0 h1 h2 h3 => absurd h3 (by omega)⟩
    have := par_lt h0
    rw [hcs i h1 h0, hcs _ (by omega) (by omega)]
    exact hH i h0 (by omega)
  refine HFnF.mkH (hpDown (n := n - 1) (n' := n) (j := 0) hnm hgb1 hgm1 (by omega) (by omega) (by omega) (by omega) hdn) ?_
  rintro _ _ ⟨l2, p1, p2, p3, p4, rfl⟩
  have hh2 : upd (frH hA nb m n (swL l 0 (n - 1))) m (rowT l2) = frH hA nb m n l2 := by unfold frH; rw [upd_upd]
  rw [hh2]
  simp (maxSteps := 1000000) -dsimp -implicitDefEqProofs only [go_sem, ↓reduceIte, keep19, ib19, mk19, Try.f19]
  refine HFnF.mkH (fPop (l := l2) hnm hn0 (by omega) hn2 hA1 hA2) ?_
  rintro _ _ ⟨rfl, rfl⟩
  simp (maxSteps := 1000000) -dsimp -implicitDefEqProofs only [go_sem, ↓reduceIte, keep19, ib19, mk19, Try.f19]
  have hl0 : l2[n - 1]'(by omega) = l[0]'(by omega) := by
    have h1 : (l2.drop (n - 1))[0]? = ((swL l 0 (n - 1)).drop (n - 1))[0]? := by rw [p2]
    rw [List.getElem?_drop, List.getElem?_drop, Nat.add_zero, List.getElem?_eq_getElem (by omega), List.getElem?_eq_getElem (by omega)] at h1
    rw [Option.some.inj h1]
    have : (swL l 0 (n - 1))[n - 1]? = some (l[0]'(by omega)) := by
      rw [swL_eq (by omega) (by omega), List.getElem?_set_self (by simp; omega)]
    rw [List.getElem?_eq_getElem (by omega)] at this
    exact Option.some.inj this
  rw [hl0]
  refine ⟨_, Heap.le_refl _, l[0]'(by omega), l2, rfl, ?_, ?_, p4, by omega, rfl⟩
  · have hpm : (swL l 0 (n - 1)).take n |>.Perm (l.take n) := by
      rw [(swL_take (l := l) (i := 0) (j := n - 1) (n := n) hn0 (by omega) hn).1]
      exact swL_perm (by rw [List.length_take]; omega) (by rw [List.length_take]; omega)
    have ht : (swL l 0 (n - 1)).take n = (swL l 0 (n - 1)).take (n - 1) ++ [l[0]'(by omega)] := by
      have : (swL l 0 (n - 1))[n - 1]? = some (l[0]'(by omega)) := by
        rw [swL_eq (by omega) (by omega), List.getElem?_set_self (by simp; omega)]
      have e := List.take_add_one (l := swL l 0 (n - 1)) (i := n - 1)
      rw [Nat.sub_add_cancel hn0, this] at e
      exact e
    rw [ht] at hpm
    refine hpm.symm.trans ?_
    refine (List.perm_append_comm).trans ?_
    exact (p1.symm).cons _
  · intro y hy
    obtain ⟨i, hi⟩ := List.getElem?_of_mem hy
    rw [List.getElem?_take] at hi
    split at hi
    · rename_i q
      have := hH.root i q
      simp only [cst, hi, List.getElem?_eq_getElem (show 0 < l.length by omega), Option.map_some, Option.getD_some] at this
      exact this
    · cases hi
def kS (x : SS) : List Int := [(x.s : Int), (x.q : Int), (x.left : Int)]
theorem kS_inj {x y : SS} (h : kS x = kS y) : x = y := by
  obtain ⟨a, b, c⟩ := x; obtain ⟨a', b', c'⟩ := y
  simp only [kS, List.cons.injEq, and_true] at h
  congr 1 <;> omega
def mapOK (mm : KMap) (b : SS → Option Int) : Prop := keysLen 3 mm ∧ ∀ x, mget (kS x) mm = (b x).map I
theorem mapOK_put {mm : KMap} {b : SS → Option Int} (h : mapOK mm b) (x : SS) (c : Int) : mapOK (mput (kS x) (I c) mm) (setB b x c) := by
  refine ⟨keysLen_put h.1 rfl _, fun y => ?_⟩
  rw [mget_mput]
  unfold setB
  by_cases e : y = x
  · subst e; rw [if_pos rfl, if_pos rfl]; rfl
  · rw [if_neg fun q => e (kS_inj q), if_neg e]; exact h.2 y
def stH (hA : Heap) (nm nb m n : Nat) (mm : KMap) (l : List It) : Heap := frH (upd hA nm (.map 0 0 (mapH mm))) nb m n l
structure Apart (hA : Heap) (nm nb m n8 n9 : Nat) : Prop where
  d1 : ¬ nm = nb
  d2 : ¬ nm = m
  d3 : ¬ nb = m
  z1 : hA nm = none
  z2 : hA nb = none
  z3 : hA m = none
  h8 : hA n8 = some (.row 1 [[.v (.mp nm)]])
  h9 : hA n9 = some (.row 1 [[.v (.op nb 1 0 0)]])
theorem Apart.get8 {hA : Heap} {nm nb m n8 n9 n : Nat} {mm : KMap} {l : List It} (a : Apart hA nm nb m n8 n9) : stH hA nm nb m n mm l n8 = some (.row 1 [[.v (.mp nm)]]) := by
  have := a.h8; have := a.z1; have := a.z2; have := a.z3
  simp only [stH, frH, upd_get]; grind
theorem Apart.get9 {hA : Heap} {nm nb m n8 n9 n : Nat} {mm : KMap} {l : List It} (a : Apart hA nm nb m n8 n9) : stH hA nm nb m n mm l n9 = some (.row 1 [[.v (.op nb 1 0 0)]]) := by
  have := a.h9; have := a.z1; have := a.z2; have := a.z3
  simp only [stH, frH, upd_get]; grind
theorem Apart.getM {hA : Heap} {nm nb m n8 n9 n : Nat} {mm : KMap} {l : List It} (a : Apart hA nm nb m n8 n9) : stH hA nm nb m n mm l nm = some (.map 0 0 (mapH mm)) := by
  have := a.d1; have := a.d2
  simp only [stH, frH, upd_get]; grind
theorem Apart.getB {hA : Heap} {nm nb m n8 n9 n : Nat} {mm : KMap} {l : List It} (a : Apart hA nm nb m n8 n9) : stH hA nm nb m n mm l nb = some (frB m n) := by
  have := a.d3
  simp only [stH, frH, upd_get]; grind
theorem Apart.putM {hA : Heap} {nm nb m n8 n9 n : Nat} {mm mm' : KMap} {l : List It} (a : Apart hA nm nb m n8 n9) : upd (stH hA nm nb m n mm l) nm (.map 0 0 (mapH mm')) = stH hA nm nb m n mm' l := by
  have := a.d1; have := a.d2
  funext q
  simp only [stH, frH, upd_get]; grind
noncomputable instance (b : SS → Option Int) (x : SS) (c : Int) : Decidable (impr b x c) := Classical.propDecidable _
@[go_sem] def keep20 : List Nat := [0, 1, 2, 3, 4, 6, 7, 20]
@[go_sem] def ib20 : List Nat := [4]
@[go_sem] def mk20 : Marks := fun _ => ([], .nil, [])
theorem reachI {hA : Heap} {nm nb m n8 n9 n : Nat} {mm : KMap} {l : List It} {b : SS → Option Int} (ha : Apart hA nm nb m n8 n9) (hb : mapOK mm b) (hn : n ≤ l.length) (hn2 : n < 4398046511103) (hH : HeapOK (cst l) n) (x : SS) (c : Int) :
    HFn Try.prog 20 [.agg [I x.s, I x.q, I x.left], I c, .op n8 1 0 0, .op n9 1 0 0] (stH hA nm nb m n mm l) fun _ h' => ∃ m' n' mm' l' b', Apart hA nm nb m' n8 n9 ∧ mapOK mm' b' ∧ n' ≤ l'.length ∧ HeapOK (cst l') n' ∧ h' = stH hA nm nb m' n' mm' l' ∧
      ((impr b x c ∧ b' = setB b x c ∧ (l'.take n').Perm (l.take n ++ [(x, c)]) ∧ n' = n + 1) ∨ (¬ impr b x c ∧ b' = b ∧ (l'.take n').Perm (l.take n) ∧ n' = n)) := by
  have g8 := ha.get8 (n := n) (mm := mm) (l := l)
  have g9 := ha.get9 (n := n) (mm := mm) (l := l)
  have gM := ha.getM (n := n) (mm := mm) (l := l)
  have gB := ha.getB (n := n) (mm := mm) (l := l)
  have hk := hb.1
  have hg : mget [(x.s : Int), (x.q : Int), (x.left : Int)] mm = (b x).map I := hb.2 x
  have hp := ha.putM (n := n) (mm := mm) (mm' := mput [(x.s : Int), (x.q : Int), (x.left : Int)] (I c) mm) (l := l)
  have g9' := ha.get9 (n := n) (mm := mput [(x.s : Int), (x.q : Int), (x.left : Int)] (I c) mm) (l := l)
  have gm : upd hA nm (.map 0 0 (mapH (mput [(x.s : Int), (x.q : Int), (x.left : Int)] (I c) mm))) m = none := by rw [upd_ne _ _ _ _ (Ne.symm ha.d2)]; exact ha.z3
  have fin : impr b x c → ∀ K' : HVal → Heap → Prop, (∀ r h', (∃ m' n' mm' l' b', Apart hA nm nb m' n8 n9 ∧ mapOK mm' b' ∧ n' ≤ l'.length ∧ HeapOK (cst l') n' ∧ h' = stH hA nm nb m' n' mm' l' ∧
      ((impr b x c ∧ b' = setB b x c ∧ (l'.take n').Perm (l.take n ++ [(x, c)]) ∧ n' = n + 1) ∨ (¬ impr b x c ∧ b' = b ∧ (l'.take n').Perm (l.take n) ∧ n' = n))) → K' r h') → HFn Try.prog 21 [hpI nb, itI (x, c)] (stH hA nm nb m n (mput [(x.s : Int), (x.q : Int), (x.left : Int)] (I c) mm) l) K' := by
    intro hi K' hk'
    refine (hpPush ha.d3 hn hn2 gm (x, c) hH).mono ?_
    rintro r _ ⟨b', l', p1, p2, p3, p4, p5, rfl⟩
    have e1 : ¬ nm = b' := fun e => by rw [← e, upd_same] at p2; cases p2
    rw [upd_ne _ _ _ _ (Ne.symm e1)] at p2
    exact hk' _ _ ⟨b', n + 1, _, l', _, ⟨ha.d1, e1, p1, ha.z1, ha.z2, p2, ha.h8, ha.h9⟩, mapOK_put hb x c, by omega, p4, rfl, .inl ⟨hi, rfl, by rw [← p5, List.take_length]; exact p3, rfl⟩⟩
  cases hbx : b x with
  | none =>
    rw [hbx] at hg
    refine fnHA 31 keep20 ib20 mk20 Try.func20 ?_
    simp (maxSteps := 1000000) -dsimp -implicitDefEqProofs only [go_sem, ↓reduceIte, keep20, ib20, mk20, Try.f20, g8, g9, gM, gB, hk, hg, Option.map_none, hp, g9']
    refine fin (fun v hv => by rw [hbx] at hv; cases hv) _ ?_
    intro r h' hq
    simp (maxSteps := 1000000) -dsimp -implicitDefEqProofs only [go_sem, ↓reduceIte, keep20, ib20, mk20, Try.f20]
    exact ⟨_, Heap.le_refl _, hq⟩
  | some v =>
    rw [hbx] at hg
    refine fnHA 31 keep20 ib20 mk20 Try.func20 ?_
    simp (maxSteps := 1000000) -dsimp -implicitDefEqProofs only [go_sem, ↓reduceIte, keep20, ib20, mk20, Try.f20, g8, g9, gM, gB, hk, hg, Option.map_some, hp, g9']
    constructor
    · intro hc
      refine fin (fun v' hv => by rw [hbx] at hv; cases hv; exact hc) _ ?_
      intro r h' hq
      simp (maxSteps := 1000000) -dsimp -implicitDefEqProofs only [go_sem, ↓reduceIte, keep20, ib20, mk20, Try.f20]
      exact ⟨_, Heap.le_refl _, hq⟩
    · intro hc
      exact ⟨_, Heap.le_refl _, m, n, mm, l, b, ha, hb, hn, hH, rfl, .inr ⟨fun q => hc (q v hbx), rfl, .refl _, rfl⟩⟩
structure ImSt (w : List Int) (sl : Nat) (b : SS → Option Int) (L : List It) (E : SS → Int → Prop) : Prop where
  inv : SInv (stS w.length) (succI w sl) b (fun k d => (k, d) ∈ L) E
  bnd : Bnd b
  goal : ∀ x v, b x = some v → x.left = 0 → (x, v) ∈ L
  ent : ∀ e ∈ L, ∃ v, b e.1 = some v ∧ v ≤ e.2
  meas : pot b + L.length ≤ 3276800000001
def muI (b : SS → Option Int) (L : List It) : Nat := 2 * pot b + L.length
structure IMid (w : List Int) (sl : Nat) (b : SS → Option Int) (L : List It) (x : SS) (d : Int) (dn : It → Prop) (μ : Nat) : Prop where
  st : ImSt w sl b L fun k d' => k = x ∧ d' = d
  db : d ≤ 7000 * (knw b : Int)
  dn : ∀ e, dn e → ∃ v, b e.1 = some v ∧ v ≤ d + e.2
  mu : muI b L ≤ μ
theorem IMid.imp {w : List Int} {sl : Nat} {b : SS → Option Int} {L : List It} {x : SS} {d : Int} {dn dn' : It → Prop} {μ : Nat} (h : IMid w sl b L x d dn μ) (hd : ∀ e, dn' e → dn e) : IMid w sl b L x d dn' μ := ⟨h.st, h.db, fun e he => h.dn e (hd e he), h.mu⟩
theorem ImSt.perm {w : List Int} {sl : Nat} {b : SS → Option Int} {L L' : List It} {E : SS → Int → Prop} (h : ImSt w sl b L E) (hp : L'.Perm L) : ImSt w sl b L' E :=
  ⟨⟨h.inv.walk, fun k d hk => (h.inv.good k d hk).imp (fun q => hp.mem_iff.2 q) id, h.inv.start⟩, h.bnd, fun x v h1 h2 => hp.mem_iff.2 (h.goal x v h1 h2), fun e he => h.ent e (hp.mem_iff.1 he), by rw [hp.length_eq]; exact h.meas⟩
theorem IMid.perm {w : List Int} {sl : Nat} {b : SS → Option Int} {L L' : List It} {x : SS} {d : Int} {dn : It → Prop} {μ : Nat} (h : IMid w sl b L x d dn μ) (hp : L'.Perm L) : IMid w sl b L' x d dn μ :=
  ⟨h.st.perm hp, h.db, h.dn, by unfold muI; rw [hp.length_eq]; exact h.mu⟩
/-- What reach does to the table and to what is open. -/
def RlxI (b : SS → Option Int) (L : List It) (x : SS) (c : Int) (b' : SS → Option Int) (L' : List It) : Prop :=
  (impr b x c ∧ b' = setB b x c ∧ L'.Perm (L ++ [(x, c)])) ∨ (¬ impr b x c ∧ b' = b ∧ L'.Perm L)
theorem IMid.rlx {w : List Int} (hW : Wts w) {sl : Nat} {b b' : SS → Option Int} {L L' : List It} {x : SS} {d : Int} {dn : It → Prop} {μ : Nat} (h : IMid w sl b L x d dn μ) (hn : w.length ≤ 7) (hx : Wlk (stS w.length) (succI w sl) x d) (h0 : 0 ≤ d) {e : It} (he : e ∈ succI w sl x)
    (hr : RlxI b L e.1 (d + e.2) b' L') : IMid w sl b' L' x d (fun e' => dn e' ∨ e' = e) μ := by
  have hw := Wlk.step hx he
  have ok' := okW_okS hn (wlkI_ok hw)
  have hc := succI_cost hW.1 he
  rcases hr with ⟨hi, rfl, hp⟩ | ⟨hi, rfl, hp⟩
  · obtain ⟨b1, b2, b3⟩ := h.st.bnd.relax ok' (show 0 ≤ d + e.2 by omega) (by have := h.db; omega) hi
    have hl := leB_set hi
    have hmem : ∀ y, y ∈ L' ↔ y ∈ L ∨ y = (e.1, d + e.2) := fun y => by rw [hp.mem_iff]; simp
    have hlen : L'.length = L.length + 1 := by rw [hp.length_eq]; simp
    refine ⟨⟨h.st.inv.relax hw hi (fun k v q => (hmem _).2 (.inl q)) ((hmem _).2 (.inr rfl)), b1, fun y v hy hl0 => ?_, fun y hy => ?_, ?_⟩, by have := h.db; omega, ?_, ?_⟩
    · unfold setB at hy
      split at hy
      · rename_i q; cases hy; rw [q]; exact (hmem _).2 (.inr rfl)
      · exact (hmem _).2 (.inl (h.st.goal y v hy hl0))
    · rcases (hmem y).1 hy with q | q
      · obtain ⟨v, v1, v2⟩ := h.st.ent y q
        obtain ⟨v', v3, v4⟩ := hl _ _ v1
        exact ⟨v', v3, by omega⟩
      · rw [q]; exact ⟨d + e.2, by unfold setB; rw [if_pos rfl], Int.le_refl _⟩
    · have := h.st.meas; omega
    · rintro e' (q | rfl)
      · obtain ⟨v, v1, v2⟩ := h.dn e' q
        obtain ⟨v', v3, v4⟩ := hl _ _ v1
        exact ⟨v', v3, by omega⟩
      · exact ⟨d + e'.2, by unfold setB; rw [if_pos rfl], Int.le_refl _⟩
    · have := h.mu; unfold muI at *; omega
  · refine (IMid.perm ?_ hp)
    refine ⟨h.st, h.db, ?_, h.mu⟩
    rintro e' (q | rfl)
    · exact h.dn e' q
    · have : ∃ v, b' e'.1 = some v ∧ v ≤ d + e'.2 := by
        refine Classical.byContradiction fun hno => hi fun v hv => ?_
        have : ¬ v ≤ d + e'.2 := fun q => hno ⟨v, hv, q⟩
        omega
      exact this
theorem IMid.fin {w : List Int} {sl : Nat} {b : SS → Option Int} {L : List It} {x : SS} {d : Int} {dn : It → Prop} {μ : Nat} (h : IMid w sl b L x d dn μ) (hd : ∀ e ∈ succI w sl x, dn e) : ImSt w sl b L (fun _ _ => False) :=
  ⟨h.st.inv.mono fun k d' hk q => by
    rcases q with q | ⟨rfl, rfl⟩
    · exact .inl q
    · exact .inr (.inr fun e he => h.dn e (hd e he)), h.st.bnd, h.st.goal, h.st.ent, h.st.meas⟩
/-- Something stale is thrown away. -/
theorem ImSt.stale {w : List Int} {sl : Nat} {b : SS → Option Int} {L L1 : List It} {x : SS} {d : Int} (h : ImSt w sl b L fun _ _ => False) (hp : L.Perm ((x, d) :: L1)) {v : Int} (hb : b x = some v) (hv : v < d) : ImSt w sl b L1 (fun _ _ => False) ∧ muI b L1 < muI b L := by
  have hmem : ∀ y, y ∈ L ↔ y = (x, d) ∨ y ∈ L1 := fun y => by rw [hp.mem_iff]; simp
  have hlen : L.length = L1.length + 1 := by rw [hp.length_eq]; simp
  refine ⟨⟨h.inv.mono fun k d' hk q => ?_, h.bnd, fun y v' hy hl => ?_, fun e he => h.ent e ((hmem e).2 (.inr he)), by have := h.meas; omega⟩, by unfold muI; omega⟩
  · rcases q with q | q
    · rcases (hmem _).1 q with q | q
      · cases q; rw [hb] at hk; cases hk; omega
      · exact .inl q
    · exact q.elim
  · rcases (hmem _).1 (h.goal y v' hy hl) with q | q
    · cases q; rw [hb] at hy; cases hy; omega
    · exact q
/-- The least one is taken. -/
theorem ImSt.pop {w : List Int} {sl : Nat} {b : SS → Option Int} {L L1 : List It} {x : SS} {d : Int} (h : ImSt w sl b L fun _ _ => False) (hp : L.Perm ((x, d) :: L1)) (hb : b x = some d) (hl : x.left ≠ 0) : IMid w sl b L1 x d (fun _ => False) (muI b L1) ∧ muI b L1 < muI b L := by
  have hmem : ∀ y, y ∈ L ↔ y = (x, d) ∨ y ∈ L1 := fun y => by rw [hp.mem_iff]; simp
  have hlen : L.length = L1.length + 1 := by rw [hp.length_eq]; simp
  refine ⟨⟨⟨h.inv.mono fun k d' hk q => ?_, h.bnd, fun y v' hy hl' => ?_, fun e he => h.ent e ((hmem e).2 (.inr he)), by have := h.meas; omega⟩, (h.bnd.ok x d hb).2.2, fun e q => q.elim, Nat.le_refl _⟩, by unfold muI; omega⟩
  · rcases q with q | q
    · rcases (hmem _).1 q with q | q
      · cases q; exact .inr (.inl ⟨rfl, rfl⟩)
      · exact .inl q
    · exact q.elim
  · rcases (hmem _).1 (h.goal y v' hy hl') with q | q
    · cases q; exact absurd hl' hl
    · exact q
theorem ImSt.found {w : List Int} (hW : Wts w) {sl : Nat} {b : SS → Option Int} {L : List It} {x : SS} {d : Int} (h : ImSt w sl b L fun _ _ => False) (hm : ∀ y ∈ L, d ≤ y.2) (hb : b x = some d) (hl : x.left = 0) : minS w sl = some d := by
  refine minS_eq ⟨⟨x, hl, h.inv.walk x d hb⟩, fun y c hy hw => ?_⟩
  rcases h.inv.least (fun z e he => (succI_cost hW.1 he).1) hw with ⟨k, d', h1, h2, h3⟩ | ⟨v, h1, h2⟩
  · have := hm _ h1; simp only at this; omega
  · have := hm _ (h.goal y v h1 hy); simp only at this; omega
theorem ImSt.none {w : List Int} (hW : Wts w) {sl : Nat} {b : SS → Option Int} (h : ImSt w sl b [] fun _ _ => False) : minS w sl = none := by
  refine minS_eq fun x c hw hl => ?_
  rcases h.inv.least (fun z e he => (succI_cost hW.1 he).1) hw with ⟨k, d', h1, _⟩ | ⟨v, h1, h2⟩
  · simp at h1
  · have := h.goal x v h1 hl; simp at this
theorem imst_init (w : List Int) (hn : w.length ≤ 7) (sl : Nat) : ImSt w sl (setB (fun _ => none) (stS w.length) 0) [(stS w.length, 0)] fun _ _ => False := by
  have hs : okS (stS w.length) := ⟨by simp [stS], by simp [stS], by simp [stS]; omega⟩
  have hbnd : Bnd (fun _ => none) := ⟨fun x d h => by cases h⟩
  have him : impr (fun _ => none) (stS w.length) 0 := fun v h => by cases h
  have hr := hbnd.relax hs (c := 0) (Int.le_refl _) (by omega) him
  have hp := pot_le hbnd
  have val : ∀ k d, setB (fun _ => none) (stS w.length) 0 k = some d → k = stS w.length ∧ d = 0 := fun k d h => by
    unfold setB at h
    split at h
    · rename_i e; cases h; exact ⟨e, rfl⟩
    · cases h
  refine ⟨⟨fun k d h => ?_, fun k d h => ?_, ⟨0, by unfold setB; rw [if_pos rfl], Int.le_refl _⟩⟩, hr.1, fun k d h _ => ?_, fun e he => ?_, ?_⟩
  · obtain ⟨rfl, rfl⟩ := val k d h; exact .start
  · obtain ⟨rfl, rfl⟩ := val k d h; exact .inl (by simp)
  · obtain ⟨rfl, rfl⟩ := val k d h; simp
  · simp only [List.mem_singleton] at he; subst he
    exact ⟨0, by unfold setB; rw [if_pos rfl], Int.le_refl _⟩
  · have := hr.2.1; simp only [List.length_cons, List.length_nil]; omega
@[go_sem] def keep37 : List Nat := [0, 2]
@[go_sem] def ib37 : List Nat := []
@[go_sem] def mk37 : Marks := fun _ => ([], .nil, [])
theorem validWeights1 (n : Int) : Fn0 Try.prog 37 [I n] (.bool (!decide (0 ≤ n ∧ n ≤ 1000))) := by
  refine fn0A 6 keep37 ib37 mk37 Try.func37 fun h => ?_
  simp (maxSteps := 1000000) -dsimp -implicitDefEqProofs only [go_sem, ↓reduceIte, keep37, ib37, mk37, Try.f37]
  first | refine HFnF.mk (within n 0 1000) ?_ | refine CallSF.mk (within n 0 1000) ?_ | refine HFnF.mkAt (within n 0 1000) ?_ | refine CallSF.mk (FnAt.fn0 (within n 0 1000)) ?_
  simp (maxSteps := 1000000) -dsimp -implicitDefEqProofs only [go_sem, ↓reduceIte, keep37, ib37, mk37, Try.f37]
@[go_sem] def keep31 : List Nat := [0, 2]
@[go_sem] def ib31 : List Nat := []
@[go_sem] def mk31 : Marks := fun _ => ([], .nil, [])
theorem validWeights (w : List Int) : Fn0 Try.prog 31 [ints w] (.bool (decide (Wts w))) := by
  refine fn0A 11 keep31 ib31 mk31 Try.func31 fun h => ?_
  simp (maxSteps := 1000000) -dsimp -implicitDefEqProofs only [go_sem, ↓reduceIte, keep31, ib31, mk31, Try.f31]
  repeat' (with_reducible first | intro _ | refine And.intro ?_ ?_)
  all_goals try (first | (simp [*]; done) | omega | grind)
  first | refine HFnF.mk (hasF_Int64S w (fun n => !decide (0 ≤ n ∧ n ≤ 1000)) 37 [] fun x _ => (validWeights1 x).toAt) ?_ | refine CallSF.mk (hasF_Int64S w (fun n => !decide (0 ≤ n ∧ n ≤ 1000)) 37 [] fun x _ => (validWeights1 x).toAt) ?_ | refine HFnF.mkAt (hasF_Int64S w (fun n => !decide (0 ≤ n ∧ n ≤ 1000)) 37 [] fun x _ => (validWeights1 x).toAt) ?_ | refine CallSF.mk (FnAt.fn0 (hasF_Int64S w (fun n => !decide (0 ≤ n ∧ n ≤ 1000)) 37 [] fun x _ => (validWeights1 x).toAt)) ?_
  simp (maxSteps := 1000000) -dsimp -implicitDefEqProofs only [go_sem, ↓reduceIte, keep31, ib31, mk31, Try.f31]
  · rename_i hl
    rw [Bool.eq_iff_iff, decide_eq_true_eq]
    simp only [Bool.not_eq_true', List.any_eq_false, Bool.not_eq_true', decide_eq_false_iff_not, Classical.not_not]
    exact ⟨fun q => ⟨q, by omega⟩, fun q => q.1⟩
  · rename_i hl
    exact (decide_eq_false fun q => by have := q.2; omega).symm
@[go_sem] def keep32 : List Nat := [0, 2]
@[go_sem] def ib32 : List Nat := []
@[go_sem] def mk32 : Marks := fun _ => ([], .nil, [])
theorem areSlots (n : Int) : Fn0 Try.prog 32 [I n] (.bool (decide (0 ≤ n ∧ n ≤ 8))) := by
  refine fn0A 5 keep32 ib32 mk32 Try.func32 fun h => ?_
  simp (maxSteps := 1000000) -dsimp -implicitDefEqProofs only [go_sem, ↓reduceIte, keep32, ib32, mk32, Try.f32]
  first | refine HFnF.mk (within n 0 8) ?_ | refine CallSF.mk (within n 0 8) ?_ | refine HFnF.mkAt (within n 0 8) ?_ | refine CallSF.mk (FnAt.fn0 (within n 0 8)) ?_
  simp (maxSteps := 1000000) -dsimp -implicitDefEqProofs only [go_sem, ↓reduceIte, keep32, ib32, mk32, Try.f32]
@[go_sem] def keep17 : List Nat := [0, 1, 4, 5, 9]
@[go_sem] def ib17 : List Nat := []
@[go_sem] def mk17 : Marks := fun _ => ([], .nil, [])
theorem isCosted (w : List Int) (n : Int) : Fn0 Try.prog 17 [ints w, I n] (I (if ¬ Wts w then 1 else if ¬ (0 ≤ n ∧ n ≤ 8) then 2 else 0)) := by
  refine fn0A 13 keep17 ib17 mk17 Try.func17 fun h => ?_
  simp (maxSteps := 1000000) -dsimp -implicitDefEqProofs only [go_sem, ↓reduceIte, keep17, ib17, mk17, Try.f17]
  first | refine HFnF.mk (validWeights w) ?_ | refine CallSF.mk (validWeights w) ?_ | refine HFnF.mkAt (validWeights w) ?_ | refine CallSF.mk (FnAt.fn0 (validWeights w)) ?_
  simp (maxSteps := 1000000) -dsimp -implicitDefEqProofs only [go_sem, ↓reduceIte, keep17, ib17, mk17, Try.f17]
  repeat' (with_reducible first | intro _ | refine And.intro ?_ ?_)
  · rename_i hw
    rw [if_neg (by simpa using hw)]
  · rename_i hw
    have hw : Wts w := by simpa using hw
    first | refine HFnF.mk (areSlots n) ?_ | refine CallSF.mk (areSlots n) ?_ | refine HFnF.mkAt (areSlots n) ?_ | refine CallSF.mk (FnAt.fn0 (areSlots n)) ?_
    simp (maxSteps := 1000000) -dsimp -implicitDefEqProofs only [go_sem, ↓reduceIte, keep17, ib17, mk17, Try.f17]
    constructor
    · intro hs
      rw [if_pos hw, if_neg (by simpa using hs)]
    · intro hs
      rw [if_pos hw, if_pos (by simpa using hs)]
abbrev LSt := Nat × Nat × KMap × List It × (SS → Option Int)
structure PSt (w : List Int) (sl : Nat) (hB : Heap) (nm nb n8 n9 : Nat) (x : SS) (d : Int) (μ : Nat) (dn : It → Prop) (z : LSt) : Prop where
  ap : Apart hB nm nb z.1 n8 n9
  mp : mapOK z.2.2.1 z.2.2.2.2
  le : z.2.1 ≤ z.2.2.2.1.length
  hp : HeapOK (cst z.2.2.2.1) z.2.1
  st : IMid w sl z.2.2.2.2 (z.2.2.2.1.take z.2.1) x d dn μ
abbrev stZ (hB : Heap) (nm nb : Nat) (z : LSt) : Heap := stH hB nm nb z.1 z.2.1 z.2.2.1 z.2.2.2.1
theorem PSt.imp {w : List Int} {sl : Nat} {hB : Heap} {nm nb n8 n9 : Nat} {x : SS} {d : Int} {μ : Nat} {dn dn' : It → Prop} {z : LSt} (h : PSt w sl hB nm nb n8 n9 x d μ dn z) (hd : ∀ e, dn' e → dn e) : PSt w sl hB nm nb n8 n9 x d μ dn' z := ⟨h.ap, h.mp, h.le, h.hp, h.st.imp hd⟩
theorem PSt.n2 {w : List Int} {sl : Nat} {hB : Heap} {nm nb n8 n9 : Nat} {x : SS} {d : Int} {μ : Nat} {dn : It → Prop} {z : LSt} (h : PSt w sl hB nm nb n8 n9 x d μ dn z) : z.2.1 < 4398046511103 := by
  have h1 := h.st.st.meas
  have h2 : (z.2.2.2.1.take z.2.1).length = z.2.1 := by rw [List.length_take]; have := h.le; omega
  omega
theorem reachP {w : List Int} (hW : Wts w) (hwl : w.length ≤ 7) {sl : Nat} {hB : Heap} {nm nb n8 n9 : Nat} {x : SS} {d : Int} {μ : Nat} {dn : It → Prop} {z : LSt} (h : PSt w sl hB nm nb n8 n9 x d μ dn z) (hx : Wlk (stS w.length) (succI w sl) x d) (h0 : 0 ≤ d) {e : It} (he : e ∈ succI w sl x) :
    HFn Try.prog 20 [.agg [I e.1.s, I e.1.q, I e.1.left], I (d + e.2), .op n8 1 0 0, .op n9 1 0 0] (stZ hB nm nb z) fun _ h' => ∃ z' : LSt, h' = stZ hB nm nb z' ∧ PSt w sl hB nm nb n8 n9 x d μ (fun e' => dn e' ∨ e' = e) z' := by
  refine (reachI h.ap h.mp h.le h.n2 h.hp e.1 (d + e.2)).mono ?_
  rintro r _ ⟨m', n', mm', l', b', q1, q2, q3, q4, rfl, q5⟩
  refine ⟨(m', n', mm', l', b'), rfl, q1, q2, q3, q4, h.st.rlx hW hwl hx h0 he ?_⟩
  rcases q5 with ⟨r1, r2, r3, _⟩ | ⟨r1, r2, r3, _⟩
  · exact .inl ⟨r1, r2, r3⟩
  · exact .inr ⟨r1, r2, r3⟩
theorem stH_ne {hA : Heap} {nm nb m n k : Nat} {mm : KMap} {l : List It} (hk : stH hA nm nb m n mm l k = none) : ¬ k = nm ∧ ¬ k = nb ∧ ¬ k = m ∧ hA k = none := by
  simp only [stH, frH, upd_get] at hk
  grind
theorem stH_upd {hA : Heap} {nm nb m n k : Nat} {mm : KMap} {l : List It} (o : HObj) (h1 : ¬ k = nm) (h2 : ¬ k = nb) (h3 : ¬ k = m) : upd (stH hA nm nb m n mm l) k o = stH (upd hA k o) nm nb m n mm l := by
  funext q
  simp only [stH, frH, upd_get]
  grind
theorem Apart.upd {hA : Heap} {nm nb m n8 n9 k : Nat} (a : Apart hA nm nb m n8 n9) (h1 : ¬ k = nm) (h2 : ¬ k = nb) (h3 : ¬ k = m) (h4 : hA k = none) (o : HObj) : Apart (Hl.upd hA k o) nm nb m n8 n9 := by
  obtain ⟨d1, d2, d3, z1, z2, z3, h8, h9⟩ := a
  refine ⟨d1, d2, d3, ?_, ?_, ?_, ?_, ?_⟩ <;> simp only [upd_get] <;> grind
theorem stH_at {hA : Heap} {nm nb m n k : Nat} {mm : KMap} {l : List It} (h1 : ¬ k = nm) (h2 : ¬ k = nb) (h3 : ¬ k = m) : stH hA nm nb m n mm l k = hA k := by
  simp only [stH, frH, upd_get]
  grind
theorem stH_mono {hA hB : Heap} {nm nb m n : Nat} {mm : KMap} {l : List It} (h : hA.le hB) : (stH hA nm nb m n mm l).le (stH hB nm nb m n mm l) := Heap.le_both (Heap.le_both (Heap.le_both h))
theorem PSt.push {w : List Int} {sl : Nat} {hB : Heap} {nm nb n8 n9 : Nat} {x : SS} {d : Int} {μ : Nat} {dn : It → Prop} {z : LSt} (h : PSt w sl hB nm nb n8 n9 x d μ dn z) {r : Nat} (h1 : ¬ r = nm) (h2 : ¬ r = nb) (h3 : ¬ r = z.1) (h4 : hB r = none) (o : HObj) : PSt w sl (upd hB r o) nm nb n8 n9 x d μ dn z :=
  ⟨h.ap.upd h1 h2 h3 h4 o, h.mp, h.le, h.hp, h.st⟩
theorem PSt.strip {w : List Int} {sl : Nat} {hB : Heap} {nm nb n8 n9 m : Nat} {x : SS} {d : Int} {μ : Nat} {dn : It → Prop} {z : LSt} {r : Nat} {o : HObj} (h : PSt w sl (upd hB r o) nm nb n8 n9 x d μ dn z) (ha : Apart hB nm nb m n8 n9) : PSt w sl hB nm nb n8 n9 x d μ dn z ∧ ¬ r = z.1 := by
  have h3 := h.ap.z3
  rw [upd_none] at h3
  exact ⟨⟨⟨h.ap.d1, h.ap.d2, h.ap.d3, ha.z1, ha.z2, h3.2, ha.h8, ha.h9⟩, h.mp, h.le, h.hp, h.st⟩, Ne.symm h3.1⟩
theorem or64' {q s : Nat} (hq : q < 256) (hs : s < 8) : IntKind.i64.wrap ((BitVec.ofInt IntKind.i64.bits (q : Int) ||| BitVec.ofInt IntKind.i64.bits ((2 ^ s : Nat) : Int)).toNat : Int) = ((q ||| 2 ^ s : Nat) : Int) := or64 hq (bit_lt (n := 8) hs)
theorem clr64' {q i : Nat} (hq : q < 256) (hi : i < 8) : IntKind.i64.wrap ((BitVec.ofInt IntKind.i64.bits (q : Int) &&& ~~~ BitVec.ofInt IntKind.i64.bits ((2 ^ i : Nat) : Int)).toNat : Int) = ((clrB q i : Nat) : Int) := andNot64 hq hi
theorem orc64' {q s : Nat} (hq : q < 256) (hs : s < 8) (i : Nat) : IntKind.i64.wrap ((BitVec.ofInt IntKind.i64.bits ((clrB q i : Nat) : Int) ||| BitVec.ofInt IntKind.i64.bits ((2 ^ s : Nat) : Int)).toNat : Int) = ((clrB q i ||| 2 ^ s : Nat) : Int) := or64 (clrB_lt (n := 8) i hq) (bit_lt (n := 8) hs)
theorem tbit {q k : Nat} (hq : q < 256) (hk : k < 8) : IntKind.i64.wrap ((BitVec.ofInt IntKind.i64.bits ((q : Int).fdiv (2 ^ min k 64)) &&& BitVec.ofInt IntKind.i64.bits 1).toNat : Int) = ((q / 2 ^ k % 2 : Nat) : Int) := by
  have e1 : (2 : Int) ^ min k 64 = ((2 ^ k : Nat) : Int) := by rw [Nat.min_eq_left (by omega), Int.natCast_pow]; rfl
  have h1 : q / 2 ^ k < 256 := Nat.lt_of_le_of_lt (Nat.div_le_self _ _) hq
  rw [e1, ← Int.ofNat_fdiv]
  have := and64 (a := q / 2 ^ k) (b := 1) h1 (by omega)
  rw [Nat.and_one_is_mod] at this; exact this
theorem bits_t {q k : Nat} (h : q / 2 ^ k % 2 = 1) : bitsN (k + 1) q = bitsN k q ++ [k] := by
  have e : q.testBit k = true := by rw [Nat.testBit_eq_decide_div_mod_eq, h]; rfl
  simp [bitsN, List.range_succ, e]
theorem bits_f {q k : Nat} (h : ¬ q / 2 ^ k % 2 = 1) : bitsN (k + 1) q = bitsN k q := by
  have e : q.testBit k = false := by rw [Nat.testBit_eq_decide_div_mod_eq]; exact decide_eq_false h
  simp [bitsN, List.range_succ, e]
theorem mem_bits_t {q k i : Nat} (h : q / 2 ^ k % 2 = 1) : i ∈ bitsN (k + 1) q ↔ i ∈ bitsN k q ∨ i = k := by rw [bits_t h]; simp
theorem stZ_app {hB : Heap} {nm nb r r' : Nat} {z : LSt} {o o' : HObj} (h1 : ¬ r = nm) (h2 : ¬ r = nb) (h3 : ¬ r = z.1) (h4 : hB r = none) (h5 : ¬ r' = nm) (h6 : ¬ r' = nb) (h7 : ¬ r' = z.1) (h8 : hB r' = none) (h9 : ¬ r' = r) :
    (stZ (upd hB r' o') nm nb z).le (upd (upd (stZ (upd hB r o) nm nb z) r .gone) r' o') := by
  intro q
  simp only [stZ, stH, frH, upd_get]
  grind
def natL (l : List Nat) : List Int := l.map fun i : Nat => (i : Int)
def adv12 (w : List Int) (x : SS) : List It := (if x.s + 1 < x.left then [(⟨x.s + 1, x.q, x.left⟩, wAt w x.s)] else []) ++ (if x.s + 1 = x.left then [(⟨x.s, x.q, x.left - 1⟩, 0)] else [])
def rside (hB : Heap) (nm nb m : Nat) (l : List Nat) : Option Nat → Prop
  | none => l = []
  | some r => hB r = none ∧ ¬ r = nm ∧ ¬ r = nb ∧ ¬ r = m
structure S1 (w : List Int) (sl : Nat) (hB : Heap) (nm nb n8 n9 : Nat) (x : SS) (v : Int) (μ : Nat) (y : Nat × Option Nat × LSt) : Prop where
  le : y.1 ≤ w.length + 1
  st : PSt w sl hB nm nb n8 n9 x v μ (fun e => e ∈ adv12 w x ∨ ∃ i ∈ bitsN y.1 x.q, e = (⟨i, x.q, x.left⟩, 0)) y.2.2
  rs : rside hB nm nb y.2.2.1 (bitsN y.1 x.q) y.2.1
structure LOK (w : List Int) (sl : Nat) (hA : Heap) (nm nb n8 n9 : Nat) (z : LSt) : Prop where
  ap : Apart hA nm nb z.1 n8 n9
  mp : mapOK z.2.2.1 z.2.2.2.2
  le : z.2.1 ≤ z.2.2.2.1.length
  hp : HeapOK (cst z.2.2.2.1) z.2.1
  st : ImSt w sl z.2.2.2.2 (z.2.2.2.1.take z.2.1) fun _ _ => False
def dnA (w : List Int) (sl : Nat) (x : SS) (j : Nat) (e : It) : Prop := e ∈ adv12 w x ∨ (∃ i ∈ bitsN (w.length + 1) x.q, e = (⟨i, x.q, x.left⟩, 0)) ∨ ((bitsN (w.length + 1) x.q).length < sl ∧ e = (⟨x.s, x.q ||| 2 ^ x.s, x.left⟩, 0)) ∨ ∃ i ∈ (bitsN (w.length + 1) x.q).take j, e = (⟨x.s, clrB x.q i ||| 2 ^ x.s, x.left⟩, 0)
theorem PSt.fin {w : List Int} {sl : Nat} {hA hC : Heap} {nm nb n8 n9 m : Nat} {x : SS} {d : Int} {μ : Nat} {z : LSt} (h : PSt w sl hC nm nb n8 n9 x d μ (dnA w sl x (bitsN (w.length + 1) x.q).length) z) (ha : Apart hA nm nb m n8 n9) (hl : hA.le hC) : LOK w sl hA nm nb n8 n9 z ∧ muI z.2.2.2.2 (z.2.2.2.1.take z.2.1) ≤ μ := by
  refine ⟨⟨⟨h.ap.d1, h.ap.d2, h.ap.d3, ha.z1, ha.z2, Heap.le_none hl h.ap.z3, ha.h8, ha.h9⟩, h.mp, h.le, h.hp, h.st.fin fun e he => ?_⟩, h.st.mu⟩
  unfold succI at he
  unfold dnA adv12
  rw [List.take_length]
  simp only [List.mem_append, List.mem_map] at he ⊢
  rcases he with (((he | he) | ⟨i, hi, rfl⟩) | he) | ⟨i, hi, rfl⟩
  · exact .inl (.inl he)
  · exact .inl (.inr he)
  · exact .inr (.inl ⟨i, hi, rfl⟩)
  · split at he
    · rename_i hc; exact .inr (.inr (.inl ⟨hc, by simpa using he⟩))
    · cases he
  · exact .inr (.inr (.inr ⟨i, hi, rfl⟩))
theorem stZ_leB {hA hC : Heap} {nm nb : Nat} {z : LSt} (h : hA.le hC) : (stZ hA nm nb z).le (stZ hC nm nb z) := stH_mono h
@[go_sem] def keep7 : List Nat := [0, 1, 4, 5, 6, 7, 8, 9, 10, 11, 12, 13, 14, 15, 17, 31, 33, 49, 62, 65, 73, 96, 111, 112, 113, 120, 138, 153, 154, 155, 156]
@[go_sem] def ib7 : List Nat := [108, 123]
@[go_sem] def mk7 : Marks := fun id => match id with | 7 => ([], .nil, []) | 10 => ([1, 3, 4, 5], (.op 0 (.op 2 (.op 1 (.op 3 (.op 4 (.op 5 (.op 6 .nil))))))), [(1, 4), (3, 4), (3, 5)]) | 16 => ([2, 5, 7, 12, 14, 16], (.op 0 (.op 1 (.op 4 (.op 6 (.op 9 (.op 10 (.op 11 (.op 2 (.op 3 (.op 5 (.op 7 (.op 8 (.op 12 (.op 13 (.op 14 (.op 15 (.op 16 .nil))))))))))))))))), []) | 28 => ([2, 4, 6, 10, 13], (.op 0 (.op 1 (.op 3 (.op 5 (.op 9 (.op 12 (.op 2 (.op 4 (.op 6 (.op 7 (.op 8 (.op 10 (.op 11 (.op 13 .nil)))))))))))))), []) | 32 => ([2, 4, 9, 13, 16], (.op 0 (.op 1 (.op 3 (.op 5 (.op 6 (.op 8 (.op 12 (.op 15 (.op 2 (.op 4 (.op 7 (.op 9 (.op 10 (.op 11 (.op 13 (.op 14 (.op 16 .nil))))))))))))))))), []) | _ => ([], .nil, [])
def keyA (n : Nat) : HVal := .agg [I 0, I 0, I n]
def row7 (n : Nat) : HObj := .row 3 [[.v (I 0), .v (I 0), .v (I n)]]
/-- What holds in the midst of the region in which the table and the heap are made. -/
structure R7 (w : List Int) (sl : Int) (h0 : Heap) (n7 : Nat) (nm nb m n8 n9 : Nat) (D : Nat → Bool) (τ : Tmps) (h : Heap) : Prop where
  le : h0.le h
  t0 : tget τ 0 = ints w
  t1 : tget τ 1 = I sl
  t7 : tget τ 7 = .op n7 3 0 0
  h7 : h0 n7 = none
  g7 : h n7 = some (row7 w.length)
  o0 : D 0 = true → tget τ 38 = .mp nm
  z0 : D 0 = true → h0 nm = none
  g0 : D 0 = true → D 2 = false → h nm = some (.map 0 0 [])
  g2 : D 2 = true → h nm = some (.map 0 0 (mapH (mput [0, 0, (w.length : Int)] (I 0) [])))
  o1 : D 1 = true → tget τ 39 = keyA w.length
  o3 : D 3 = true → tget τ 40 = .mp nm
  o4 : D 4 = true → tget τ 41 = keyA w.length
  o5 : D 5 = true → tget τ 42 = .agg (itC (stS w.length, 0))
  o6 : D 6 = true → tget τ 43 = .os m 4 0 1
  z6 : D 6 = true → h0 m = none
  g6 : D 6 = true → h m = some (rowT [(stS w.length, 0)])
  o7 : D 7 = true → tget τ 44 = .op nb 1 0 0
  z7 : D 7 = true → h0 nb = none
  g8 : D 7 = true → h nb = some (frB m 1)
  o8 : D 8 = true → tget τ 8 = .op n8 1 0 0
  z8 : D 8 = true → h0 n8 = none
  a8 : D 8 = true → D 10 = false → h n8 = some (.row 1 [[.v .nilmap]])
  b8 : D 10 = true → h n8 = some (.row 1 [[.v (.mp nm)]])
  o9 : D 9 = true → tget τ 9 = .op n9 1 0 0
  z9 : D 9 = true → h0 n9 = none
  a9 : D 9 = true → D 11 = false → h n9 = some (.row 1 [[.v .nilptr]])
  b9 : D 11 = true → h n9 = some (.row 1 [[.v (.op nb 1 0 0)]])
  c20 : D 2 = true → D 0 = true
  c32 : D 3 = true → D 2 = true
  c76 : D 7 = true → D 6 = true
  c103 : D 10 = true → D 3 = true
  c108 : D 10 = true → D 8 = true
  c119 : D 11 = true → D 9 = true
  c117 : D 11 = true → D 7 = true
theorem map_ne_row {h : Heap} {a b : Nat} {l : List (HVal × HVal)} {x y : TypeId} {sz : Nat} {es : List (List Cell)} (ha : h a = some (.map x y l)) (hb : h b = some (.row sz es)) : ¬ a = b := fun e => by rw [e, hb] at ha; cases ha
theorem le_get {h0 h : Heap} {n : Nat} (hl : h0.le h) (hn : h n = none) : h0 n = none := Heap.le_none hl hn
theorem R7.s0 {w : List Int} {sl : Int} {h0 : Heap} {n7 nm nb m n8 n9 : Nat} {D : Nat → Bool} {τ : Tmps} {h : Heap} (hI : R7 w sl h0 n7 nm nb m n8 n9 D τ h) (hD : D 0 = false)  {n : Nat} (hn : h n = none) : R7 w sl h0 n7 n nb m n8 n9 (fun j => j == 0 || D j) ((38, .mp n) :: τ) (upd h n (.map 0 0 [])) := by
  obtain ⟨le, t0, t1, t7, h7, g7, o0, z0, g0, g2, o1, o3, o4, o5, o6, z6, g6, o7, z7, g8, o8, z8, a8, b8, o9, z9, a9, b9, c20, c32, c76, c103, c108, c119, c117⟩ := hI
  have hz := le_get le hn
  constructor
  case le => exact Heap.le_upd hz le
  all_goals try simp only [tget, upd_get]
  all_goals first | grind | (intro _; rfl) | grind [row7]
theorem R7.s1 {w : List Int} {sl : Int} {h0 : Heap} {n7 nm nb m n8 n9 : Nat} {D : Nat → Bool} {τ : Tmps} {h : Heap} (hI : R7 w sl h0 n7 nm nb m n8 n9 D τ h) (hD : D 1 = false)   : R7 w sl h0 n7 nm nb m n8 n9 (fun j => j == 1 || D j) ((39, .agg [I 0, I 0, I w.length]) :: τ) h := by
  obtain ⟨le, t0, t1, t7, h7, g7, o0, z0, g0, g2, o1, o3, o4, o5, o6, z6, g6, o7, z7, g8, o8, z8, a8, b8, o9, z9, a9, b9, c20, c32, c76, c103, c108, c119, c117⟩ := hI
  constructor
  all_goals try simp only [tget, upd_get]
  all_goals first | grind | (intro _; rfl) | grind [row7]
theorem R7.s2 {w : List Int} {sl : Int} {h0 : Heap} {n7 nm nb m n8 n9 : Nat} {D : Nat → Bool} {τ : Tmps} {h : Heap} (hI : R7 w sl h0 n7 nm nb m n8 n9 D τ h) (hD : D 2 = false) (e : D 0 = true ∧ D 1 = true)  : R7 w sl h0 n7 nm nb m n8 n9 (fun j => j == 2 || D j) τ (upd h nm (.map 0 0 (mapH (mput [0, 0, (w.length : Int)] (.int .i64 0) [])))) := by
  obtain ⟨le, t0, t1, t7, h7, g7, o0, z0, g0, g2, o1, o3, o4, o5, o6, z6, g6, o7, z7, g8, o8, z8, a8, b8, o9, z9, a9, b9, c20, c32, c76, c103, c108, c119, c117⟩ := hI
  constructor
  case le => exact Heap.le_upd (by first | exact z0 e.1 | exact z8 e.1 | exact z9 e.1) le
  all_goals try simp only [tget, upd_get]
  all_goals first | grind | (intro _; rfl) | grind [row7]
theorem R7.s3 {w : List Int} {sl : Int} {h0 : Heap} {n7 nm nb m n8 n9 : Nat} {D : Nat → Bool} {τ : Tmps} {h : Heap} (hI : R7 w sl h0 n7 nm nb m n8 n9 D τ h) (hD : D 3 = false) (e : D 0 = true ∧ D 1 = true ∧ D 2 = true)  : R7 w sl h0 n7 nm nb m n8 n9 (fun j => j == 3 || D j) ((40, .mp nm) :: τ) h := by
  obtain ⟨le, t0, t1, t7, h7, g7, o0, z0, g0, g2, o1, o3, o4, o5, o6, z6, g6, o7, z7, g8, o8, z8, a8, b8, o9, z9, a9, b9, c20, c32, c76, c103, c108, c119, c117⟩ := hI
  constructor
  all_goals try simp only [tget, upd_get]
  all_goals first | grind | (intro _; rfl) | grind [row7]
theorem R7.s4 {w : List Int} {sl : Int} {h0 : Heap} {n7 nm nb m n8 n9 : Nat} {D : Nat → Bool} {τ : Tmps} {h : Heap} (hI : R7 w sl h0 n7 nm nb m n8 n9 D τ h) (hD : D 4 = false)   : R7 w sl h0 n7 nm nb m n8 n9 (fun j => j == 4 || D j) ((41, .agg [I 0, I 0, I w.length]) :: τ) h := by
  obtain ⟨le, t0, t1, t7, h7, g7, o0, z0, g0, g2, o1, o3, o4, o5, o6, z6, g6, o7, z7, g8, o8, z8, a8, b8, o9, z9, a9, b9, c20, c32, c76, c103, c108, c119, c117⟩ := hI
  constructor
  all_goals try simp only [tget, upd_get]
  all_goals first | grind | (intro _; rfl) | grind [row7]
theorem R7.s5 {w : List Int} {sl : Int} {h0 : Heap} {n7 nm nb m n8 n9 : Nat} {D : Nat → Bool} {τ : Tmps} {h : Heap} (hI : R7 w sl h0 n7 nm nb m n8 n9 D τ h) (hD : D 5 = false)   : R7 w sl h0 n7 nm nb m n8 n9 (fun j => j == 5 || D j) ((42, .agg [I 0, I 0, I w.length, .int .i64 0]) :: τ) h := by
  obtain ⟨le, t0, t1, t7, h7, g7, o0, z0, g0, g2, o1, o3, o4, o5, o6, z6, g6, o7, z7, g8, o8, z8, a8, b8, o9, z9, a9, b9, c20, c32, c76, c103, c108, c119, c117⟩ := hI
  constructor
  all_goals try simp only [tget, upd_get]
  all_goals first | grind | (intro _; rfl) | grind [row7]
theorem R7.s6 {w : List Int} {sl : Int} {h0 : Heap} {n7 nm nb m n8 n9 : Nat} {D : Nat → Bool} {τ : Tmps} {h : Heap} (hI : R7 w sl h0 n7 nm nb m n8 n9 D τ h) (hD : D 6 = false)  {n : Nat} (hn : h n = none) : R7 w sl h0 n7 nm nb n n8 n9 (fun j => j == 6 || D j) ((43, .os n 4 0 1) :: τ) (upd h n (.row 4 [[.v (I ((0 : Nat) : Int)), .v (I ((0 : Nat) : Int)), .v (I w.length), .v (I 0)]])) := by
  obtain ⟨le, t0, t1, t7, h7, g7, o0, z0, g0, g2, o1, o3, o4, o5, o6, z6, g6, o7, z7, g8, o8, z8, a8, b8, o9, z9, a9, b9, c20, c32, c76, c103, c108, c119, c117⟩ := hI
  have hz := le_get le hn
  constructor
  case le => exact Heap.le_upd hz le
  all_goals try simp only [tget, upd_get]
  all_goals first | grind | (intro _; rfl) | grind [row7]
theorem R7.s7 {w : List Int} {sl : Int} {h0 : Heap} {n7 nm nb m n8 n9 : Nat} {D : Nat → Bool} {τ : Tmps} {h : Heap} (hI : R7 w sl h0 n7 nm nb m n8 n9 D τ h) (hD : D 7 = false) (e : D 6 = true) {n : Nat} (hn : h n = none) : R7 w sl h0 n7 nm n m n8 n9 (fun j => j == 7 || D j) ((44, .op n 1 0 0) :: τ) (upd h n (.row 1 [[.v (.os m 4 0 1)]])) := by
  obtain ⟨le, t0, t1, t7, h7, g7, o0, z0, g0, g2, o1, o3, o4, o5, o6, z6, g6, o7, z7, g8, o8, z8, a8, b8, o9, z9, a9, b9, c20, c32, c76, c103, c108, c119, c117⟩ := hI
  have hz := le_get le hn
  constructor
  case le => exact Heap.le_upd hz le
  all_goals try simp only [tget, upd_get]
  all_goals first | grind | (intro _; rfl) | grind [row7]
theorem R7.s8 {w : List Int} {sl : Int} {h0 : Heap} {n7 nm nb m n8 n9 : Nat} {D : Nat → Bool} {τ : Tmps} {h : Heap} (hI : R7 w sl h0 n7 nm nb m n8 n9 D τ h) (hD : D 8 = false)  {n : Nat} (hn : h n = none) : R7 w sl h0 n7 nm nb m n n9 (fun j => j == 8 || D j) ((8, .op n 1 0 0) :: τ) (upd h n (.row 1 [[.v .nilmap]])) := by
  obtain ⟨le, t0, t1, t7, h7, g7, o0, z0, g0, g2, o1, o3, o4, o5, o6, z6, g6, o7, z7, g8, o8, z8, a8, b8, o9, z9, a9, b9, c20, c32, c76, c103, c108, c119, c117⟩ := hI
  have hz := le_get le hn
  constructor
  case le => exact Heap.le_upd hz le
  all_goals try simp only [tget, upd_get]
  all_goals first | grind | (intro _; rfl) | grind [row7]
theorem R7.s9 {w : List Int} {sl : Int} {h0 : Heap} {n7 nm nb m n8 n9 : Nat} {D : Nat → Bool} {τ : Tmps} {h : Heap} (hI : R7 w sl h0 n7 nm nb m n8 n9 D τ h) (hD : D 9 = false)  {n : Nat} (hn : h n = none) : R7 w sl h0 n7 nm nb m n8 n (fun j => j == 9 || D j) ((9, .op n 1 0 0) :: τ) (upd h n (.row 1 [[.v .nilptr]])) := by
  obtain ⟨le, t0, t1, t7, h7, g7, o0, z0, g0, g2, o1, o3, o4, o5, o6, z6, g6, o7, z7, g8, o8, z8, a8, b8, o9, z9, a9, b9, c20, c32, c76, c103, c108, c119, c117⟩ := hI
  have hz := le_get le hn
  constructor
  case le => exact Heap.le_upd hz le
  all_goals try simp only [tget, upd_get]
  all_goals first | grind | (intro _; rfl) | grind [row7]
theorem R7.s10 {w : List Int} {sl : Int} {h0 : Heap} {n7 nm nb m n8 n9 : Nat} {D : Nat → Bool} {τ : Tmps} {h : Heap} (hI : R7 w sl h0 n7 nm nb m n8 n9 D τ h) (hD : D 10 = false) (e : D 8 = true ∧ D 3 = true)  : R7 w sl h0 n7 nm nb m n8 n9 (fun j => j == 10 || D j) τ (upd h n8 (.row 1 [[.v (.mp nm)]])) := by
  obtain ⟨le, t0, t1, t7, h7, g7, o0, z0, g0, g2, o1, o3, o4, o5, o6, z6, g6, o7, z7, g8, o8, z8, a8, b8, o9, z9, a9, b9, c20, c32, c76, c103, c108, c119, c117⟩ := hI
  constructor
  case le => exact Heap.le_upd (by first | exact z0 e.1 | exact z8 e.1 | exact z9 e.1) le
  all_goals try simp only [tget, upd_get]
  all_goals first | grind | (intro _; rfl) | grind [row7]
theorem R7.s11 {w : List Int} {sl : Int} {h0 : Heap} {n7 nm nb m n8 n9 : Nat} {D : Nat → Bool} {τ : Tmps} {h : Heap} (hI : R7 w sl h0 n7 nm nb m n8 n9 D τ h) (hD : D 11 = false) (e : D 9 = true ∧ D 7 = true)  : R7 w sl h0 n7 nm nb m n8 n9 (fun j => j == 11 || D j) τ (upd h n9 (.row 1 [[.v (.op nb 1 0 0)]])) := by
  obtain ⟨le, t0, t1, t7, h7, g7, o0, z0, g0, g2, o1, o3, o4, o5, o6, z6, g6, o7, z7, g8, o8, z8, a8, b8, o9, z9, a9, b9, c20, c32, c76, c103, c108, c119, c117⟩ := hI
  constructor
  case le => exact Heap.le_upd (by first | exact z0 e.1 | exact z8 e.1 | exact z9 e.1) le
  all_goals try simp only [tget, upd_get]
  all_goals first | grind | (intro _; rfl) | grind [row7]
theorem st_leaf {h0 H : Heap} {n8 n9 nm nb m n : Nat} {mm : KMap} {l : List It} (h8 : H n8 = some (.row 1 [[.v (.mp nm)]])) (h9 : H n9 = some (.row 1 [[.v (.op nb 1 0 0)]])) (hm : H nm = some (.map 0 0 (mapH mm))) (hb : H nb = some (frB m n)) (hr : H m = some (rowT l))
    (hle : h0.le H) (z1 : h0 nm = none) (z2 : h0 nb = none) (z3 : h0 m = none) : ∃ hA, Apart hA nm nb m n8 n9 ∧ stH hA nm nb m n mm l = H ∧ h0.le hA := by
  have d1 : ¬ nm = nb := map_ne_row hm hb
  have d2 : ¬ nm = m := map_ne_row hm hr
  have d3 : ¬ nb = m := fun e => by rw [e, hr] at hb; cases hb
  have d4 : ¬ nm = n8 := map_ne_row hm h8
  have d5 : ¬ nm = n9 := map_ne_row hm h9
  have d6 : ¬ m = n8 := fun e => by rw [e, h8] at hr; cases hr
  have d7 : ¬ m = n9 := fun e => by rw [e, h9] at hr; cases hr
  have d8 : ¬ nb = n8 := fun e => by rw [e, h8] at hb; cases hb
  have d9 : ¬ nb = n9 := fun e => by rw [e, h9] at hb; cases hb
  refine ⟨fun q => if q = nm then none else if q = nb then none else if q = m then none else H q, ⟨d1, d2, d3, by simp, by simp, by simp, by grind, by grind⟩, ?_, fun q => ?_⟩
  · funext q
    simp only [stH, frH, upd_get]
    grind
  · have := hle q
    simp only
    grind
theorem stH_le {h hA : Heap} {nm nb m n8 n9 n : Nat} {mm : KMap} {l : List It} (hle : h.le hA) (ha : Apart hA nm nb m n8 n9) : h.le (stH hA nm nb m n mm l) := fun q => by
  have := hle q; have := hle nm; have := hle nb; have := hle m; have := ha.z1; have := ha.z2; have := ha.z3
  simp only [stH, frH, upd_get]
  grind
theorem SearchCost (w : List Int) (slots : Int) : Fn0 Try.prog 7 [ints w, I slots] (.tup [I (srcRes w slots).1, I (srcRes w slots).2]) := by
  refine fn0A 177 keep7 ib7 mk7 Try.func7 fun h => ?_
  simp (maxSteps := 1000000) -dsimp -implicitDefEqProofs only [go_sem, ↓reduceIte, keep7, ib7, mk7, Try.f7]
  refine HFnF.mk (isCosted w slots) ?_
  by_cases hw : Wts w
  · rw [if_neg (not_not_intro hw)]
    have hml : w.length ≤ 9223372036854775807 := by have := hw.2; omega
    by_cases hs : 0 ≤ slots ∧ slots ≤ 8
    · rw [if_neg (not_not_intro hs)]
      by_cases hl : (w.length : Int) > 7
      · simp (maxSteps := 1000000) -dsimp -implicitDefEqProofs only [go_sem, ↓reduceIte, keep7, ib7, mk7, Try.f7, hml, hl]
        rw [srcRes, if_neg (not_not_intro hw), if_pos (by omega)]
      · by_cases hs3 : slots > 3
        · simp (maxSteps := 1000000) -dsimp -implicitDefEqProofs only [go_sem, ↓reduceIte, keep7, ib7, mk7, Try.f7, hml, hl, hs3]
          rw [srcRes, if_neg (not_not_intro hw), if_pos (by omega)]
        · simp (maxSteps := 1000000) -dsimp -implicitDefEqProofs only [go_sem, ↓reduceIte, keep7, ib7, mk7, Try.f7, hml, hl, hs3]
          intro n7 q_n7
          have z_n7 : h n7 = none := by first | exact q_n7.1 | exact q_n7 | exact q_n7.2.1 | exact q_n7.2 | exact q_n7.2.2.1 | exact q_n7.2.2 | exact q_n7.2.2.2.1 | exact q_n7.2.2.2 | exact q_n7.2.2.2.2.1 | exact q_n7.2.2.2.2 | exact q_n7.2.2.2.2.2.1 | exact q_n7.2.2.2.2.2 | exact q_n7.2.2.2.2.2.2.1 | exact q_n7.2.2.2.2.2.2 | exact q_n7.2.2.2.2.2.2.2.1 | exact q_n7.2.2.2.2.2.2.2 | exact q_n7.2.2.2.2.2.2.2.2.1 | exact q_n7.2.2.2.2.2.2.2.2 | exact q_n7.2.2.2.2.2.2.2.2.2.1 | exact q_n7.2.2.2.2.2.2.2.2.2 | exact q_n7.2.2.2.2.2.2.2.2.2.2.1 | exact q_n7.2.2.2.2.2.2.2.2.2.2 | exact q_n7.2.2.2.2.2.2.2.2.2.2.2.1 | exact q_n7.2.2.2.2.2.2.2.2.2.2.2 | exact q_n7.2.2.2.2.2.2.2.2.2.2.2.2.1 | exact q_n7.2.2.2.2.2.2.2.2.2.2.2.2 | exact q_n7.2.2.2.2.2.2.2.2.2.2.2.2.2.1 | exact q_n7.2.2.2.2.2.2.2.2.2.2.2.2.2
          refine HWp.regS (ib := ib7) mix (by kernel_rfl) keep7 (fun D τ h' => ∃ nm nb m n8 n9, R7 w slots h n7 nm nb m n8 n9 D τ h') ?_ ?_ ?_
          · refine ⟨0, 0, 0, 0, 0, ?_⟩
            constructor
            case le => exact Heap.le_upd z_n7 (Heap.le_upd z_n7 (Heap.le_refl _))
            case g7 => rw [upd_same]; rfl
            case h7 => exact z_n7
            all_goals first | rfl | (intro q; cases q)
          · rintro D τ h' ⟨nm, nb, m, n8, n9, hI⟩
            refine ⟨fun hD he => ?_, fun hD he => ?_, fun hD he => ?_, fun hD he => ?_, fun hD he => ?_, fun hD he => ?_, fun hD he => ?_, fun hD he => ?_, fun hD he => ?_, fun hD he => ?_, fun hD he => ?_, fun hD he => ?_, trivial⟩
            · clear he
              simp (maxSteps := 1000000) -dsimp -implicitDefEqProofs only [go_sem, ↓reduceIte, keep7, ib7, mk7, Try.f7]
              intro n hn
              exact ⟨n, nb, m, n8, n9, R7.s0 (by exact hI) hD hn⟩
            · clear he
              simp (maxSteps := 1000000) -dsimp -implicitDefEqProofs only [go_sem, ↓reduceIte, keep7, ib7, mk7, Try.f7, hI.t7, hI.g7, row7]
              exact ⟨nm, nb, m, n8, n9, R7.s1 (by exact hI) hD⟩
            · simp [edgeI, Region.binds] at he
              simp (maxSteps := 1000000) -dsimp -implicitDefEqProofs only [go_sem, ↓reduceIte, keep7, ib7, mk7, Try.f7, hI.o0 he.1, hI.o1 he.2, keyA, hI.g0 he.1 hD, keysLen_nil]
              exact ⟨nm, nb, m, n8, n9, R7.s2 (by exact hI) hD he⟩
            · simp [edgeI, Region.binds] at he
              simp (maxSteps := 1000000) -dsimp -implicitDefEqProofs only [go_sem, ↓reduceIte, keep7, ib7, mk7, Try.f7, hI.o0 he.1]
              exact ⟨nm, nb, m, n8, n9, R7.s3 (by exact hI) hD he⟩
            · clear he
              simp (maxSteps := 1000000) -dsimp -implicitDefEqProofs only [go_sem, ↓reduceIte, keep7, ib7, mk7, Try.f7, hI.t7, hI.g7, row7]
              exact ⟨nm, nb, m, n8, n9, R7.s4 (by exact hI) hD⟩
            · simp [edgeI, Region.binds] at he
              simp (maxSteps := 1000000) -dsimp -implicitDefEqProofs only [go_sem, ↓reduceIte, keep7, ib7, mk7, Try.f7, hI.o4 he, keyA]
              exact ⟨nm, nb, m, n8, n9, R7.s5 (by exact hI) hD⟩
            · simp [edgeI, Region.binds] at he
              simp (maxSteps := 1000000) -dsimp -implicitDefEqProofs only [go_sem, ↓reduceIte, keep7, ib7, mk7, Try.f7, hI.o5 he, itC_eq, stS]
              refine ⟨by omega, by omega, ?_⟩
              intro n hn
              exact ⟨nm, nb, n, n8, n9, R7.s6 (by exact hI) hD hn⟩
            · simp [edgeI, Region.binds] at he
              simp (maxSteps := 1000000) -dsimp -implicitDefEqProofs only [go_sem, ↓reduceIte, keep7, ib7, mk7, Try.f7, hI.o6 he]
              intro n hn
              exact ⟨nm, n, m, n8, n9, R7.s7 (by exact hI) hD he hn⟩
            · clear he
              simp (maxSteps := 1000000) -dsimp -implicitDefEqProofs only [go_sem, ↓reduceIte, keep7, ib7, mk7, Try.f7]
              intro n hn
              exact ⟨nm, nb, m, n, n9, R7.s8 (by exact hI) hD hn⟩
            · clear he
              simp (maxSteps := 1000000) -dsimp -implicitDefEqProofs only [go_sem, ↓reduceIte, keep7, ib7, mk7, Try.f7]
              intro n hn
              exact ⟨nm, nb, m, n8, n, R7.s9 (by exact hI) hD hn⟩
            · simp [edgeI, Region.binds] at he
              simp (maxSteps := 1000000) -dsimp -implicitDefEqProofs only [go_sem, ↓reduceIte, keep7, ib7, mk7, Try.f7, hI.o8 he.1, hI.o3 he.2.1, hI.a8 he.1 hD]
              exact ⟨nm, nb, m, n8, n9, R7.s10 (by exact hI) hD ⟨he.1, he.2.1⟩⟩
            · simp [edgeI, Region.binds] at he
              simp (maxSteps := 1000000) -dsimp -implicitDefEqProofs only [go_sem, ↓reduceIte, keep7, ib7, mk7, Try.f7, hI.o9 he.1, hI.o7 he.2.1, hI.a9 he.1 hD]
              exact ⟨nm, nb, m, n8, n9, R7.s11 (by exact hI) hD ⟨he.1, he.2.1⟩⟩
          · rintro D τ h' hD ⟨nm, nb, m, n8, n9, hI⟩
            have hd : ∀ i, i < 12 → D i = true := fun i hi => hD i hi
            show hwpF _ _ _ _ _ _ _ _ _ _ ()
            have t0 := hI.t0
            have t1 := hI.t1
            have t8 := hI.o8 (hd 8 (by omega))
            have t9 := hI.o9 (hd 9 (by omega))
            obtain ⟨hA, ha, rfl, hle⟩ := st_leaf (hI.b8 (hd 10 (by omega))) (hI.b9 (hd 11 (by omega))) (hI.g2 (hd 2 (by omega))) (hI.g8 (hd 7 (by omega))) (hI.g6 (hd 6 (by omega))) hI.le (hI.z0 (hd 0 (by omega))) (hI.z7 (hd 7 (by omega))) (hI.z6 (hd 6 (by omega)))
            clear hI hd hD
            simp (maxSteps := 1000000) -dsimp -implicitDefEqProofs only [go_sem, ↓reduceIte, keep7, ib7, mk7, Try.f7, t0, t1, t8, t9]
            have hwl : w.length ≤ 7 := by omega
            obtain ⟨sl, rfl⟩ : ∃ sl : Nat, slots = sl := ⟨slots.toNat, by omega⟩
            have hres : srcRes w (sl : Int) = match minS w sl with | some v => (v, 0) | none => (0, 4) := by
              rw [srcRes, if_neg (not_not_intro hw), if_neg (by omega)]; rfl
            refine loopA keep7 ib7 mk7 (fun _ : LSt => [(0, ints w), (1, I sl), (8, .op n8 1 0 0), (9, .op n9 1 0 0)]) (fun z => stH hA nm nb z.1 z.2.1 z.2.2.1 z.2.2.2.1) (LOK w sl hA nm nb n8 n9) (fun z => muI z.2.2.2.2 (z.2.2.2.1.take z.2.1)) (m, 1, _, [(stS w.length, 0)], setB (fun _ => none) (stS w.length) 0) ⟨by simp [SatL, tget, t0, t1, t8, t9], Heap.le_refl _, ⟨ha, mapOK_put (mm := []) (b := fun _ => none) ⟨keysLen_nil 3, fun _ => rfl⟩ (stS w.length) 0, by simp, ?_, imst_init w hwl sl⟩⟩ ?_
            · intro i h0 h1; simp only at h1; omega
            rintro ⟨m, n, mm, l, b⟩ ⟨ha, hb, hn, hH, hst⟩
            simp only at ha hb hn hH hst ⊢
            have g8 := ha.get8 (n := n) (mm := mm) (l := l)
            have g9 := ha.get9 (n := n) (mm := mm) (l := l)
            have gB := ha.getB (n := n) (mm := mm) (l := l)
            have hlen : (l.take n).length = n := by rw [List.length_take]; omega
            have hn2 : n < 4398046511103 := by have := hst.meas; omega
            simp (maxSteps := 1000000) -dsimp -implicitDefEqProofs only [go_sem, ↓reduceIte, keep7, ib7, mk7, Try.f7, g9, gB]
            refine HFnF.mk (fLen m n) ?_
            rcases Nat.eq_zero_or_pos n with h0 | h0
            · subst h0
              have h00 : ¬ (((0 : Nat) : Int) > 0) := by decide
              simp (maxSteps := 1000000) -dsimp -implicitDefEqProofs only [go_sem, ↓reduceIte, keep7, ib7, mk7, Try.f7, h00]
              rw [List.take_zero] at hst
              have hle' : h.le (stH hA nm nb m 0 mm l) := stH_le hle ha
              rw [hres, hst.none hw]
              exact ⟨rfl, hle'⟩
            · have h00 : ((n : Int) > 0) := by omega
              simp (maxSteps := 1000000) -dsimp -implicitDefEqProofs only [go_sem, ↓reduceIte, keep7, ib7, mk7, Try.f7, h00, g9, gB]
              refine HFnF.mkH (hpPop ha.d3 h0 hn hn2 (by rw [upd_ne _ _ _ _ (Ne.symm ha.d1)]; exact ha.z2) (by rw [upd_ne _ _ _ _ (Ne.symm ha.d2)]; exact ha.z3) hH) ?_
              rintro _ _ ⟨⟨x, d⟩, l1, rfl, p1, p2, p3, p4, rfl⟩
              rw [show frH (upd hA nm (HObj.map 0 0 (mapH mm))) nb m (n - 1) l1 = stH hA nm nb m (n - 1) mm l1 from rfl]
              simp (maxSteps := 1000000) -dsimp -implicitDefEqProofs only [go_sem, ↓reduceIte, keep7, ib7, mk7, Try.f7, itC_eq]
              intro n10 z10 n11 z11
              obtain ⟨a1, a2, a3, a4⟩ := stH_ne z10
              obtain ⟨b1, b2, b3, b4⟩ := stH_ne z11.2.2
              have d_10_11 : ¬ n10 = n11 := Ne.symm z11.1
              refine ⟨⟨?_, ?_⟩, ?_, ?_⟩
              · rw [upd_ne _ _ _ _ d_10_11, upd_same]
              · rw [upd_ne _ _ _ _ d_10_11, upd_same]
              · rw [upd_ne _ _ _ _ d_10_11]
              rw [upd_upd _ n11, upd_upd _ n10, stH_upd _ a1 a2 a3, stH_upd _ b1 b2 b3]
              have haB := (ha.upd a1 a2 a3 a4 (.row 4 [[.v (I x.s), .v (I x.q), .v (I x.left), .v (I d)]])).upd b1 b2 b3 (by rw [upd_ne _ _ _ _ z11.1]; exact b4) (.row 3 [[.v (I x.s), .v (I x.q), .v (I x.left)]])
              have hBh : h.le (upd (upd hA n10 (.row 4 [[.v (I x.s), .v (I x.q), .v (I x.left), .v (I d)]])) n11 (.row 3 [[.v (I x.s), .v (I x.q), .v (I x.left)]])) := Heap.le_upd (Heap.le_none hle b4) (Heap.le_upd (Heap.le_none hle a4) hle)
              have hBA : hA.le (upd (upd hA n10 (.row 4 [[.v (I x.s), .v (I x.q), .v (I x.left), .v (I d)]])) n11 (.row 3 [[.v (I x.s), .v (I x.q), .v (I x.left)]])) := Heap.le_upd b4 (Heap.le_upd a4 (Heap.le_refl _))
              have gB11 : (upd (upd hA n10 (.row 4 [[.v (I x.s), .v (I x.q), .v (I x.left), .v (I d)]])) n11 (.row 3 [[.v (I x.s), .v (I x.q), .v (I x.left)]])) n11 = some (.row 3 [[.v (I x.s), .v (I x.q), .v (I x.left)]]) := upd_same _ _ _
              generalize upd (upd hA n10 (.row 4 [[.v (I x.s), .v (I x.q), .v (I x.left), .v (I d)]])) n11 (.row 3 [[.v (I x.s), .v (I x.q), .v (I x.left)]]) = hB at haB hBh hBA gB11 ⊢
              have g8 := haB.get8 (n := n - 1) (mm := mm) (l := l1)
              have gM := haB.getM (n := n - 1) (mm := mm) (l := l1)
              have g11 : stH hB nm nb m (n - 1) mm l1 n11 = some (.row 3 [[.v (I x.s), .v (I x.q), .v (I x.left)]]) := by rw [stH_at b1 b2 b3]; exact gB11
              have hk := hb.1
              obtain ⟨v, hv1, hv2⟩ := hst.ent (x, d) (p1.mem_iff.2 List.mem_cons_self)
              have hg : mget [(x.s : Int), (x.q : Int), (x.left : Int)] mm = some (I v) := by have := hb.2 x; rw [hv1] at this; exact this
              simp (maxSteps := 1000000) -dsimp -implicitDefEqProofs only [go_sem, ↓reduceIte, keep7, ib7, mk7, Try.f7, g8, gM, g11, hk, hg]
              refine ⟨fun hgt => ?_, fun hgt => ⟨fun hl0 => ?_, fun hl0 => ?_⟩⟩
              · have hs := hst.stale p1 hv1 hgt
                exact ⟨(m, n - 1, mm, l1, b), stH_mono hBA, ⟨ha, hb, by simp only; omega, p3, hs.1⟩, hs.2⟩
              · have hvd : v = d := by omega
                subst hvd
                change (x.left : Int) = 0 at hl0
                rw [hres, hst.found hw p2 hv1 (show x.left = 0 by omega)]
                exact ⟨rfl, stH_le hBh haB⟩
              · have hvd : v = d := by omega
                subst hvd
                change ¬ ((x.left : Int) = 0) at hl0
                have hpop := hst.pop p1 hv1 (show x.left ≠ 0 by omega)
                have hwx := hst.inv.walk x v hv1
                have hokx := wlkI_ok hwx
                have hoks := okW_okS hwl hokx
                have h0v := (hst.bnd.ok x v hv1).2.1
                have hvk := (hst.bnd.ok x v hv1).2.2
                have hkn := knw_le b
                have hμ : muI b (l1.take (n - 1)) < muI b (l.take n) := hpop.2
                have hP : PSt w sl hB nm nb n8 n9 x v (muI b (l1.take (n - 1))) (fun _ => False) (m, n - 1, mm, l1, b) := ⟨haB, hb, by simp only; omega, p3, hpop.1⟩
                generalize muI b (l1.take (n - 1)) = μ at hP hμ
                have es : IntKind.i64.wrap ((x.s : Int) + 1) = ((x.s + 1 : Nat) : Int) := by rw [IntWalk.i64_in _ (by have := hoks.1; omega)]; rfl
                have el : IntKind.i64.wrap ((x.left : Int) - 1) = ((x.left - 1 : Nat) : Int) := by rw [IntWalk.i64_in _ (by have := hoks.2.2; omega)]; omega
                rw [show stH hB nm nb m (n - 1) mm l1 = stZ hB nm nb (m, n - 1, mm, l1, b) from rfl]
                rw [es, el]
                have g11z : ∀ (hC : Heap) (z : LSt), hC n11 = some (.row 3 [[.v (I x.s), .v (I x.q), .v (I x.left)]]) → Apart hC nm nb z.1 n8 n9 → stZ hC nm nb z n11 = some (.row 3 [[.v (I x.s), .v (I x.q), .v (I x.left)]]) := fun hC z g az => by
                  rw [stZ, stH_at b1 b2 (fun e => by have := az.z3; rw [← e, g] at this; cases this)]; exact g
                clear g8 gM g11 hg hk p1 p2 p3 p4 hv1 hv2 z10 z11 hpop hst hb hH hn hlen hn2 gB g9 h00 h0
                have en : IntKind.i64.wrap ((w.length : Int) + 1) = ((w.length + 1 : Nat) : Int) := by rw [IntWalk.i64_in _ (by omega)]; rfl
                apply shareS
                case m =>
                  intro key
                  have hP' : ∀ dn', (∀ e, ¬ dn' e) → PSt w sl hB nm nb n8 n9 x v μ dn' (m, n - 1, mm, l1, b) := fun dn' hd => hP.imp fun e he => (hd e he).elim
                  rcases Nat.lt_trichotomy (x.s + 1) x.left with hc | hc | hc
                  · have c1 : ((x.s + 1 : Nat) : Int) < (x.left : Int) := by omega
                    have c2 : ¬ (x.s : Int) = ((x.left - 1 : Nat) : Int) := by omega
                    have ew : w[x.s]? = some (wAt w x.s) := by
                      have : x.s < w.length := by have := hokx.2.1; omega
                      unfold wAt; rw [List.getD_eq_getElem?_getD, List.getElem?_eq_getElem this]; rfl
                    have ewi := wAt_in hw.1 x.s
                    have ev : IntKind.i64.wrap (v + wAt w x.s) = v + wAt w x.s := IntWalk.i64_in _ (by omega)
                    simp (maxSteps := 1000000) -dsimp -implicitDefEqProofs only [go_sem, ↓reduceIte, keep7, ib7, mk7, Try.f7, c1, c2, ew, ev, g11z _ _ gB11 hP.ap]
                    have he : ((⟨x.s + 1, x.q, x.left⟩, wAt w x.s) : It) ∈ succI w sl x := by
                      unfold succI; rw [if_pos hc]; simp
                    refine ⟨by have := hokx.2.1; omega, HFnF.mkH (reachP hw hwl hP hwx h0v he) ?_⟩
                    rintro _ _ ⟨z, rfl, hz⟩
                    simp (maxSteps := 1000000) -dsimp -implicitDefEqProofs only [go_sem, ↓reduceIte, keep7, ib7, mk7, Try.f7, c1, c2, hml, en, es, el, g11z _ _ gB11 hz.ap]
                    refine ⟨by omega, ?_⟩
                    refine loopA keep7 ib7 mk7 (fun y : Nat × Option Nat × LSt => [(0, ints w), (1, I sl), (8, .op n8 1 0 0), (9, .op n9 1 0 0), (11, .op n11 3 0 0), (12, I v), (13, .fn (.func 20) [] [.op n8 1 0 0, .op n9 1 0 0]), (14, oval 1 (bitsN y.1 x.q).length y.2.1), (111, I ((w.length + 1 : Nat) : Int)), (112, I y.1)]) (fun y => stZ (oheap hB (rowsI (natL (bitsN y.1 x.q))) y.2.1) nm nb y.2.2) (S1 w sl hB nm nb n8 n9 x v μ) (fun y => w.length + 1 - y.1) (0, none, z) ⟨by simp [SatL, tget, oval, bitsN], Heap.le_refl _, Nat.zero_le _, hz.imp fun e q => .inr (q.elim (fun q => by simpa [adv12, hc, show ¬ x.s + 1 = x.left by omega] using q) fun ⟨i, q, _⟩ => absurd q (by simp [bitsN])), rfl⟩ ?_
                    exact key.get
                  · have c1 : ¬ ((x.s + 1 : Nat) : Int) < (x.left : Int) := by omega
                    have c2 : ((x.s : Int) = ((x.left - 1 : Nat) : Int)) = True := eq_true (by omega)
                    simp (maxSteps := 1000000) -dsimp -implicitDefEqProofs only [go_sem, ↓reduceIte, keep7, ib7, mk7, Try.f7, c1, c2, g11z _ _ gB11 hP.ap]
                    have he : ((⟨x.s, x.q, x.left - 1⟩, 0) : It) ∈ succI w sl x := by
                      unfold succI; rw [if_pos hc]; simp
                    have hrp := reachP hw hwl hP hwx h0v he
                    simp only [Int.add_zero] at hrp
                    refine HFnF.mkH hrp ?_
                    rintro _ _ ⟨z, rfl, hz⟩
                    simp (maxSteps := 1000000) -dsimp -implicitDefEqProofs only [go_sem, ↓reduceIte, keep7, ib7, mk7, Try.f7, c1, c2, hml, en, es, el, g11z _ _ gB11 hz.ap]
                    refine ⟨by omega, ?_⟩
                    refine loopA keep7 ib7 mk7 (fun y : Nat × Option Nat × LSt => [(0, ints w), (1, I sl), (8, .op n8 1 0 0), (9, .op n9 1 0 0), (11, .op n11 3 0 0), (12, I v), (13, .fn (.func 20) [] [.op n8 1 0 0, .op n9 1 0 0]), (14, oval 1 (bitsN y.1 x.q).length y.2.1), (111, I ((w.length + 1 : Nat) : Int)), (112, I y.1)]) (fun y => stZ (oheap hB (rowsI (natL (bitsN y.1 x.q))) y.2.1) nm nb y.2.2) (S1 w sl hB nm nb n8 n9 x v μ) (fun y => w.length + 1 - y.1) (0, none, z) ⟨by simp [SatL, tget, oval, bitsN], Heap.le_refl _, Nat.zero_le _, hz.imp fun e q => .inr (q.elim (fun q => by simpa [adv12, hc, show ¬ x.s + 1 < x.left by omega] using q) fun ⟨i, q, _⟩ => absurd q (by simp [bitsN])), rfl⟩ ?_
                    exact key.get
                  · have c1 : ¬ ((x.s + 1 : Nat) : Int) < (x.left : Int) := by omega
                    have c2 : ¬ (x.s : Int) = ((x.left - 1 : Nat) : Int) := by omega
                    simp (maxSteps := 1000000) -dsimp -implicitDefEqProofs only [go_sem, ↓reduceIte, keep7, ib7, mk7, Try.f7, c1, c2, hml, en, es, el, g11z _ _ gB11 hP.ap]
                    refine ⟨by omega, ?_⟩
                    refine loopA keep7 ib7 mk7 (fun y : Nat × Option Nat × LSt => [(0, ints w), (1, I sl), (8, .op n8 1 0 0), (9, .op n9 1 0 0), (11, .op n11 3 0 0), (12, I v), (13, .fn (.func 20) [] [.op n8 1 0 0, .op n9 1 0 0]), (14, oval 1 (bitsN y.1 x.q).length y.2.1), (111, I ((w.length + 1 : Nat) : Int)), (112, I y.1)]) (fun y => stZ (oheap hB (rowsI (natL (bitsN y.1 x.q))) y.2.1) nm nb y.2.2) (S1 w sl hB nm nb n8 n9 x v μ) (fun y => w.length + 1 - y.1) (0, none, (m, n - 1, mm, l1, b)) ⟨by simp [SatL, tget, oval, bitsN], Heap.le_refl _, Nat.zero_le _, hP' _ fun e q => q.elim (fun q => by simp [adv12, show ¬ x.s + 1 = x.left by omega, show ¬ x.s + 1 < x.left by omega] at q) fun ⟨i, q, _⟩ => absurd q (by simp [bitsN]), rfl⟩ ?_
                    exact key.get
                case t =>
                  clear hP
                  rintro ⟨k, mo, z⟩ ⟨hk, hz, hrs⟩
                  simp only at hk hz hrs ⊢
                  have hbl : (bitsN k x.q).length ≤ k := by simpa [bitsN] using List.length_filter_le (fun i => x.q.testBit i) (List.range k)
                  rcases Nat.lt_or_ge k (w.length + 1) with hlt | hge
                  · have hlt' : (k : Int) < ((w.length + 1 : Nat) : Int) := by omega
                    have ei : IntKind.i64.wrap ((k : Int) + 1) = ((k + 1 : Nat) : Int) := by rw [IntWalk.i64_in _ (by omega)]; rfl
                    cases mo with
                    | none =>
                      have hq0 : bitsN k x.q = [] := hrs
                      simp (maxSteps := 1000000) -dsimp -implicitDefEqProofs only [go_sem, ↓reduceIte, keep7, ib7, mk7, Try.f7, oheap_none, oval_none, hlt', g11z _ _ gB11 hz.ap, tbit hoks.2.1 (show k < 8 by omega), ei]
                      constructor
                      · intro hbit
                        have hbit : x.q / 2 ^ k % 2 = 1 := by omega
                        have hb1 : bitsN (k + 1) x.q = [k] := by rw [bits_t hbit, hq0]; rfl
                        refine ⟨by omega, by omega, by omega, ?_⟩
                        intro r zr
                        obtain ⟨r1, r2, r3, r4⟩ := stH_ne zr
                        have hrn : ¬ n11 = r := fun e => by rw [← e, gB11] at r4; cases r4
                        have hz2 := hz.push r1 r2 r3 r4 (rowsI (natL [k]))
                        rw [stZ, stH_upd _ r1 r2 r3, ← stZ, show HObj.row 1 [[Cell.v (HVal.int .i64 (k : Int))]] = rowsI (natL [k]) from rfl]
                        have gC : upd hB r (rowsI (natL [k])) n11 = some (.row 3 [[.v (I x.s), .v (I x.q), .v (I x.left)]]) := by rw [upd_ne _ _ _ _ hrn]; exact gB11
                        simp (maxSteps := 1000000) -dsimp -implicitDefEqProofs only [go_sem, ↓reduceIte, keep7, ib7, mk7, Try.f7, g11z _ _ gC hz2.ap]
                        have he : ((⟨k, x.q, x.left⟩, 0) : It) ∈ succI w sl x := by
                          unfold succI
                          simp only [List.mem_append, List.mem_map]
                          exact .inl (.inl (.inr ⟨k, mem_bits.2 ⟨hlt, by rw [Nat.testBit_eq_decide_div_mod_eq, hbit]; rfl⟩, rfl⟩))
                        have hrp := reachP hw hwl hz2 hwx h0v he
                        simp only [Int.add_zero] at hrp
                        refine HFnF.mkH hrp ?_
                        rintro _ _ ⟨z', rfl, hz'⟩
                        obtain ⟨hs1, hs2⟩ := hz'.strip hz.ap
                        simp (maxSteps := 1000000) -dsimp -implicitDefEqProofs only [go_sem, ↓reduceIte, keep7, ib7, mk7, Try.f7, ei]
                        refine ⟨(k + 1, some r, z'), ⟨by simp only [hb1]; rfl, rfl⟩, by simp only [hb1, oheap_some]; exact Heap.le_refl _, ⟨by simp only; omega, hs1.imp ?_, ⟨r4, r1, r2, hs2⟩⟩, by simp only; omega⟩
                        rintro e (q | ⟨i, q, rfl⟩)
                        · exact .inl (.inl q)
                        · rcases (mem_bits_t hbit).1 q with q | rfl
                          · exact .inl (.inr ⟨i, q, rfl⟩)
                          · exact .inr rfl
                      · intro hbit
                        have hbit : ¬ x.q / 2 ^ k % 2 = 1 := by omega
                        have hb1 := bits_f hbit
                        refine ⟨(k + 1, none, z), ⟨rfl, rfl⟩, Heap.le_refl _, ⟨by simp only; omega, ?_, ?_⟩, by simp only; omega⟩
                        · simp only [hb1]; exact hz
                        · simp only [hb1]; exact hrs
                    | some r =>
                      obtain ⟨r4, r1, r2, r3⟩ := hrs
                      have hrn : ¬ n11 = r := fun e => by rw [← e, gB11] at r4; cases r4
                      have hz2 := hz.push r1 r2 r3 r4 (rowsI (natL (bitsN k x.q)))
                      have gC : upd hB r (rowsI (natL (bitsN k x.q))) n11 = some (.row 3 [[.v (I x.s), .v (I x.q), .v (I x.left)]]) := by rw [upd_ne _ _ _ _ hrn]; exact gB11
                      have gr : stZ (upd hB r (rowsI (natL (bitsN k x.q)))) nm nb z r = some (rowsI (natL (bitsN k x.q))) := by rw [stZ, stH_at r1 r2 r3, upd_same]
                      have hnl : (natL (bitsN k x.q)).length = (bitsN k x.q).length := by simp [natL]
                      simp (maxSteps := 1000000) -dsimp -implicitDefEqProofs only [go_sem, ↓reduceIte, keep7, ib7, mk7, Try.f7, oheap_some, oval_some, hlt', g11z _ _ gC hz2.ap, tbit hoks.2.1 (show k < 8 by omega), ei, gr, hnl]
                      constructor
                      · intro hbit
                        have hbit : x.q / 2 ^ k % 2 = 1 := by omega
                        have hb1 := bits_t hbit
                        refine ⟨by omega, by omega, by omega, Nat.le_refl _, by omega, by omega, ?_⟩
                        intro r' zr
                        obtain ⟨u1, u2, u3, u4⟩ := stH_ne zr
                        rw [upd_none] at u4
                        have hle' := stZ_app (o := rowsI (natL (bitsN k x.q))) (o' := rowsI (natL (bitsN (k + 1) x.q))) r1 r2 r3 r4 u1 u2 u3 u4.2 u4.1
                        have er : List.take (bitsN k x.q).length (((natL (bitsN k x.q)).map fun n => [I n]).map (List.map Cell.v)) ++ [[Cell.v (HVal.int .i64 (k : Int))]] = ((natL (bitsN (k + 1) x.q)).map fun n => [I n]).map (List.map Cell.v) := by
                          rw [List.take_of_length_le (by simp [natL]), hb1]; simp [natL]
                        rw [er]
                        have hz3 := hz.push u1 u2 u3 u4.2 (rowsI (natL (bitsN (k + 1) x.q)))
                        have hrn' : ¬ n11 = r' := fun e => by rw [← e, gB11] at u4; cases u4.2
                        have gH : upd (upd (stZ (upd hB r (rowsI (natL (bitsN k x.q)))) nm nb z) r .gone) r' (rowsI (natL (bitsN (k + 1) x.q))) n11 = some (.row 3 [[.v (I x.s), .v (I x.q), .v (I x.left)]]) := by
                          rw [upd_ne _ _ _ _ hrn', upd_ne _ _ _ _ hrn, g11z _ _ gC hz2.ap]
                        simp (maxSteps := 1000000) -dsimp -implicitDefEqProofs only [go_sem, ↓reduceIte, keep7, ib7, mk7, Try.f7, gH]
                        have he : ((⟨k, x.q, x.left⟩, 0) : It) ∈ succI w sl x := by
                          unfold succI
                          simp only [List.mem_append, List.mem_map]
                          exact .inl (.inl (.inr ⟨k, mem_bits.2 ⟨hlt, by rw [Nat.testBit_eq_decide_div_mod_eq, hbit]; rfl⟩, rfl⟩))
                        have hrp := reachP hw hwl hz3 hwx h0v he
                        simp only [Int.add_zero] at hrp
                        refine HFnF.wk (Heap.wk_of_le hle') (HFnF.mkH hrp ?_)
                        rintro _ _ ⟨z', rfl, hz'⟩
                        obtain ⟨hs1, hs2⟩ := hz'.strip hz.ap
                        simp (maxSteps := 1000000) -dsimp -implicitDefEqProofs only [go_sem, ↓reduceIte, keep7, ib7, mk7, Try.f7, ei]
                        refine ⟨(k + 1, some r', z'), ⟨by simp only [hb1, oval_some, List.length_append]; rfl, rfl⟩, Heap.le_refl _, ⟨by simp only; omega, hs1.imp ?_, ⟨u4.2, u1, u2, hs2⟩⟩, by simp only; omega⟩
                        rintro e (q | ⟨i, q, rfl⟩)
                        · exact .inl (.inl q)
                        · rcases (mem_bits_t hbit).1 q with q | rfl
                          · exact .inl (.inr ⟨i, q, rfl⟩)
                          · exact .inr rfl
                      · intro hbit
                        have hbit : ¬ x.q / 2 ^ k % 2 = 1 := by omega
                        have hb1 := bits_f hbit
                        refine ⟨(k + 1, some r, z), ⟨by simp only [hb1]; rfl, rfl⟩, by simp only [hb1, oheap_some]; exact Heap.le_refl _, ⟨by simp only; omega, ?_, ?_⟩, by simp only; omega⟩
                        · simp only [hb1]; exact hz
                        · simp only [hb1]; exact ⟨r4, r1, r2, r3⟩
                  · have hlt' : ¬ (k : Int) < ((w.length + 1 : Nat) : Int) := by omega
                    obtain rfl : k = w.length + 1 := by omega
                    have hb7 : (bitsN (w.length + 1) x.q).length ≤ 9223372036854775807 := by omega
                    cases mo with
                    | none =>
                      have hq0 : bitsN (w.length + 1) x.q = [] := hrs
                      simp (maxSteps := 1000000) -dsimp -implicitDefEqProofs only [go_sem, ↓reduceIte, keep7, ib7, mk7, Try.f7, oheap_none, oval_none, hlt', hq0, g11z _ _ gB11 hz.ap, shl64' hoks.1, or64' hoks.2.1 hoks.1]
                      apply shareS
                      case m =>
                        intro key2
                        refine ⟨fun hs0 => ?_, fun hs0 => ?_⟩
                        · have he : ((⟨x.s, x.q ||| 2 ^ x.s, x.left⟩, 0) : It) ∈ succI w sl x := by
                            unfold succI; rw [if_pos (show (bitsN (w.length + 1) x.q).length < sl by rw [hq0]; exact hs0)]; simp
                          have hrp := reachP hw hwl hz hwx h0v he
                          simp only [Int.add_zero] at hrp
                          refine HFnF.mkH hrp ?_
                          rintro _ _ ⟨z', rfl, hz'⟩
                          simp (maxSteps := 1000000) -dsimp -implicitDefEqProofs only [go_sem, ↓reduceIte, keep7, ib7, mk7, Try.f7]
                          refine loopA keep7 ib7 mk7 (fun _ : LSt => [(0, ints w), (1, I sl), (8, .op n8 1 0 0), (9, .op n9 1 0 0), (154, I 0), (155, I 0)]) (fun z => stZ hB nm nb z) (PSt w sl hB nm nb n8 n9 x v μ (dnA w sl x (bitsN (w.length + 1) x.q).length)) (fun _ => 0) z' ⟨by simp [SatL, tget], Heap.le_refl _, hz'.imp ?_⟩ ?_
                          · rintro e (q | ⟨i, q, rfl⟩ | ⟨_, rfl⟩ | ⟨i, q, _⟩)
                            · exact .inl (.inl q)
                            · exact .inl (.inr ⟨i, q, rfl⟩)
                            · exact .inr rfl
                            · rw [hq0] at q; simp at q
                          exact key2.get
                        · refine loopA keep7 ib7 mk7 (fun _ : LSt => [(0, ints w), (1, I sl), (8, .op n8 1 0 0), (9, .op n9 1 0 0), (154, I 0), (155, I 0)]) (fun z => stZ hB nm nb z) (PSt w sl hB nm nb n8 n9 x v μ (dnA w sl x (bitsN (w.length + 1) x.q).length)) (fun _ => 0) z ⟨by simp [SatL, tget], Heap.le_refl _, hz.imp ?_⟩ ?_
                          · rintro e (q | ⟨i, q, rfl⟩ | ⟨q, _⟩ | ⟨i, q, _⟩)
                            · exact .inl q
                            · exact .inr ⟨i, q, rfl⟩
                            · rw [hq0] at q; exact absurd q hs0
                            · rw [hq0] at q; simp at q
                          exact key2.get
                      case t =>
                        intro z hz
                        have h00 : ¬ ((0 : Int) < 0) := by decide
                        simp (maxSteps := 1000000) -dsimp -implicitDefEqProofs only [go_sem, ↓reduceIte, keep7, ib7, mk7, Try.f7, h00]
                        obtain ⟨f1, f2⟩ := hz.fin ha hBA
                        exact ⟨z, stZ_leB hBA, f1, by omega⟩
                    | some r =>
                      obtain ⟨r4, r1, r2, r3⟩ := hrs
                      have hrn : ¬ n11 = r := fun e => by rw [← e, gB11] at r4; cases r4
                      have hz2 := hz.push r1 r2 r3 r4 (rowsI (natL (bitsN (w.length + 1) x.q)))
                      have gC : upd hB r (rowsI (natL (bitsN (w.length + 1) x.q))) n11 = some (.row 3 [[.v (I x.s), .v (I x.q), .v (I x.left)]]) := by rw [upd_ne _ _ _ _ hrn]; exact gB11
                      generalize hCe : upd hB r (rowsI (natL (bitsN (w.length + 1) x.q))) = hC at hz2 gC
                      have hCr : hC r = some (rowsI (natL (bitsN (w.length + 1) x.q))) := by rw [← hCe, upd_same]
                      have hAC : hA.le hC := by rw [← hCe]; exact Heap.le_upd (Heap.le_none hBA r4) hBA
                      simp (maxSteps := 1000000) -dsimp -implicitDefEqProofs only [go_sem, ↓reduceIte, keep7, ib7, mk7, Try.f7, oheap_some, oval_some, hlt', hb7, hCe, g11z _ _ gC hz2.ap, shl64' hoks.1, or64' hoks.2.1 hoks.1]
                      apply shareS
                      case m =>
                        intro key2
                        refine ⟨fun hs0 => ?_, fun hs0 => ?_⟩
                        · have he : ((⟨x.s, x.q ||| 2 ^ x.s, x.left⟩, 0) : It) ∈ succI w sl x := by
                            unfold succI; rw [if_pos hs0]; simp
                          have hrp := reachP hw hwl hz2 hwx h0v he
                          simp only [Int.add_zero] at hrp
                          refine HFnF.mkH hrp ?_
                          rintro _ _ ⟨z', rfl, hz'⟩
                          simp (maxSteps := 1000000) -dsimp -implicitDefEqProofs only [go_sem, ↓reduceIte, keep7, ib7, mk7, Try.f7, hb7]
                          refine loopA keep7 ib7 mk7 (fun y : Nat × LSt => [(0, ints w), (1, I sl), (8, .op n8 1 0 0), (9, .op n9 1 0 0), (11, .op n11 3 0 0), (12, I v), (13, .fn (.func 20) [] [.op n8 1 0 0, .op n9 1 0 0]), (153, .os r 1 0 (bitsN (w.length + 1) x.q).length), (154, I (bitsN (w.length + 1) x.q).length), (155, I y.1)]) (fun y => stZ hC nm nb y.2) (fun y => y.1 ≤ (bitsN (w.length + 1) x.q).length ∧ PSt w sl hC nm nb n8 n9 x v μ (dnA w sl x y.1) y.2) (fun y => (bitsN (w.length + 1) x.q).length - y.1) (0, z') ⟨by simp [SatL, tget], Heap.le_refl _, Nat.zero_le _, hz'.imp ?_⟩ ?_
                          · rintro e (q | ⟨i, q, rfl⟩ | ⟨_, rfl⟩ | ⟨i, q, _⟩)
                            · exact .inl (.inl q)
                            · exact .inl (.inr ⟨i, q, rfl⟩)
                            · exact .inr rfl
                            · simp at q
                          exact key2.get
                        · refine loopA keep7 ib7 mk7 (fun y : Nat × LSt => [(0, ints w), (1, I sl), (8, .op n8 1 0 0), (9, .op n9 1 0 0), (11, .op n11 3 0 0), (12, I v), (13, .fn (.func 20) [] [.op n8 1 0 0, .op n9 1 0 0]), (153, .os r 1 0 (bitsN (w.length + 1) x.q).length), (154, I (bitsN (w.length + 1) x.q).length), (155, I y.1)]) (fun y => stZ hC nm nb y.2) (fun y => y.1 ≤ (bitsN (w.length + 1) x.q).length ∧ PSt w sl hC nm nb n8 n9 x v μ (dnA w sl x y.1) y.2) (fun y => (bitsN (w.length + 1) x.q).length - y.1) (0, z) ⟨by simp [SatL, tget], Heap.le_refl _, Nat.zero_le _, hz2.imp ?_⟩ ?_
                          · rintro e (q | ⟨i, q, rfl⟩ | ⟨q, _⟩ | ⟨i, q, _⟩)
                            · exact .inl q
                            · exact .inr ⟨i, q, rfl⟩
                            · exact absurd q hs0
                            · simp at q
                          exact key2.get
                      case t =>
                        rintro ⟨j, z⟩ ⟨hj, hz⟩
                        simp only at hj hz ⊢
                        rcases Nat.lt_or_ge j (bitsN (w.length + 1) x.q).length with hjl | hjg
                        · have hjl' : (j : Int) < ((bitsN (w.length + 1) x.q).length : Int) := by omega
                          have gr : stZ hC nm nb z r = some (rowsI (natL (bitsN (w.length + 1) x.q))) := by
                            rw [stZ, stH_at r1 r2 (fun e => by have := hz.ap.z3; rw [← e, hCr] at this; cases this)]; exact hCr
                          have ej : (natL (bitsN (w.length + 1) x.q))[j]? = some (((bitsN (w.length + 1) x.q)[j] : Nat) : Int) := by
                            simp [natL, List.getElem?_eq_getElem hjl]
                          have hi := mem_bits.1 (List.getElem_mem hjl)
                          generalize hie : (bitsN (w.length + 1) x.q)[j] = i at ej hi
                          have hi8 : i < 8 := by omega
                          have ei : IntKind.i64.wrap ((j : Int) + 1) = ((j + 1 : Nat) : Int) := by rw [IntWalk.i64_in _ (by omega)]; rfl
                          simp (maxSteps := 1000000) -dsimp -implicitDefEqProofs only [go_sem, ↓reduceIte, keep7, ib7, mk7, Try.f7, hjl', gr, ej, g11z _ _ gC hz.ap, shl64' hoks.1, shl64' hi8, clr64' hoks.2.1 hi8, orc64' hoks.2.1 hoks.1 i]
                          have he : ((⟨x.s, clrB x.q i ||| 2 ^ x.s, x.left⟩, 0) : It) ∈ succI w sl x := by
                            unfold succI
                            simp only [List.mem_append, List.mem_map]
                            exact .inr ⟨i, mem_bits.2 hi, rfl⟩
                          have hrp := reachP hw hwl hz hwx h0v he
                          simp only [Int.add_zero] at hrp
                          refine HFnF.mkH hrp ?_
                          rintro _ _ ⟨z', rfl, hz'⟩
                          simp (maxSteps := 1000000) -dsimp -implicitDefEqProofs only [go_sem, ↓reduceIte, keep7, ib7, mk7, Try.f7, ei]
                          refine ⟨(j + 1, z'), rfl, Heap.le_refl _, ⟨by simp only; omega, hz'.imp ?_⟩, by simp only; omega⟩
                          rintro e (q | q | q | ⟨i', q, rfl⟩)
                          · exact .inl (.inl q)
                          · exact .inl (.inr (.inl q))
                          · exact .inl (.inr (.inr (.inl q)))
                          · rw [List.take_succ_eq_append_getElem hjl, hie, List.mem_append, List.mem_singleton] at q
                            rcases q with q | rfl
                            · exact .inl (.inr (.inr (.inr ⟨i', q, rfl⟩)))
                            · exact .inr rfl
                        · have hjl' : ¬ (j : Int) < ((bitsN (w.length + 1) x.q).length : Int) := by omega
                          obtain rfl : j = (bitsN (w.length + 1) x.q).length := by omega
                          simp (maxSteps := 1000000) -dsimp -implicitDefEqProofs only [go_sem, ↓reduceIte, keep7, ib7, mk7, Try.f7, hjl']
                          obtain ⟨f1, f2⟩ := hz.fin ha hAC
                          exact ⟨z, stZ_leB hAC, f1, by omega⟩
    · rw [if_pos hs]
      simp (maxSteps := 1000000) -dsimp -implicitDefEqProofs only [go_sem, ↓reduceIte, keep7, ib7, mk7, Try.f7]
      rw [srcRes, if_neg (not_not_intro hw), if_pos (by omega)]
  · rw [if_pos hw]
    simp (maxSteps := 1000000) -dsimp -implicitDefEqProofs only [go_sem, ↓reduceIte, keep7, ib7, mk7, Try.f7]
    rw [srcRes, if_pos hw]

@[go_sem] def keep6 : List Nat := [0, 2, 3, 4, 11]
@[go_sem] def ib6 : List Nat := []
@[go_sem] def mk6 : Marks := fun _ => ([], .nil, [])
set_option maxRecDepth 100000 in
theorem to_Int64S (l : List Int) (h1 : l.length ≤ 1048576) : Fn0 Try.prog 6 [(sls 1 (fun n => [I n]) l)] (sls 1 (fun n => [I n]) l) := by
  refine fn0B 22 keep6 ib6 mk6 Try.func6 fun h => ?_
  simp -dsimp -implicitDefEqProofs only [go_sem, Try.f6, ↓reduceIte, keep6, ib6, mk6]
  refine fun _ => ⟨by omega, by omega, by omega, by omega, fun n hn => ?_⟩
  refine loopA keep6 ib6 mk6 (fun k : Nat => [(0, (sls 1 (fun n => [I n]) l)), (3, .os n 1 0 l.length), (4, I k)]) (fun k => upd h n (.row 1 (fillUp (fun n => [I n]) [.int .i64 0] l k))) (fun k => k ≤ l.length) (fun k => l.length - k) 0 (by simp [SatL, tget, Heap.le_refl, fillUp_zero]) ?_
  intro k hk
  rcases Nat.lt_or_ge k l.length with hlt | hge
  · have ea : l[k]? = some l[k] := List.getElem?_eq_getElem hlt
    simp -dsimp -implicitDefEqProofs only [go_sem, ↓reduceIte, keep6, ib6, mk6, Try.f6, ea, fillUp_get _ _ _ _ hlt]
    refine fun _ => ⟨fun _ => ⟨hlt, hlt, k + 1, by rw [IntWalk.i64_in _ (by omega)]; rfl, ?_, by omega, by omega⟩, fun hn => absurd hlt hn⟩
    exact le_fill hlt rfl
  · have hk' : k = l.length := by omega
    subst hk'
    simp -dsimp -implicitDefEqProofs only [go_sem, ↓reduceIte, keep6, ib6, mk6, Try.f6, Nat.lt_irrefl]
    rw [fillUp_all]
    exact fun _ => shift_row _ hn (Heap.le_refl _) _ (by simp)


@[go_sem] def keep8 : List Nat := [0, 1, 4, 5, 10, 14, 25]
@[go_sem] def ib8 : List Nat := []
@[go_sem] def mk8 : Marks := fun id => match id with | 6 => ([], (.op 0 (.op 1 (.op 2 (.op 3 (.op 4 (.op 5 (.op 6 (.op 7 (.op 8 .nil))))))))), []) | _ => ([], .nil, [])
set_option maxRecDepth 100000 in
theorem eq_Int64S (a b : List Int) : Fn0 Try.prog 8 [(sls 1 (fun n => [I n]) a), (sls 1 (fun n => [I n]) b)] (.bool (decide (a = b))) := by
  refine fn0A 26 keep8 ib8 mk8 Try.func8 fun h => ?_
  simp -dsimp -implicitDefEqProofs only [go_sem, Try.f8, ↓reduceIte, keep8, ib8, mk8]
  refine fun _ _ => ⟨fun hne => ?_, fun heq => ?_⟩
  · exact (decide_eq_false fun e => hne (by rw [e])).symm
  · refine loopA keep8 ib8 mk8 (fun k : Nat => [(0, (sls 1 (fun n => [I n]) a)), (1, (sls 1 (fun n => [I n]) b)), (5, I k)]) (fun _ => h) (fun k => k ≤ a.length ∧ a.take k = b.take k) (fun k => a.length - k) 0 (by simp [SatL, tget, Heap.le_refl]) ?_
    intro k ⟨hk, hp⟩
    rcases Nat.lt_or_ge k a.length with hlt | hge
    · have hlb : k < b.length := by omega
      have ea : a[k]? = some a[k] := List.getElem?_eq_getElem hlt
      have eb : b[k]? = some b[k] := List.getElem?_eq_getElem hlb
      simp -dsimp -implicitDefEqProofs only [go_sem, ↓reduceIte, keep8, ib8, mk8, Try.f8, ea, eb]
      refine fun _ => ⟨fun _ => ⟨hlt, hlb, fun hne => ?_, fun he => ?_⟩, fun hn => absurd hlt hn⟩
      · first
          | exact (decide_eq_false fun e => hne (getElem_of_eq e hlt)).symm
          | exact (decide_eq_false fun e => by have := getElem_of_eq e hlt (hb := hlb); rw [this] at hne; simp at hne).symm
      · exact ⟨k + 1, by rw [IntWalk.i64_in _ (by omega)]; rfl, ⟨by omega, take_step hlt hlb hp (by first | exact he | simpa using he)⟩, by omega⟩
    · have hk' : k = a.length := by omega
      subst hk'
      simp -dsimp -implicitDefEqProofs only [go_sem, ↓reduceIte, keep8, ib8, mk8, Try.f8, Nat.lt_irrefl]
      exact fun _ => (decide_eq_true (eq_of_take heq hp)).symm

@[go_sem] def keep3 : List Nat := [0, 1, 4, 5, 6, 7, 8, 9, 12, 35, 40]
@[go_sem] def ib3 : List Nat := []
@[go_sem] def mk3 : Marks := fun _ => ([], .nil, [])
theorem law_SearchCost (a0 : List Int) (a1 : Int) : Fn0 Try.prog 3 [ints a0, I a1] (.bool true) := by
  refine fn0A 41 keep3 ib3 mk3 Try.func3 fun h => ?_
  simp (maxSteps := 1000000) -dsimp -implicitDefEqProofs only [go_sem, ↓reduceIte, keep3, ib3, mk3, Try.f3]
  intro hml h1
  have hl : a0.length ≤ 1048576 := by omega
  first | refine HFnF.mk (to_Int64S a0 hl) ?_ | refine CallSF.mk (to_Int64S a0 hl) ?_ | refine HFnF.mkAt (to_Int64S a0 hl) ?_ | refine CallSF.mk (FnAt.fn0 (to_Int64S a0 hl)) ?_
  simp (maxSteps := 1000000) -dsimp -implicitDefEqProofs only [go_sem, ↓reduceIte, keep3, ib3, mk3, Try.f3]
  first | refine HFnF.mk (specSearchCost a0 a1) ?_ | refine CallSF.mk (specSearchCost a0 a1) ?_ | refine HFnF.mkAt (specSearchCost a0 a1) ?_ | refine CallSF.mk (FnAt.fn0 (specSearchCost a0 a1)) ?_
  simp (maxSteps := 1000000) -dsimp -implicitDefEqProofs only [go_sem, ↓reduceIte, keep3, ib3, mk3, Try.f3]
  first | refine HFnF.mk (to_Int64S a0 hl) ?_ | refine CallSF.mk (to_Int64S a0 hl) ?_ | refine HFnF.mkAt (to_Int64S a0 hl) ?_ | refine CallSF.mk (FnAt.fn0 (to_Int64S a0 hl)) ?_
  simp (maxSteps := 1000000) -dsimp -implicitDefEqProofs only [go_sem, ↓reduceIte, keep3, ib3, mk3, Try.f3]
  first | refine HFnF.mk (SearchCost a0 a1) ?_ | refine CallSF.mk (SearchCost a0 a1) ?_ | refine HFnF.mkAt (SearchCost a0 a1) ?_ | refine CallSF.mk (FnAt.fn0 (SearchCost a0 a1)) ?_
  simp (maxSteps := 1000000) -dsimp -implicitDefEqProofs only [go_sem, ↓reduceIte, keep3, ib3, mk3, Try.f3]
  first | refine HFnF.mk (to_Int64S a0 hl) ?_ | refine CallSF.mk (to_Int64S a0 hl) ?_ | refine HFnF.mkAt (to_Int64S a0 hl) ?_ | refine CallSF.mk (FnAt.fn0 (to_Int64S a0 hl)) ?_
  simp (maxSteps := 1000000) -dsimp -implicitDefEqProofs only [go_sem, ↓reduceIte, keep3, ib3, mk3, Try.f3]
  first | refine HFnF.mk (eq_Int64S a0 a0) ?_ | refine CallSF.mk (eq_Int64S a0 a0) ?_ | refine HFnF.mkAt (eq_Int64S a0 a0) ?_ | refine CallSF.mk (FnAt.fn0 (eq_Int64S a0 a0)) ?_
  simp (maxSteps := 1000000) -dsimp -implicitDefEqProofs only [go_sem, ↓reduceIte, keep3, ib3, mk3, Try.f3]
theorem dat_i64 {P : Program} {n : Nat} {t : TypeId} {xs : List HVal} (hu : P.underlying t = some (.int .i64)) (h : Dat P n t xs) : ∃ i : Int, xs = [I i] ∧ InI i := by
  match n, h with
  | 0, h => exact h.elim
  | n + 1, h =>
    simp only [Dat, hu] at h
    obtain ⟨i, rfl, hw⟩ := h
    refine ⟨i, rfl, ?_⟩
    have h1 : IntKind.min .i64 = -9223372036854775808 := by decide
    have h2 : IntKind.max .i64 = 9223372036854775807 := by decide
    simp [Lit.wf, IntKind.has, h1, h2] at hw
    unfold InI
    omega
theorem list_of {α : Type} {c : α → List HVal} {w : α → Prop} : ∀ {es : List (List HVal)}, (∀ y ∈ es, ∃ x, y = c x ∧ w x) → ∃ l : List α, es = l.map c ∧ ∀ x ∈ l, w x
  | [], _ => ⟨[], rfl, by simp⟩
  | e :: es, h => by
    obtain ⟨x, rfl, hx⟩ := h _ List.mem_cons_self
    obtain ⟨l, rfl, hl⟩ := list_of fun y hy => h y (List.mem_cons_of_mem _ hy)
    refine ⟨x :: l, rfl, fun y hy => ?_⟩
    rcases List.mem_cons.1 hy with rfl | hy
    · exact hx
    · exact hl y hy
theorem dat_slice {P : Program} {n sz : Nat} {t e : TypeId} {α : Type} {c : α → List HVal} {w : α → Prop} {xs : List HVal} (hu : P.underlying t = some (.slice e)) (hc : P.cellsOf e = sz) (h : Dat P n t xs)
    (hx : ∀ m y, m < n → Dat P m e y → ∃ x, y = c x ∧ w x) : ∃ l : List α, xs = [sls sz c l] ∧ ∀ x ∈ l, w x := by
  match n, h with
  | 0, h => exact h.elim
  | n + 1, h =>
    simp only [Dat, hu] at h
    obtain ⟨es, rfl, hes⟩ := h
    obtain ⟨l, rfl, hl⟩ := list_of fun y hy => hx n y (by omega) (hes y hy)
    exact ⟨l, by rw [hc], hl⟩
theorem cells2 : Try.prog.cellsOf 2 = 1 := by kernel_rfl
def datT : List TypeId := [2, 5, 22, 28]
theorem datT_ok : datB Try.prog datT = true := by kernel_rfl

end Go.Hl

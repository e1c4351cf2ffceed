/-
  Contracts of functions and laws of the layer over the walk.
-/
import Derived.Test.YtcpocmbgibafdaaVvA
import Derived.Test.YtcpocmbgibafdaaHlD
namespace Go.Hl
open Go.Proofs
set_option linter.unusedVariables false
set_option linter.unusedSimpArgs false
def frH (hA : Heap) (nb m n : Nat) (l : List It) : Heap := upd (upd hA nb (frB m n)) m (rowT l)
abbrev itI (x : It) : HVal := .iface 45 (.agg (itC x))
@[go_sem] def keep58 : List Nat := [0, 1]
@[go_sem] def ib58 : List Nat := [10]
@[go_sem] def mk58 : Marks := fun id => match id with | 0 => ([3, 5, 7, 9], (.op 0 (.op 1 (.op 2 (.op 4 (.op 3 (.op 5 (.op 6 (.op 7 (.op 8 (.op 9 .nil)))))))))), [(3, 5)]) | _ => ([], .nil, [])
theorem fPush {hA : Heap} {nb m n : Nat} {l : List It} (hnm : ¬ nb = m) (hn : n ≤ l.length) (hn2 : n < 4398046511103) (hA1 : hA m = none) (x : It) :
    HFn Try.prog 58 [.op nb 1 0 0, itI x] (frH hA nb m n l) fun _ h' => ∃ b, ¬ nb = b ∧ hA b = none ∧ h' = frH hA nb b (n + 1) (l.take n ++ [x]) := by
  have d_nb_m : ¬ nb = m := hnm
  have d_m_nb : ¬ m = nb := Ne.symm d_nb_m
  have e_nb_m : (nb = m) = False := eq_false d_nb_m
  have e_m_nb : (m = nb) = False := eq_false d_m_nb
  unfold frH
  refine fnHA 13 keep58 ib58 mk58 Try.func58 ?_
  simp (maxSteps := 1000000) -dsimp -implicitDefEqProofs only [go_sem, ↓reduceIte, keep58, ib58, mk58, Try.f58, upd_ne, e_nb_m, e_m_nb, itC_eq]
  repeat' (with_reducible first | intro _ | refine And.intro ?_ ?_)
  all_goals try omega
  rename_i b hb
  revert hb; revert b
  intro b q_b
  have d_b_nb : ¬ b = nb := by first | exact q_b.1 | exact q_b | exact q_b.2.1 | exact q_b.2 | exact q_b.2.2.1 | exact q_b.2.2 | exact q_b.2.2.2.1 | exact q_b.2.2.2 | exact q_b.2.2.2.2.1 | exact q_b.2.2.2.2 | exact q_b.2.2.2.2.2.1 | exact q_b.2.2.2.2.2 | exact q_b.2.2.2.2.2.2.1 | exact q_b.2.2.2.2.2.2 | exact q_b.2.2.2.2.2.2.2.1 | exact q_b.2.2.2.2.2.2.2 | exact q_b.2.2.2.2.2.2.2.2.1 | exact q_b.2.2.2.2.2.2.2.2 | exact q_b.2.2.2.2.2.2.2.2.2.1 | exact q_b.2.2.2.2.2.2.2.2.2 | exact q_b.2.2.2.2.2.2.2.2.2.2.1 | exact q_b.2.2.2.2.2.2.2.2.2.2 | exact q_b.2.2.2.2.2.2.2.2.2.2.2.1 | exact q_b.2.2.2.2.2.2.2.2.2.2.2 | exact q_b.2.2.2.2.2.2.2.2.2.2.2.2.1 | exact q_b.2.2.2.2.2.2.2.2.2.2.2.2 | exact q_b.2.2.2.2.2.2.2.2.2.2.2.2.2.1 | exact q_b.2.2.2.2.2.2.2.2.2.2.2.2.2
  have e_b_nb : (b = nb) = False := eq_false d_b_nb
  have e_nb_b : (nb = b) = False := eq_false (Ne.symm d_b_nb)
  have d_nb_b : ¬ nb = b := Ne.symm d_b_nb
  have d_b_m : ¬ b = m := by first | exact q_b.1 | exact q_b | exact q_b.2.1 | exact q_b.2 | exact q_b.2.2.1 | exact q_b.2.2 | exact q_b.2.2.2.1 | exact q_b.2.2.2 | exact q_b.2.2.2.2.1 | exact q_b.2.2.2.2 | exact q_b.2.2.2.2.2.1 | exact q_b.2.2.2.2.2 | exact q_b.2.2.2.2.2.2.1 | exact q_b.2.2.2.2.2.2 | exact q_b.2.2.2.2.2.2.2.1 | exact q_b.2.2.2.2.2.2.2 | exact q_b.2.2.2.2.2.2.2.2.1 | exact q_b.2.2.2.2.2.2.2.2 | exact q_b.2.2.2.2.2.2.2.2.2.1 | exact q_b.2.2.2.2.2.2.2.2.2 | exact q_b.2.2.2.2.2.2.2.2.2.2.1 | exact q_b.2.2.2.2.2.2.2.2.2.2 | exact q_b.2.2.2.2.2.2.2.2.2.2.2.1 | exact q_b.2.2.2.2.2.2.2.2.2.2.2 | exact q_b.2.2.2.2.2.2.2.2.2.2.2.2.1 | exact q_b.2.2.2.2.2.2.2.2.2.2.2.2 | exact q_b.2.2.2.2.2.2.2.2.2.2.2.2.2.1 | exact q_b.2.2.2.2.2.2.2.2.2.2.2.2.2
  have e_b_m : (b = m) = False := eq_false d_b_m
  have e_m_b : (m = b) = False := eq_false (Ne.symm d_b_m)
  have d_m_b : ¬ m = b := Ne.symm d_b_m
  have z_b : hA b = none := by first | exact q_b.1 | exact q_b | exact q_b.2.1 | exact q_b.2 | exact q_b.2.2.1 | exact q_b.2.2 | exact q_b.2.2.2.1 | exact q_b.2.2.2 | exact q_b.2.2.2.2.1 | exact q_b.2.2.2.2 | exact q_b.2.2.2.2.2.1 | exact q_b.2.2.2.2.2 | exact q_b.2.2.2.2.2.2.1 | exact q_b.2.2.2.2.2.2 | exact q_b.2.2.2.2.2.2.2.1 | exact q_b.2.2.2.2.2.2.2 | exact q_b.2.2.2.2.2.2.2.2.1 | exact q_b.2.2.2.2.2.2.2.2 | exact q_b.2.2.2.2.2.2.2.2.2.1 | exact q_b.2.2.2.2.2.2.2.2.2 | exact q_b.2.2.2.2.2.2.2.2.2.2.1 | exact q_b.2.2.2.2.2.2.2.2.2.2 | exact q_b.2.2.2.2.2.2.2.2.2.2.2.1 | exact q_b.2.2.2.2.2.2.2.2.2.2.2 | exact q_b.2.2.2.2.2.2.2.2.2.2.2.2.1 | exact q_b.2.2.2.2.2.2.2.2.2.2.2.2 | exact q_b.2.2.2.2.2.2.2.2.2.2.2.2.2.1 | exact q_b.2.2.2.2.2.2.2.2.2.2.2.2.2
  simp (maxSteps := 1000000) -dsimp -implicitDefEqProofs only [go_sem, ↓reduceIte, keep58, ib58, mk58, Try.f58, upd_ne, e_b_nb, e_b_m, e_nb_b, e_nb_m, e_m_b, e_m_nb]
  refine ⟨_, ?_, b, d_nb_b, z_b, rfl⟩
  have er : (List.take n ((l.map itC).map (List.map Cell.v)) ++ [[Cell.v (I x.1.s), Cell.v (I x.1.q), Cell.v (I x.1.left), Cell.v (I x.2)]]) = ((l.take n ++ [x]).map itC).map (List.map Cell.v) := by simp [itC_eq, List.map_take]
  simp only [er]
  exact (by intro q_; simp only [upd_get, oheap_none, oheap_some, onil_none, onil_some, List.length_nil]; grind)
@[go_sem] def keep57 : List Nat := [0, 2, 3, 4]
@[go_sem] def ib57 : List Nat := []
@[go_sem] def mk57 : Marks := fun _ => ([], .nil, [])
theorem fPop {hA : Heap} {nb m n : Nat} {l : List It} (hnm : ¬ nb = m) (hn0 : 0 < n) (hn : n ≤ l.length) (hn2 : n < 4398046511103) (hA1 : hA nb = none) (hA2 : hA m = none) :
    HFn Try.prog 57 [.op nb 1 0 0] (frH hA nb m n l) fun r h' => r = itI (l[n - 1]'(by omega)) ∧ h' = frH hA nb m (n - 1) l := by
  have d_nb_m : ¬ nb = m := hnm
  have d_m_nb : ¬ m = nb := Ne.symm d_nb_m
  have e_nb_m : (nb = m) = False := eq_false d_nb_m
  have e_m_nb : (m = nb) = False := eq_false d_m_nb
  have en : IntKind.i64.wrap ((n : Int) - 1) = ((n - 1 : Nat) : Int) := by rw [IntWalk.i64_in _ (by omega)]; omega
  have el : l[n - 1]? = some (l[n - 1]'(by omega)) := List.getElem?_eq_getElem _
  unfold frH
  refine fnHA 25 keep57 ib57 mk57 Try.func57 ?_
  simp (maxSteps := 1000000) -dsimp -implicitDefEqProofs only [go_sem, ↓reduceIte, keep57, ib57, mk57, Try.f57, upd_ne, e_nb_m, e_m_nb, itC_eq, en, el, Int.toNat_natCast]
  repeat' (with_reducible first | intro _ | refine And.intro ?_ ?_)
  · omega
  rename_i b hb
  revert hb; revert b
  intro b q_b
  have d_b_nb : ¬ b = nb := by first | exact q_b.1 | exact q_b | exact q_b.2.1 | exact q_b.2 | exact q_b.2.2.1 | exact q_b.2.2 | exact q_b.2.2.2.1 | exact q_b.2.2.2 | exact q_b.2.2.2.2.1 | exact q_b.2.2.2.2 | exact q_b.2.2.2.2.2.1 | exact q_b.2.2.2.2.2 | exact q_b.2.2.2.2.2.2.1 | exact q_b.2.2.2.2.2.2 | exact q_b.2.2.2.2.2.2.2.1 | exact q_b.2.2.2.2.2.2.2 | exact q_b.2.2.2.2.2.2.2.2.1 | exact q_b.2.2.2.2.2.2.2.2 | exact q_b.2.2.2.2.2.2.2.2.2.1 | exact q_b.2.2.2.2.2.2.2.2.2 | exact q_b.2.2.2.2.2.2.2.2.2.2.1 | exact q_b.2.2.2.2.2.2.2.2.2.2 | exact q_b.2.2.2.2.2.2.2.2.2.2.2.1 | exact q_b.2.2.2.2.2.2.2.2.2.2.2 | exact q_b.2.2.2.2.2.2.2.2.2.2.2.2.1 | exact q_b.2.2.2.2.2.2.2.2.2.2.2.2 | exact q_b.2.2.2.2.2.2.2.2.2.2.2.2.2.1 | exact q_b.2.2.2.2.2.2.2.2.2.2.2.2.2
  have e_b_nb : (b = nb) = False := eq_false d_b_nb
  have e_nb_b : (nb = b) = False := eq_false (Ne.symm d_b_nb)
  have d_nb_b : ¬ nb = b := Ne.symm d_b_nb
  have d_b_m : ¬ b = m := by first | exact q_b.1 | exact q_b | exact q_b.2.1 | exact q_b.2 | exact q_b.2.2.1 | exact q_b.2.2 | exact q_b.2.2.2.1 | exact q_b.2.2.2 | exact q_b.2.2.2.2.1 | exact q_b.2.2.2.2 | exact q_b.2.2.2.2.2.1 | exact q_b.2.2.2.2.2 | exact q_b.2.2.2.2.2.2.1 | exact q_b.2.2.2.2.2.2 | exact q_b.2.2.2.2.2.2.2.1 | exact q_b.2.2.2.2.2.2.2 | exact q_b.2.2.2.2.2.2.2.2.1 | exact q_b.2.2.2.2.2.2.2.2 | exact q_b.2.2.2.2.2.2.2.2.2.1 | exact q_b.2.2.2.2.2.2.2.2.2 | exact q_b.2.2.2.2.2.2.2.2.2.2.1 | exact q_b.2.2.2.2.2.2.2.2.2.2 | exact q_b.2.2.2.2.2.2.2.2.2.2.2.1 | exact q_b.2.2.2.2.2.2.2.2.2.2.2 | exact q_b.2.2.2.2.2.2.2.2.2.2.2.2.1 | exact q_b.2.2.2.2.2.2.2.2.2.2.2.2 | exact q_b.2.2.2.2.2.2.2.2.2.2.2.2.2.1 | exact q_b.2.2.2.2.2.2.2.2.2.2.2.2.2
  have e_b_m : (b = m) = False := eq_false d_b_m
  have e_m_b : (m = b) = False := eq_false (Ne.symm d_b_m)
  have d_m_b : ¬ m = b := Ne.symm d_b_m
  have z_b : hA b = none := by first | exact q_b.1 | exact q_b | exact q_b.2.1 | exact q_b.2 | exact q_b.2.2.1 | exact q_b.2.2 | exact q_b.2.2.2.1 | exact q_b.2.2.2 | exact q_b.2.2.2.2.1 | exact q_b.2.2.2.2 | exact q_b.2.2.2.2.2.1 | exact q_b.2.2.2.2.2 | exact q_b.2.2.2.2.2.2.1 | exact q_b.2.2.2.2.2.2 | exact q_b.2.2.2.2.2.2.2.1 | exact q_b.2.2.2.2.2.2.2 | exact q_b.2.2.2.2.2.2.2.2.1 | exact q_b.2.2.2.2.2.2.2.2 | exact q_b.2.2.2.2.2.2.2.2.2.1 | exact q_b.2.2.2.2.2.2.2.2.2 | exact q_b.2.2.2.2.2.2.2.2.2.2.1 | exact q_b.2.2.2.2.2.2.2.2.2.2 | exact q_b.2.2.2.2.2.2.2.2.2.2.2.1 | exact q_b.2.2.2.2.2.2.2.2.2.2.2 | exact q_b.2.2.2.2.2.2.2.2.2.2.2.2.1 | exact q_b.2.2.2.2.2.2.2.2.2.2.2.2 | exact q_b.2.2.2.2.2.2.2.2.2.2.2.2.2.1 | exact q_b.2.2.2.2.2.2.2.2.2.2.2.2.2
  simp (maxSteps := 1000000) -dsimp -implicitDefEqProofs only [go_sem, ↓reduceIte, keep57, ib57, mk57, Try.f57, upd_ne, e_b_nb, e_b_m, e_nb_b, e_nb_m, e_m_b, e_m_nb, en, el, Int.toNat_natCast]
  refine ⟨⟨by omega, by omega⟩, by omega, _, ?_, rfl, rfl⟩
  rw [Nat.sub_zero]
  exact (by intro q_; simp only [upd_get, oheap_none, oheap_some, onil_none, onil_some, List.length_nil]; grind)
@[go_sem] def keep21 : List Nat := [0, 1]
@[go_sem] def ib21 : List Nat := []
@[go_sem] def mk21 : Marks := fun _ => ([], .nil, [])
theorem hpPush {hA : Heap} {nb m n : Nat} {l : List It} (hnm : ¬ nb = m) (hn : n ≤ l.length) (hn2 : n < 4398046511103) (hA1 : hA m = none) (x : It) (hH : HeapOK (cst l) n) :
    HFn Try.prog 21 [hpI nb, itI x] (frH hA nb m n l) fun _ h' => ∃ b l', ¬ nb = b ∧ hA b = none ∧ l'.Perm (l.take n ++ [x]) ∧ HeapOK (cst l') (n + 1) ∧ l'.length = n + 1 ∧ h' = frH hA nb b (n + 1) l' := by
  have d_nb_m : ¬ nb = m := hnm
  have d_m_nb : ¬ m = nb := Ne.symm d_nb_m
  have e_nb_m : (nb = m) = False := eq_false d_nb_m
  have e_m_nb : (m = nb) = False := eq_false d_m_nb
  refine fnHA 12 keep21 ib21 mk21 Try.func21 ?_
  simp (maxSteps := 1000000) -dsimp -implicitDefEqProofs only [go_sem, ↓reduceIte, keep21, ib21, mk21, Try.f21]
  refine HFnF.mkH (fPush hnm hn hn2 hA1 x) ?_
  rintro _ _ ⟨b, hnb, hb0, rfl⟩
  have d_nb_b : ¬ nb = b := hnb
  have d_b_nb : ¬ b = nb := Ne.symm d_nb_b
  have e_nb_b : (nb = b) = False := eq_false d_nb_b
  have e_b_nb : (b = nb) = False := eq_false d_b_nb
  have en : IntKind.i64.wrap (((n + 1 : Nat) : Int) - 1) = (n : Int) := by rw [IntWalk.i64_in _ (by omega)]; omega
  have hl1 : (l.take n ++ [x]).length = n + 1 := by rw [List.length_append, List.length_take]; simp; omega
  have hgb : frH hA nb b (n + 1) (l.take n ++ [x]) nb = some (frB b (n + 1)) := by unfold frH; rw [upd_ne _ _ _ _ hnb, upd_same]
  have hgm : frH hA nb b (n + 1) (l.take n ++ [x]) b = some (rowT (l.take n ++ [x])) := by unfold frH; rw [upd_same]
  simp (maxSteps := 1000000) -dsimp -implicitDefEqProofs only [go_sem, ↓reduceIte, keep21, ib21, mk21, Try.f21, hgb]
  first | refine HFnF.mk (fLen b (n + 1)) ?_ | refine CallSF.mk (fLen b (n + 1)) ?_ | refine HFnF.mkAt (fLen b (n + 1)) ?_ | refine CallSF.mk (FnAt.fn0 (fLen b (n + 1))) ?_
  simp (maxSteps := 1000000) -dsimp -implicitDefEqProofs only [go_sem, ↓reduceIte, keep21, ib21, mk21, Try.f21, en]
  have hc : ∀ i, i < n → cst (l.take n ++ [x]) i = cst l i := fun i hi => by
    unfold cst
    rw [List.getElem?_append_left (by rw [List.length_take]; omega), List.getElem?_take, if_pos hi]
  have hu : UpOK (cst (l.take n ++ [x])) (n + 1) n := by
    refine ⟨fun i h0 h1 h2 => ?_, fun i h0 h1 h2 h3 => ?_⟩
    · have := par_lt h0
      rw [hc i (by omega), hc _ (by omega)]; exact hH i h0 (by omega)
    · have := par_lt h0; omega
  refine HFnF.mkH (hpUp hnb hgb hgm (by omega) (by omega) (by omega) hu) ?_
  rintro _ _ ⟨l', p1, p2, p3, rfl⟩
  simp (maxSteps := 1000000) -dsimp -implicitDefEqProofs only [go_sem, ↓reduceIte, keep21, ib21, mk21, Try.f21]
  refine ⟨_, Heap.le_refl _, b, l', hnb, hb0, p1, p3, by omega, ?_⟩
  unfold frH
  rw [upd_upd]
@[go_sem] def keep19 : List Nat := [0, 2, 3]
@[go_sem] def ib19 : List Nat := []
@[go_sem] def mk19 : Marks := fun _ => ([], .nil, [])
theorem hpPop {hA : Heap} {nb m n : Nat} {l : List It} (hnm : ¬ nb = m) (hn0 : 0 < n) (hn : n ≤ l.length) (hn2 : n < 4398046511103) (hA1 : hA nb = none) (hA2 : hA m = none) (hH : HeapOK (cst l) n) :
    HFn Try.prog 19 [hpI nb] (frH hA nb m n l) fun r h' => ∃ x l', r = itI x ∧ (l.take n).Perm (x :: l'.take (n - 1)) ∧ (∀ y ∈ l.take n, x.2 ≤ y.2) ∧ HeapOK (cst l') (n - 1) ∧ l'.length = l.length ∧ h' = frH hA nb m (n - 1) l' := by
  have d_nb_m : ¬ nb = m := hnm
  have d_m_nb : ¬ m = nb := Ne.symm d_nb_m
  have e_nb_m : (nb = m) = False := eq_false d_nb_m
  have e_m_nb : (m = nb) = False := eq_false d_m_nb
  have hgb : frH hA nb m n l nb = some (frB m n) := by unfold frH; rw [upd_ne _ _ _ _ hnm, upd_same]
  have hgm : frH hA nb m n l m = some (rowT l) := by unfold frH; rw [upd_same]
  have en : IntKind.i64.wrap ((n : Int) - 1) = ((n - 1 : Nat) : Int) := by rw [IntWalk.i64_in _ (by omega)]; omega
  refine fnHA 15 keep19 ib19 mk19 Try.func19 ?_
  simp (maxSteps := 1000000) -dsimp -implicitDefEqProofs only [go_sem, ↓reduceIte, keep19, ib19, mk19, Try.f19, hgb]
  first | refine HFnF.mk (fLen m n) ?_ | refine CallSF.mk (fLen m n) ?_ | refine HFnF.mkAt (fLen m n) ?_ | refine CallSF.mk (FnAt.fn0 (fLen m n)) ?_
  simp (maxSteps := 1000000) -dsimp -implicitDefEqProofs only [go_sem, ↓reduceIte, keep19, ib19, mk19, Try.f19, en, hgb]
  refine HFnF.mkH (fSwap (i := 0) (j := n - 1) hgm hn0 (by omega) hn) ?_
  rintro _ _ rfl
  have hh : upd (frH hA nb m n l) m (rowT (swL l 0 (n - 1))) = frH hA nb m n (swL l 0 (n - 1)) := by unfold frH; rw [upd_upd]
  have hgb1 : frH hA nb m n (swL l 0 (n - 1)) nb = some (frB m n) := by unfold frH; rw [upd_ne _ _ _ _ hnm, upd_same]
  have hgm1 : frH hA nb m n (swL l 0 (n - 1)) m = some (rowT (swL l 0 (n - 1))) := by unfold frH; rw [upd_same]
  have hsl := swL_len l 0 (n - 1)
  rw [hh]
  simp (maxSteps := 1000000) -dsimp -implicitDefEqProofs only [go_sem, ↓reduceIte, keep19, ib19, mk19, Try.f19]
  have hself : ∀ (l : List It) (i : Nat), i < l.length → swL l i i = l := fun l i hi => by rw [swL_eq hi hi]; simp
  have hcs : ∀ k, k < n - 1 → 0 < k → cst (swL l 0 (n - 1)) k = cst l k := fun k h1 h2 => by
    rw [cst_sw (by omega) (by omega) (by omega)]
    unfold swC
    rw [if_neg (by omega), if_neg (by omega)]
  have hdn : DownOK (cst (swL l 0 (n - 1))) (n - 1) 0 := by
    refine ⟨fun i h0 h1 h2 => ?_, fun i h0 h1 h2 h3 => absurd h3 (by omega)⟩
    have := par_lt h0
    rw [hcs i h1 h0, hcs _ (by omega) (by omega)]
    exact hH i h0 (by omega)
  refine HFnF.mkH (hpDown (n := n - 1) (n' := n) (j := 0) hnm hgb1 hgm1 (by omega) (by omega) (by omega) (by omega) hdn) ?_
  rintro _ _ ⟨l2, p1, p2, p3, p4, rfl⟩
  have hh2 : upd (frH hA nb m n (swL l 0 (n - 1))) m (rowT l2) = frH hA nb m n l2 := by unfold frH; rw [upd_upd]
  rw [hh2]
  simp (maxSteps := 1000000) -dsimp -implicitDefEqProofs only [go_sem, ↓reduceIte, keep19, ib19, mk19, Try.f19]
  refine HFnF.mkH (fPop (l := l2) hnm hn0 (by omega) hn2 hA1 hA2) ?_
  rintro _ _ ⟨rfl, rfl⟩
  simp (maxSteps := 1000000) -dsimp -implicitDefEqProofs only [go_sem, ↓reduceIte, keep19, ib19, mk19, Try.f19]
  have hl0 : l2[n - 1]'(by omega) = l[0]'(by omega) := by
    have h1 : (l2.drop (n - 1))[0]? = ((swL l 0 (n - 1)).drop (n - 1))[0]? := by rw [p2]
    rw [List.getElem?_drop, List.getElem?_drop, Nat.add_zero, List.getElem?_eq_getElem (by omega), List.getElem?_eq_getElem (by omega)] at h1
    rw [Option.some.inj h1]
    have : (swL l 0 (n - 1))[n - 1]? = some (l[0]'(by omega)) := by
      rw [swL_eq (by omega) (by omega), List.getElem?_set_self (by simp; omega)]
    rw [List.getElem?_eq_getElem (by omega)] at this
    exact Option.some.inj this
  rw [hl0]
  refine ⟨_, Heap.le_refl _, l[0]'(by omega), l2, rfl, ?_, ?_, p4, by omega, rfl⟩
  · have hpm : (swL l 0 (n - 1)).take n |>.Perm (l.take n) := by
      rw [(swL_take (l := l) (i := 0) (j := n - 1) (n := n) hn0 (by omega) hn).1]
      exact swL_perm (by rw [List.length_take]; omega) (by rw [List.length_take]; omega)
    have ht : (swL l 0 (n - 1)).take n = (swL l 0 (n - 1)).take (n - 1) ++ [l[0]'(by omega)] := by
      have : (swL l 0 (n - 1))[n - 1]? = some (l[0]'(by omega)) := by
        rw [swL_eq (by omega) (by omega), List.getElem?_set_self (by simp; omega)]
      have e := List.take_add_one (l := swL l 0 (n - 1)) (i := n - 1)
      rw [Nat.sub_add_cancel hn0, this] at e
      exact e
    rw [ht] at hpm
    refine hpm.symm.trans ?_
    refine (List.perm_append_comm).trans ?_
    exact (p1.symm).cons _
  · intro y hy
    obtain ⟨i, hi⟩ := List.getElem?_of_mem hy
    rw [List.getElem?_take] at hi
    split at hi
    · rename_i q
      have := hH.root i q
      simp only [cst, hi, List.getElem?_eq_getElem (show 0 < l.length by omega), Option.map_some, Option.getD_some] at this
      exact this
    · cases hi
def kS (x : SS) : List Int := [(x.s : Int), (x.q : Int), (x.left : Int)]
theorem kS_inj {x y : SS} (h : kS x = kS y) : x = y := by
  obtain ⟨a, b, c⟩ := x; obtain ⟨a', b', c'⟩ := y
  simp only [kS, List.cons.injEq, and_true] at h
  congr 1 <;> omega
def mapOK (mm : KMap) (b : SS → Option Int) : Prop := keysLen 3 mm ∧ ∀ x, mget (kS x) mm = (b x).map I
theorem mapOK_put {mm : KMap} {b : SS → Option Int} (h : mapOK mm b) (x : SS) (c : Int) : mapOK (mput (kS x) (I c) mm) (setB b x c) := by
  refine ⟨keysLen_put h.1 rfl _, fun y => ?_⟩
  rw [mget_mput]
  unfold setB
  by_cases e : y = x
  · subst e; rw [if_pos rfl, if_pos rfl]; rfl
  · rw [if_neg fun q => e (kS_inj q), if_neg e]; exact h.2 y
def stH (hA : Heap) (nm nb m n : Nat) (mm : KMap) (l : List It) : Heap := frH (upd hA nm (.map 0 0 (mapH mm))) nb m n l
structure Apart (hA : Heap) (nm nb m n8 n9 : Nat) : Prop where
  d1 : ¬ nm = nb
  d2 : ¬ nm = m
  d3 : ¬ nb = m
  z1 : hA nm = none
  z2 : hA nb = none
  z3 : hA m = none
  h8 : hA n8 = some (.row 1 [[.v (.mp nm)]])
  h9 : hA n9 = some (.row 1 [[.v (.op nb 1 0 0)]])
theorem Apart.get8 {hA : Heap} {nm nb m n8 n9 n : Nat} {mm : KMap} {l : List It} (a : Apart hA nm nb m n8 n9) : stH hA nm nb m n mm l n8 = some (.row 1 [[.v (.mp nm)]]) := by
  have := a.h8; have := a.z1; have := a.z2; have := a.z3
  simp only [stH, frH, upd_get]; grind
theorem Apart.get9 {hA : Heap} {nm nb m n8 n9 n : Nat} {mm : KMap} {l : List It} (a : Apart hA nm nb m n8 n9) : stH hA nm nb m n mm l n9 = some (.row 1 [[.v (.op nb 1 0 0)]]) := by
  have := a.h9; have := a.z1; have := a.z2; have := a.z3
  simp only [stH, frH, upd_get]; grind
theorem Apart.getM {hA : Heap} {nm nb m n8 n9 n : Nat} {mm : KMap} {l : List It} (a : Apart hA nm nb m n8 n9) : stH hA nm nb m n mm l nm = some (.map 0 0 (mapH mm)) := by
  have := a.d1; have := a.d2
  simp only [stH, frH, upd_get]; grind
theorem Apart.getB {hA : Heap} {nm nb m n8 n9 n : Nat} {mm : KMap} {l : List It} (a : Apart hA nm nb m n8 n9) : stH hA nm nb m n mm l nb = some (frB m n) := by
  have := a.d3
  simp only [stH, frH, upd_get]; grind
theorem Apart.putM {hA : Heap} {nm nb m n8 n9 n : Nat} {mm mm' : KMap} {l : List It} (a : Apart hA nm nb m n8 n9) : upd (stH hA nm nb m n mm l) nm (.map 0 0 (mapH mm')) = stH hA nm nb m n mm' l := by
  have := a.d1; have := a.d2
  funext q
  simp only [stH, frH, upd_get]; grind
noncomputable instance (b : SS → Option Int) (x : SS) (c : Int) : Decidable (impr b x c) := Classical.propDecidable _
@[go_sem] def keep20 : List Nat := [0, 1, 2, 3, 4, 6, 7, 20]
@[go_sem] def ib20 : List Nat := [4]
@[go_sem] def mk20 : Marks := fun _ => ([], .nil, [])
theorem reachI {hA : Heap} {nm nb m n8 n9 n : Nat} {mm : KMap} {l : List It} {b : SS → Option Int} (ha : Apart hA nm nb m n8 n9) (hb : mapOK mm b) (hn : n ≤ l.length) (hn2 : n < 4398046511103) (hH : HeapOK (cst l) n) (x : SS) (c : Int) :
    HFn Try.prog 20 [.agg [I x.s, I x.q, I x.left], I c, .op n8 1 0 0, .op n9 1 0 0] (stH hA nm nb m n mm l) fun _ h' => ∃ m' n' mm' l' b', Apart hA nm nb m' n8 n9 ∧ mapOK mm' b' ∧ n' ≤ l'.length ∧ HeapOK (cst l') n' ∧ h' = stH hA nm nb m' n' mm' l' ∧
      ((impr b x c ∧ b' = setB b x c ∧ (l'.take n').Perm (l.take n ++ [(x, c)]) ∧ n' = n + 1) ∨ (¬ impr b x c ∧ b' = b ∧ (l'.take n').Perm (l.take n) ∧ n' = n)) := by
  have g8 := ha.get8 (n := n) (mm := mm) (l := l)
  have g9 := ha.get9 (n := n) (mm := mm) (l := l)
  have gM := ha.getM (n := n) (mm := mm) (l := l)
  have gB := ha.getB (n := n) (mm := mm) (l := l)
  have hk := hb.1
  have hg : mget [(x.s : Int), (x.q : Int), (x.left : Int)] mm = (b x).map I := hb.2 x
  have hp := ha.putM (n := n) (mm := mm) (mm' := mput [(x.s : Int), (x.q : Int), (x.left : Int)] (I c) mm) (l := l)
  have g9' := ha.get9 (n := n) (mm := mput [(x.s : Int), (x.q : Int), (x.left : Int)] (I c) mm) (l := l)
  have gm : upd hA nm (.map 0 0 (mapH (mput [(x.s : Int), (x.q : Int), (x.left : Int)] (I c) mm))) m = none := by rw [upd_ne _ _ _ _ (Ne.symm ha.d2)]; exact ha.z3
  have fin : impr b x c → ∀ K' : HVal → Heap → Prop, (∀ r h', (∃ m' n' mm' l' b', Apart hA nm nb m' n8 n9 ∧ mapOK mm' b' ∧ n' ≤ l'.length ∧ HeapOK (cst l') n' ∧ h' = stH hA nm nb m' n' mm' l' ∧
      ((impr b x c ∧ b' = setB b x c ∧ (l'.take n').Perm (l.take n ++ [(x, c)]) ∧ n' = n + 1) ∨ (¬ impr b x c ∧ b' = b ∧ (l'.take n').Perm (l.take n) ∧ n' = n))) → K' r h') → HFn Try.prog 21 [hpI nb, itI (x, c)] (stH hA nm nb m n (mput [(x.s : Int), (x.q : Int), (x.left : Int)] (I c) mm) l) K' := by
    intro hi K' hk'
    refine (hpPush ha.d3 hn hn2 gm (x, c) hH).mono ?_
    rintro r _ ⟨b', l', p1, p2, p3, p4, p5, rfl⟩
    have e1 : ¬ nm = b' := fun e => by rw [← e, upd_same] at p2; cases p2
    rw [upd_ne _ _ _ _ (Ne.symm e1)] at p2
    exact hk' _ _ ⟨b', n + 1, _, l', _, ⟨ha.d1, e1, p1, ha.z1, ha.z2, p2, ha.h8, ha.h9⟩, mapOK_put hb x c, by omega, p4, rfl, .inl ⟨hi, rfl, by rw [← p5, List.take_length]; exact p3, rfl⟩⟩
  cases hbx : b x with
  | none =>
    rw [hbx] at hg
    refine fnHA 31 keep20 ib20 mk20 Try.func20 ?_
    simp (maxSteps := 1000000) -dsimp -implicitDefEqProofs only [go_sem, ↓reduceIte, keep20, ib20, mk20, Try.f20, g8, g9, gM, gB, hk, hg, Option.map_none, hp, g9']
    refine fin (fun v hv => by rw [hbx] at hv; cases hv) _ ?_
    intro r h' hq
    simp (maxSteps := 1000000) -dsimp -implicitDefEqProofs only [go_sem, ↓reduceIte, keep20, ib20, mk20, Try.f20]
    exact ⟨_, Heap.le_refl _, hq⟩
  | some v =>
    rw [hbx] at hg
    refine fnHA 31 keep20 ib20 mk20 Try.func20 ?_
    simp (maxSteps := 1000000) -dsimp -implicitDefEqProofs only [go_sem, ↓reduceIte, keep20, ib20, mk20, Try.f20, g8, g9, gM, gB, hk, hg, Option.map_some, hp, g9']
    constructor
    · intro hc
      refine fin (fun v' hv => by rw [hbx] at hv; cases hv; exact hc) _ ?_
      intro r h' hq
      simp (maxSteps := 1000000) -dsimp -implicitDefEqProofs only [go_sem, ↓reduceIte, keep20, ib20, mk20, Try.f20]
      exact ⟨_, Heap.le_refl _, hq⟩
    · intro hc
      exact ⟨_, Heap.le_refl _, m, n, mm, l, b, ha, hb, hn, hH, rfl, .inr ⟨fun q => hc (q v hbx), rfl, .refl _, rfl⟩⟩
structure ImSt (w : List Int) (sl : Nat) (b : SS → Option Int) (L : List It) (E : SS → Int → Prop) : Prop where
  inv : SInv (stS w.length) (succI w sl) b (fun k d => (k, d) ∈ L) E
  bnd : Bnd b
  goal : ∀ x v, b x = some v → x.left = 0 → (x, v) ∈ L
  ent : ∀ e ∈ L, ∃ v, b e.1 = some v ∧ v ≤ e.2
  meas : pot b + L.length ≤ 3276800000001
def muI (b : SS → Option Int) (L : List It) : Nat := 2 * pot b + L.length
structure IMid (w : List Int) (sl : Nat) (b : SS → Option Int) (L : List It) (x : SS) (d : Int) (dn : It → Prop) (μ : Nat) : Prop where
  st : ImSt w sl b L fun k d' => k = x ∧ d' = d
  db : d ≤ 7000 * (knw b : Int)
  dn : ∀ e, dn e → ∃ v, b e.1 = some v ∧ v ≤ d + e.2
  mu : muI b L ≤ μ
theorem IMid.imp {w : List Int} {sl : Nat} {b : SS → Option Int} {L : List It} {x : SS} {d : Int} {dn dn' : It → Prop} {μ : Nat} (h : IMid w sl b L x d dn μ) (hd : ∀ e, dn' e → dn e) : IMid w sl b L x d dn' μ := ⟨h.st, h.db, fun e he => h.dn e (hd e he), h.mu⟩
theorem ImSt.perm {w : List Int} {sl : Nat} {b : SS → Option Int} {L L' : List It} {E : SS → Int → Prop} (h : ImSt w sl b L E) (hp : L'.Perm L) : ImSt w sl b L' E :=
  ⟨⟨h.inv.walk, fun k d hk => (h.inv.good k d hk).imp (fun q => hp.mem_iff.2 q) id, h.inv.start⟩, h.bnd, fun x v h1 h2 => hp.mem_iff.2 (h.goal x v h1 h2), fun e he => h.ent e (hp.mem_iff.1 he), by rw [hp.length_eq]; exact h.meas⟩
theorem IMid.perm {w : List Int} {sl : Nat} {b : SS → Option Int} {L L' : List It} {x : SS} {d : Int} {dn : It → Prop} {μ : Nat} (h : IMid w sl b L x d dn μ) (hp : L'.Perm L) : IMid w sl b L' x d dn μ :=
  ⟨h.st.perm hp, h.db, h.dn, by unfold muI; rw [hp.length_eq]; exact h.mu⟩
/-- What reach does to the table and to what is open. -/
def RlxI (b : SS → Option Int) (L : List It) (x : SS) (c : Int) (b' : SS → Option Int) (L' : List It) : Prop :=
  (impr b x c ∧ b' = setB b x c ∧ L'.Perm (L ++ [(x, c)])) ∨ (¬ impr b x c ∧ b' = b ∧ L'.Perm L)
theorem IMid.rlx {w : List Int} (hW : Wts w) {sl : Nat} {b b' : SS → Option Int} {L L' : List It} {x : SS} {d : Int} {dn : It → Prop} {μ : Nat} (h : IMid w sl b L x d dn μ) (hn : w.length ≤ 7) (hx : Wlk (stS w.length) (succI w sl) x d) (h0 : 0 ≤ d) {e : It} (he : e ∈ succI w sl x)
    (hr : RlxI b L e.1 (d + e.2) b' L') : IMid w sl b' L' x d (fun e' => dn e' ∨ e' = e) μ := by
  have hw := Wlk.step hx he
  have ok' := okW_okS hn (wlkI_ok hw)
  have hc := succI_cost hW.1 he
  rcases hr with ⟨hi, rfl, hp⟩ | ⟨hi, rfl, hp⟩
  · obtain ⟨b1, b2, b3⟩ := h.st.bnd.relax ok' (show 0 ≤ d + e.2 by omega) (by have := h.db; omega) hi
    have hl := leB_set hi
    have hmem : ∀ y, y ∈ L' ↔ y ∈ L ∨ y = (e.1, d + e.2) := fun y => by rw [hp.mem_iff]; simp
    have hlen : L'.length = L.length + 1 := by rw [hp.length_eq]; simp
    refine ⟨⟨h.st.inv.relax hw hi (fun k v q => (hmem _).2 (.inl q)) ((hmem _).2 (.inr rfl)), b1, fun y v hy hl0 => ?_, fun y hy => ?_, ?_⟩, by have := h.db; omega, ?_, ?_⟩
    · unfold setB at hy
      split at hy
      · rename_i q; cases hy; rw [q]; exact (hmem _).2 (.inr rfl)
      · exact (hmem _).2 (.inl (h.st.goal y v hy hl0))
    · rcases (hmem y).1 hy with q | q
      · obtain ⟨v, v1, v2⟩ := h.st.ent y q
        obtain ⟨v', v3, v4⟩ := hl _ _ v1
        exact ⟨v', v3, by omega⟩
      · rw [q]; exact ⟨d + e.2, by unfold setB; rw [if_pos rfl], Int.le_refl _⟩
    · have := h.st.meas; omega
    · rintro e' (q | rfl)
      · obtain ⟨v, v1, v2⟩ := h.dn e' q
        obtain ⟨v', v3, v4⟩ := hl _ _ v1
        exact ⟨v', v3, by omega⟩
      · exact ⟨d + e'.2, by unfold setB; rw [if_pos rfl], Int.le_refl _⟩
    · have := h.mu; unfold muI at *; omega
  · refine (IMid.perm ?_ hp)
    refine ⟨h.st, h.db, ?_, h.mu⟩
    rintro e' (q | rfl)
    · exact h.dn e' q
    · have : ∃ v, b' e'.1 = some v ∧ v ≤ d + e'.2 := by
        refine Classical.byContradiction fun hno => hi fun v hv => ?_
        have : ¬ v ≤ d + e'.2 := fun q => hno ⟨v, hv, q⟩
        omega
      exact this
theorem IMid.fin {w : List Int} {sl : Nat} {b : SS → Option Int} {L : List It} {x : SS} {d : Int} {dn : It → Prop} {μ : Nat} (h : IMid w sl b L x d dn μ) (hd : ∀ e ∈ succI w sl x, dn e) : ImSt w sl b L (fun _ _ => False) :=
  ⟨h.st.inv.mono fun k d' hk q => by
    rcases q with q | ⟨rfl, rfl⟩
    · exact .inl q
    · exact .inr (.inr fun e he => h.dn e (hd e he)), h.st.bnd, h.st.goal, h.st.ent, h.st.meas⟩
/-- Something stale is thrown away. -/
theorem ImSt.stale {w : List Int} {sl : Nat} {b : SS → Option Int} {L L1 : List It} {x : SS} {d : Int} (h : ImSt w sl b L fun _ _ => False) (hp : L.Perm ((x, d) :: L1)) {v : Int} (hb : b x = some v) (hv : v < d) : ImSt w sl b L1 (fun _ _ => False) ∧ muI b L1 < muI b L := by
  have hmem : ∀ y, y ∈ L ↔ y = (x, d) ∨ y ∈ L1 := fun y => by rw [hp.mem_iff]; simp
  have hlen : L.length = L1.length + 1 := by rw [hp.length_eq]; simp
  refine ⟨⟨h.inv.mono fun k d' hk q => ?_, h.bnd, fun y v' hy hl => ?_, fun e he => h.ent e ((hmem e).2 (.inr he)), by have := h.meas; omega⟩, by unfold muI; omega⟩
  · rcases q with q | q
    · rcases (hmem _).1 q with q | q
      · cases q; rw [hb] at hk; cases hk; omega
      · exact .inl q
    · exact q.elim
  · rcases (hmem _).1 (h.goal y v' hy hl) with q | q
    · cases q; rw [hb] at hy; cases hy; omega
    · exact q
/-- The least one is taken. -/
theorem ImSt.pop {w : List Int} {sl : Nat} {b : SS → Option Int} {L L1 : List It} {x : SS} {d : Int} (h : ImSt w sl b L fun _ _ => False) (hp : L.Perm ((x, d) :: L1)) (hb : b x = some d) (hl : x.left ≠ 0) : IMid w sl b L1 x d (fun _ => False) (muI b L1) ∧ muI b L1 < muI b L := by
  have hmem : ∀ y, y ∈ L ↔ y = (x, d) ∨ y ∈ L1 := fun y => by rw [hp.mem_iff]; simp
  have hlen : L.length = L1.length + 1 := by rw [hp.length_eq]; simp
  refine ⟨⟨⟨h.inv.mono fun k d' hk q => ?_, h.bnd, fun y v' hy hl' => ?_, fun e he => h.ent e ((hmem e).2 (.inr he)), by have := h.meas; omega⟩, (h.bnd.ok x d hb).2.2, fun e q => q.elim, Nat.le_refl _⟩, by unfold muI; omega⟩
  · rcases q with q | q
    · rcases (hmem _).1 q with q | q
      · cases q; exact .inr (.inl ⟨rfl, rfl⟩)
      · exact .inl q
    · exact q.elim
  · rcases (hmem _).1 (h.goal y v' hy hl') with q | q
    · cases q; exact absurd hl' hl
    · exact q
theorem ImSt.found {w : List Int} (hW : Wts w) {sl : Nat} {b : SS → Option Int} {L : List It} {x : SS} {d : Int} (h : ImSt w sl b L fun _ _ => False) (hm : ∀ y ∈ L, d ≤ y.2) (hb : b x = some d) (hl : x.left = 0) : minS w sl = some d := by
  refine minS_eq ⟨⟨x, hl, h.inv.walk x d hb⟩, fun y c hy hw => ?_⟩
  rcases h.inv.least (fun z e he => (succI_cost hW.1 he).1) hw with ⟨k, d', h1, h2, h3⟩ | ⟨v, h1, h2⟩
  · have := hm _ h1; simp only at this; omega
  · have := hm _ (h.goal y v h1 hy); simp only at this; omega
theorem ImSt.none {w : List Int} (hW : Wts w) {sl : Nat} {b : SS → Option Int} (h : ImSt w sl b [] fun _ _ => False) : minS w sl = none := by
  refine minS_eq fun x c hw hl => ?_
  rcases h.inv.least (fun z e he => (succI_cost hW.1 he).1) hw with ⟨k, d', h1, _⟩ | ⟨v, h1, h2⟩
  · simp at h1
  · have := h.goal x v h1 hl; simp at this
theorem imst_init (w : List Int) (hn : w.length ≤ 7) (sl : Nat) : ImSt w sl (setB (fun _ => none) (stS w.length) 0) [(stS w.length, 0)] fun _ _ => False := by
  have hs : okS (stS w.length) := ⟨by simp [stS], by simp [stS], by simp [stS]; omega⟩
  have hbnd : Bnd (fun _ => none) := ⟨fun x d h => by cases h⟩
  have him : impr (fun _ => none) (stS w.length) 0 := fun v h => by cases h
  have hr := hbnd.relax hs (c := 0) (Int.le_refl _) (by omega) him
  have hp := pot_le hbnd
  have val : ∀ k d, setB (fun _ => none) (stS w.length) 0 k = some d → k = stS w.length ∧ d = 0 := fun k d h => by
    unfold setB at h
    split at h
    · rename_i e; cases h; exact ⟨e, rfl⟩
    · cases h
  refine ⟨⟨fun k d h => ?_, fun k d h => ?_, ⟨0, by unfold setB; rw [if_pos rfl], Int.le_refl _⟩⟩, hr.1, fun k d h _ => ?_, fun e he => ?_, ?_⟩
  · obtain ⟨rfl, rfl⟩ := val k d h; exact .start
  · obtain ⟨rfl, rfl⟩ := val k d h; exact .inl (by simp)
  · obtain ⟨rfl, rfl⟩ := val k d h; simp
  · simp only [List.mem_singleton] at he; subst he
    exact ⟨0, by unfold setB; rw [if_pos rfl], Int.le_refl _⟩
  · have := hr.2.1; simp only [List.length_cons, List.length_nil]; omega
@[go_sem] def keep37 : List Nat := [0, 2]
@[go_sem] def ib37 : List Nat := []
@[go_sem] def mk37 : Marks := fun _ => ([], .nil, [])
theorem validWeights1 (n : Int) : Fn0 Try.prog 37 [I n] (.bool (!decide (0 ≤ n ∧ n ≤ 1000))) := by
  refine fn0A 6 keep37 ib37 mk37 Try.func37 fun h => ?_
  simp (maxSteps := 1000000) -dsimp -implicitDefEqProofs only [go_sem, ↓reduceIte, keep37, ib37, mk37, Try.f37]
  first | refine HFnF.mk (within n 0 1000) ?_ | refine CallSF.mk (within n 0 1000) ?_ | refine HFnF.mkAt (within n 0 1000) ?_ | refine CallSF.mk (FnAt.fn0 (within n 0 1000)) ?_
  simp (maxSteps := 1000000) -dsimp -implicitDefEqProofs only [go_sem, ↓reduceIte, keep37, ib37, mk37, Try.f37]
@[go_sem] def keep31 : List Nat := [0, 2]
@[go_sem] def ib31 : List Nat := []
@[go_sem] def mk31 : Marks := fun _ => ([], .nil, [])
theorem validWeights (w : List Int) : Fn0 Try.prog 31 [ints w] (.bool (decide (Wts w))) := by
  refine fn0A 11 keep31 ib31 mk31 Try.func31 fun h => ?_
  simp (maxSteps := 1000000) -dsimp -implicitDefEqProofs only [go_sem, ↓reduceIte, keep31, ib31, mk31, Try.f31]
  repeat' (with_reducible first | intro _ | refine And.intro ?_ ?_)
  all_goals try (first | (simp [*]; done) | omega | grind)
  first | refine HFnF.mk (hasF_Int64S w (fun n => !decide (0 ≤ n ∧ n ≤ 1000)) 37 [] fun x _ => (validWeights1 x).toAt) ?_ | refine CallSF.mk (hasF_Int64S w (fun n => !decide (0 ≤ n ∧ n ≤ 1000)) 37 [] fun x _ => (validWeights1 x).toAt) ?_ | refine HFnF.mkAt (hasF_Int64S w (fun n => !decide (0 ≤ n ∧ n ≤ 1000)) 37 [] fun x _ => (validWeights1 x).toAt) ?_ | refine CallSF.mk (FnAt.fn0 (hasF_Int64S w (fun n => !decide (0 ≤ n ∧ n ≤ 1000)) 37 [] fun x _ => (validWeights1 x).toAt)) ?_
  simp (maxSteps := 1000000) -dsimp -implicitDefEqProofs only [go_sem, ↓reduceIte, keep31, ib31, mk31, Try.f31]
  · rename_i hl
    rw [Bool.eq_iff_iff, decide_eq_true_eq]
    simp only [Bool.not_eq_true', List.any_eq_false, Bool.not_eq_true', decide_eq_false_iff_not, Classical.not_not]
    exact ⟨fun q => ⟨q, by omega⟩, fun q => q.1⟩
  · rename_i hl
    exact (decide_eq_false fun q => by have := q.2; omega).symm
@[go_sem] def keep32 : List Nat := [0, 2]
@[go_sem] def ib32 : List Nat := []
@[go_sem] def mk32 : Marks := fun _ => ([], .nil, [])
theorem areSlots (n : Int) : Fn0 Try.prog 32 [I n] (.bool (decide (0 ≤ n ∧ n ≤ 8))) := by
  refine fn0A 5 keep32 ib32 mk32 Try.func32 fun h => ?_
  simp (maxSteps := 1000000) -dsimp -implicitDefEqProofs only [go_sem, ↓reduceIte, keep32, ib32, mk32, Try.f32]
  first | refine HFnF.mk (within n 0 8) ?_ | refine CallSF.mk (within n 0 8) ?_ | refine HFnF.mkAt (within n 0 8) ?_ | refine CallSF.mk (FnAt.fn0 (within n 0 8)) ?_
  simp (maxSteps := 1000000) -dsimp -implicitDefEqProofs only [go_sem, ↓reduceIte, keep32, ib32, mk32, Try.f32]
@[go_sem] def keep17 : List Nat := [0, 1, 4, 5, 9]
@[go_sem] def ib17 : List Nat := []
@[go_sem] def mk17 : Marks := fun _ => ([], .nil, [])
theorem isCosted (w : List Int) (n : Int) : Fn0 Try.prog 17 [ints w, I n] (I (if ¬ Wts w then 1 else if ¬ (0 ≤ n ∧ n ≤ 8) then 2 else 0)) := by
  refine fn0A 13 keep17 ib17 mk17 Try.func17 fun h => ?_
  simp (maxSteps := 1000000) -dsimp -implicitDefEqProofs only [go_sem, ↓reduceIte, keep17, ib17, mk17, Try.f17]
  first | refine HFnF.mk (validWeights w) ?_ | refine CallSF.mk (validWeights w) ?_ | refine HFnF.mkAt (validWeights w) ?_ | refine CallSF.mk (FnAt.fn0 (validWeights w)) ?_
  simp (maxSteps := 1000000) -dsimp -implicitDefEqProofs only [go_sem, ↓reduceIte, keep17, ib17, mk17, Try.f17]
  repeat' (with_reducible first | intro _ | refine And.intro ?_ ?_)
  · rename_i hw
    rw [if_neg (by simpa using hw)]
  · rename_i hw
    have hw : Wts w := by simpa using hw
    first | refine HFnF.mk (areSlots n) ?_ | refine CallSF.mk (areSlots n) ?_ | refine HFnF.mkAt (areSlots n) ?_ | refine CallSF.mk (FnAt.fn0 (areSlots n)) ?_
    simp (maxSteps := 1000000) -dsimp -implicitDefEqProofs only [go_sem, ↓reduceIte, keep17, ib17, mk17, Try.f17]
    constructor
    · intro hs
      rw [if_pos hw, if_neg (by simpa using hs)]
    · intro hs
      rw [if_pos hw, if_pos (by simpa using hs)]
abbrev LSt := Nat × Nat × KMap × List It × (SS → Option Int)
structure PSt (w : List Int) (sl : Nat) (hB : Heap) (nm nb n8 n9 : Nat) (x : SS) (d : Int) (μ : Nat) (dn : It → Prop) (z : LSt) : Prop where
  ap : Apart hB nm nb z.1 n8 n9
  mp : mapOK z.2.2.1 z.2.2.2.2
  le : z.2.1 ≤ z.2.2.2.1.length
  hp : HeapOK (cst z.2.2.2.1) z.2.1
  st : IMid w sl z.2.2.2.2 (z.2.2.2.1.take z.2.1) x d dn μ
abbrev stZ (hB : Heap) (nm nb : Nat) (z : LSt) : Heap := stH hB nm nb z.1 z.2.1 z.2.2.1 z.2.2.2.1
theorem PSt.imp {w : List Int} {sl : Nat} {hB : Heap} {nm nb n8 n9 : Nat} {x : SS} {d : Int} {μ : Nat} {dn dn' : It → Prop} {z : LSt} (h : PSt w sl hB nm nb n8 n9 x d μ dn z) (hd : ∀ e, dn' e → dn e) : PSt w sl hB nm nb n8 n9 x d μ dn' z := ⟨h.ap, h.mp, h.le, h.hp, h.st.imp hd⟩
theorem PSt.n2 {w : List Int} {sl : Nat} {hB : Heap} {nm nb n8 n9 : Nat} {x : SS} {d : Int} {μ : Nat} {dn : It → Prop} {z : LSt} (h : PSt w sl hB nm nb n8 n9 x d μ dn z) : z.2.1 < 4398046511103 := by
  have h1 := h.st.st.meas
  have h2 : (z.2.2.2.1.take z.2.1).length = z.2.1 := by rw [List.length_take]; have := h.le; omega
  omega
theorem reachP {w : List Int} (hW : Wts w) (hwl : w.length ≤ 7) {sl : Nat} {hB : Heap} {nm nb n8 n9 : Nat} {x : SS} {d : Int} {μ : Nat} {dn : It → Prop} {z : LSt} (h : PSt w sl hB nm nb n8 n9 x d μ dn z) (hx : Wlk (stS w.length) (succI w sl) x d) (h0 : 0 ≤ d) {e : It} (he : e ∈ succI w sl x) :
    HFn Try.prog 20 [.agg [I e.1.s, I e.1.q, I e.1.left], I (d + e.2), .op n8 1 0 0, .op n9 1 0 0] (stZ hB nm nb z) fun _ h' => ∃ z' : LSt, h' = stZ hB nm nb z' ∧ PSt w sl hB nm nb n8 n9 x d μ (fun e' => dn e' ∨ e' = e) z' := by
  refine (reachI h.ap h.mp h.le h.n2 h.hp e.1 (d + e.2)).mono ?_
  rintro r _ ⟨m', n', mm', l', b', q1, q2, q3, q4, rfl, q5⟩
  refine ⟨(m', n', mm', l', b'), rfl, q1, q2, q3, q4, h.st.rlx hW hwl hx h0 he ?_⟩
  rcases q5 with ⟨r1, r2, r3, _⟩ | ⟨r1, r2, r3, _⟩
  · exact .inl ⟨r1, r2, r3⟩
  · exact .inr ⟨r1, r2, r3⟩
theorem stH_ne {hA : Heap} {nm nb m n k : Nat} {mm : KMap} {l : List It} (hk : stH hA nm nb m n mm l k = none) : ¬ k = nm ∧ ¬ k = nb ∧ ¬ k = m ∧ hA k = none := by
  simp only [stH, frH, upd_get] at hk
  grind
theorem stH_upd {hA : Heap} {nm nb m n k : Nat} {mm : KMap} {l : List It} (o : HObj) (h1 : ¬ k = nm) (h2 : ¬ k = nb) (h3 : ¬ k = m) : upd (stH hA nm nb m n mm l) k o = stH (upd hA k o) nm nb m n mm l := by
  funext q
  simp only [stH, frH, upd_get]
  grind
theorem Apart.upd {hA : Heap} {nm nb m n8 n9 k : Nat} (a : Apart hA nm nb m n8 n9) (h1 : ¬ k = nm) (h2 : ¬ k = nb) (h3 : ¬ k = m) (h4 : hA k = none) (o : HObj) : Apart (Hl.upd hA k o) nm nb m n8 n9 := by
  obtain ⟨d1, d2, d3, z1, z2, z3, h8, h9⟩ := a
  refine ⟨d1, d2, d3, ?_, ?_, ?_, ?_, ?_⟩ <;> simp only [upd_get] <;> grind
theorem stH_at {hA : Heap} {nm nb m n k : Nat} {mm : KMap} {l : List It} (h1 : ¬ k = nm) (h2 : ¬ k = nb) (h3 : ¬ k = m) : stH hA nm nb m n mm l k = hA k := by
  simp only [stH, frH, upd_get]
  grind
theorem stH_mono {hA hB : Heap} {nm nb m n : Nat} {mm : KMap} {l : List It} (h : hA.le hB) : (stH hA nm nb m n mm l).le (stH hB nm nb m n mm l) := Heap.le_both (Heap.le_both (Heap.le_both h))
theorem PSt.push {w : List Int} {sl : Nat} {hB : Heap} {nm nb n8 n9 : Nat} {x : SS} {d : Int} {μ : Nat} {dn : It → Prop} {z : LSt} (h : PSt w sl hB nm nb n8 n9 x d μ dn z) {r : Nat} (h1 : ¬ r = nm) (h2 : ¬ r = nb) (h3 : ¬ r = z.1) (h4 : hB r = none) (o : HObj) : PSt w sl (upd hB r o) nm nb n8 n9 x d μ dn z :=
  ⟨h.ap.upd h1 h2 h3 h4 o, h.mp, h.le, h.hp, h.st⟩
theorem PSt.strip {w : List Int} {sl : Nat} {hB : Heap} {nm nb n8 n9 m : Nat} {x : SS} {d : Int} {μ : Nat} {dn : It → Prop} {z : LSt} {r : Nat} {o : HObj} (h : PSt w sl (upd hB r o) nm nb n8 n9 x d μ dn z) (ha : Apart hB nm nb m n8 n9) : PSt w sl hB nm nb n8 n9 x d μ dn z ∧ ¬ r = z.1 := by
  have h3 := h.ap.z3
  rw [upd_none] at h3
  exact ⟨⟨⟨h.ap.d1, h.ap.d2, h.ap.d3, ha.z1, ha.z2, h3.2, ha.h8, ha.h9⟩, h.mp, h.le, h.hp, h.st⟩, Ne.symm h3.1⟩
theorem or64' {q s : Nat} (hq : q < 256) (hs : s < 8) : IntKind.i64.wrap ((BitVec.ofInt IntKind.i64.bits (q : Int) ||| BitVec.ofInt IntKind.i64.bits ((2 ^ s : Nat) : Int)).toNat : Int) = ((q ||| 2 ^ s : Nat) : Int) := or64 hq (bit_lt (n := 8) hs)
theorem clr64' {q i : Nat} (hq : q < 256) (hi : i < 8) : IntKind.i64.wrap ((BitVec.ofInt IntKind.i64.bits (q : Int) &&& ~~~ BitVec.ofInt IntKind.i64.bits ((2 ^ i : Nat) : Int)).toNat : Int) = ((clrB q i : Nat) : Int) := andNot64 hq hi
theorem orc64' {q s : Nat} (hq : q < 256) (hs : s < 8) (i : Nat) : IntKind.i64.wrap ((BitVec.ofInt IntKind.i64.bits ((clrB q i : Nat) : Int) ||| BitVec.ofInt IntKind.i64.bits ((2 ^ s : Nat) : Int)).toNat : Int) = ((clrB q i ||| 2 ^ s : Nat) : Int) := or64 (clrB_lt (n := 8) i hq) (bit_lt (n := 8) hs)
theorem tbit {q k : Nat} (hq : q < 256) (hk : k < 8) : IntKind.i64.wrap ((BitVec.ofInt IntKind.i64.bits ((q : Int).fdiv (2 ^ min k 64)) &&& BitVec.ofInt IntKind.i64.bits 1).toNat : Int) = ((q / 2 ^ k % 2 : Nat) : Int) := by
  have e1 : (2 : Int) ^ min k 64 = ((2 ^ k : Nat) : Int) := by rw [Nat.min_eq_left (by omega), Int.natCast_pow]; rfl
  have h1 : q / 2 ^ k < 256 := Nat.lt_of_le_of_lt (Nat.div_le_self _ _) hq
  rw [e1, ← Int.ofNat_fdiv]
  have := and64 (a := q / 2 ^ k) (b := 1) h1 (by omega)
  rw [Nat.and_one_is_mod] at this; exact this
theorem bits_t {q k : Nat} (h : q / 2 ^ k % 2 = 1) : bitsN (k + 1) q = bitsN k q ++ [k] := by
  have e : q.testBit k = true := by rw [Nat.testBit_eq_decide_div_mod_eq, h]; rfl
  simp [bitsN, List.range_succ, e]
theorem bits_f {q k : Nat} (h : ¬ q / 2 ^ k % 2 = 1) : bitsN (k + 1) q = bitsN k q := by
  have e : q.testBit k = false := by rw [Nat.testBit_eq_decide_div_mod_eq]; exact decide_eq_false h
  simp [bitsN, List.range_succ, e]
theorem mem_bits_t {q k i : Nat} (h : q / 2 ^ k % 2 = 1) : i ∈ bitsN (k + 1) q ↔ i ∈ bitsN k q ∨ i = k := by rw [bits_t h]; simp
theorem stZ_app {hB : Heap} {nm nb r r' : Nat} {z : LSt} {o o' : HObj} (h1 : ¬ r = nm) (h2 : ¬ r = nb) (h3 : ¬ r = z.1) (h4 : hB r = none) (h5 : ¬ r' = nm) (h6 : ¬ r' = nb) (h7 : ¬ r' = z.1) (h8 : hB r' = none) (h9 : ¬ r' = r) :
    (stZ (upd hB r' o') nm nb z).le (upd (upd (stZ (upd hB r o) nm nb z) r .gone) r' o') := by
  intro q
  simp only [stZ, stH, frH, upd_get]
  grind
def natL (l : List Nat) : List Int := l.map fun i : Nat => (i : Int)
def adv12 (w : List Int) (x : SS) : List It := (if x.s + 1 < x.left then [(⟨x.s + 1, x.q, x.left⟩, wAt w x.s)] else []) ++ (if x.s + 1 = x.left then [(⟨x.s, x.q, x.left - 1⟩, 0)] else [])
def rside (hB : Heap) (nm nb m : Nat) (l : List Nat) : Option Nat → Prop
  | none => l = []
  | some r => hB r = none ∧ ¬ r = nm ∧ ¬ r = nb ∧ ¬ r = m
structure S1 (w : List Int) (sl : Nat) (hB : Heap) (nm nb n8 n9 : Nat) (x : SS) (v : Int) (μ : Nat) (y : Nat × Option Nat × LSt) : Prop where
  le : y.1 ≤ w.length + 1
  st : PSt w sl hB nm nb n8 n9 x v μ (fun e => e ∈ adv12 w x ∨ ∃ i ∈ bitsN y.1 x.q, e = (⟨i, x.q, x.left⟩, 0)) y.2.2
  rs : rside hB nm nb y.2.2.1 (bitsN y.1 x.q) y.2.1
structure LOK (w : List Int) (sl : Nat) (hA : Heap) (nm nb n8 n9 : Nat) (z : LSt) : Prop where
  ap : Apart hA nm nb z.1 n8 n9
  mp : mapOK z.2.2.1 z.2.2.2.2
  le : z.2.1 ≤ z.2.2.2.1.length
  hp : HeapOK (cst z.2.2.2.1) z.2.1
  st : ImSt w sl z.2.2.2.2 (z.2.2.2.1.take z.2.1) fun _ _ => False
def dnA (w : List Int) (sl : Nat) (x : SS) (j : Nat) (e : It) : Prop := e ∈ adv12 w x ∨ (∃ i ∈ bitsN (w.length + 1) x.q, e = (⟨i, x.q, x.left⟩, 0)) ∨ ((bitsN (w.length + 1) x.q).length < sl ∧ e = (⟨x.s, x.q ||| 2 ^ x.s, x.left⟩, 0)) ∨ ∃ i ∈ (bitsN (w.length + 1) x.q).take j, e = (⟨x.s, clrB x.q i ||| 2 ^ x.s, x.left⟩, 0)
theorem PSt.fin {w : List Int} {sl : Nat} {hA hC : Heap} {nm nb n8 n9 m : Nat} {x : SS} {d : Int} {μ : Nat} {z : LSt} (h : PSt w sl hC nm nb n8 n9 x d μ (dnA w sl x (bitsN (w.length + 1) x.q).length) z) (ha : Apart hA nm nb m n8 n9) (hl : hA.le hC) : LOK w sl hA nm nb n8 n9 z ∧ muI z.2.2.2.2 (z.2.2.2.1.take z.2.1) ≤ μ := by
  refine ⟨⟨⟨h.ap.d1, h.ap.d2, h.ap.d3, ha.z1, ha.z2, Heap.le_none hl h.ap.z3, ha.h8, ha.h9⟩, h.mp, h.le, h.hp, h.st.fin fun e he => ?_⟩, h.st.mu⟩
  unfold succI at he
  unfold dnA adv12
  rw [List.take_length]
  simp only [List.mem_append, List.mem_map] at he ⊢
  rcases he with (((he | he) | ⟨i, hi, rfl⟩) | he) | ⟨i, hi, rfl⟩
  · exact .inl (.inl he)
  · exact .inl (.inr he)
  · exact .inr (.inl ⟨i, hi, rfl⟩)
  · split at he
    · rename_i hc; exact .inr (.inr (.inl ⟨hc, by simpa using he⟩))
    · cases he
  · exact .inr (.inr (.inr ⟨i, hi, rfl⟩))
theorem stZ_leB {hA hC : Heap} {nm nb : Nat} {z : LSt} (h : hA.le hC) : (stZ hA nm nb z).le (stZ hC nm nb z) := stH_mono h
@[go_sem] def keep7 : List Nat := [0, 1, 4, 5, 6, 7, 8, 9, 10, 11, 12, 13, 14, 15, 17, 31, 33, 49, 62, 65, 73, 96, 111, 112, 113, 120, 138, 153, 154, 155, 156]
@[go_sem] def ib7 : List Nat := [108, 123]
@[go_sem] def mk7 : Marks := fun id => match id with | 7 => ([], .nil, []) | 10 => ([1, 3, 4, 5], (.op 0 (.op 2 (.op 1 (.op 3 (.op 4 (.op 5 (.op 6 .nil))))))), [(1, 4), (3, 4), (3, 5)]) | 16 => ([2, 5, 7, 12, 14, 16], (.op 0 (.op 1 (.op 4 (.op 6 (.op 9 (.op 10 (.op 11 (.op 2 (.op 3 (.op 5 (.op 7 (.op 8 (.op 12 (.op 13 (.op 14 (.op 15 (.op 16 .nil))))))))))))))))), []) | 28 => ([2, 4, 6, 10, 13], (.op 0 (.op 1 (.op 3 (.op 5 (.op 9 (.op 12 (.op 2 (.op 4 (.op 6 (.op 7 (.op 8 (.op 10 (.op 11 (.op 13 .nil)))))))))))))), []) | 32 => ([2, 4, 9, 13, 16], (.op 0 (.op 1 (.op 3 (.op 5 (.op 6 (.op 8 (.op 12 (.op 15 (.op 2 (.op 4 (.op 7 (.op 9 (.op 10 (.op 11 (.op 13 (.op 14 (.op 16 .nil))))))))))))))))), []) | _ => ([], .nil, [])
def keyA (n : Nat) : HVal := .agg [I 0, I 0, I n]
def row7 (n : Nat) : HObj := .row 3 [[.v (I 0), .v (I 0), .v (I n)]]
/-- What holds in the midst of the region in which the table and the heap are made. -/
structure R7 (w : List Int) (sl : Int) (h0 : Heap) (n7 : Nat) (nm nb m n8 n9 : Nat) (D : Nat → Bool) (τ : Tmps) (h : Heap) : Prop where
  le : h0.le h
  t0 : tget τ 0 = ints w
  t1 : tget τ 1 = I sl
  t7 : tget τ 7 = .op n7 3 0 0
  h7 : h0 n7 = none
  g7 : h n7 = some (row7 w.length)
  o0 : D 0 = true → tget τ 38 = .mp nm
  z0 : D 0 = true → h0 nm = none
  g0 : D 0 = true → D 2 = false → h nm = some (.map 0 0 [])
  g2 : D 2 = true → h nm = some (.map 0 0 (mapH (mput [0, 0, (w.length : Int)] (I 0) [])))
  o1 : D 1 = true → tget τ 39 = keyA w.length
  o3 : D 3 = true → tget τ 40 = .mp nm
  o4 : D 4 = true → tget τ 41 = keyA w.length
  o5 : D 5 = true → tget τ 42 = .agg (itC (stS w.length, 0))
  o6 : D 6 = true → tget τ 43 = .os m 4 0 1
  z6 : D 6 = true → h0 m = none
  g6 : D 6 = true → h m = some (rowT [(stS w.length, 0)])
  o7 : D 7 = true → tget τ 44 = .op nb 1 0 0
  z7 : D 7 = true → h0 nb = none
  g8 : D 7 = true → h nb = some (frB m 1)
  o8 : D 8 = true → tget τ 8 = .op n8 1 0 0
  z8 : D 8 = true → h0 n8 = none
  a8 : D 8 = true → D 10 = false → h n8 = some (.row 1 [[.v .nilmap]])
  b8 : D 10 = true → h n8 = some (.row 1 [[.v (.mp nm)]])
  o9 : D 9 = true → tget τ 9 = .op n9 1 0 0
  z9 : D 9 = true → h0 n9 = none
  a9 : D 9 = true → D 11 = false → h n9 = some (.row 1 [[.v .nilptr]])
  b9 : D 11 = true → h n9 = some (.row 1 [[.v (.op nb 1 0 0)]])
  c20 : D 2 = true → D 0 = true
  c32 : D 3 = true → D 2 = true
  c76 : D 7 = true → D 6 = true
  c103 : D 10 = true → D 3 = true
  c108 : D 10 = true → D 8 = true
  c119 : D 11 = true → D 9 = true
  c117 : D 11 = true → D 7 = true
theorem map_ne_row {h : Heap} {a b : Nat} {l : List (HVal × HVal)} {x y : TypeId} {sz : Nat} {es : List (List Cell)} (ha : h a = some (.map x y l)) (hb : h b = some (.row sz es)) : ¬ a = b := fun e => by rw [e, hb] at ha; cases ha
theorem le_get {h0 h : Heap} {n : Nat} (hl : h0.le h) (hn : h n = none) : h0 n = none := Heap.le_none hl hn
theorem R7.s0 {w : List Int} {sl : Int} {h0 : Heap} {n7 nm nb m n8 n9 : Nat} {D : Nat → Bool} {τ : Tmps} {h : Heap} (hI : R7 w sl h0 n7 nm nb m n8 n9 D τ h) (hD : D 0 = false)  {n : Nat} (hn : h n = none) : R7 w sl h0 n7 n nb m n8 n9 (fun j => j == 0 || D j) ((38, .mp n) :: τ) (upd h n (.map 0 0 [])) := by
  obtain ⟨le, t0, t1, t7, h7, g7, o0, z0, g0, g2, o1, o3, o4, o5, o6, z6, g6, o7, z7, g8, o8, z8, a8, b8, o9, z9, a9, b9, c20, c32, c76, c103, c108, c119, c117⟩ := hI
  have hz := le_get le hn
  constructor
  case le => exact Heap.le_upd hz le
  all_goals try simp only [tget, upd_get]
  all_goals first | grind | (intro _; rfl) | grind [row7]
theorem R7.s1 {w : List Int} {sl : Int} {h0 : Heap} {n7 nm nb m n8 n9 : Nat} {D : Nat → Bool} {τ : Tmps} {h : Heap} (hI : R7 w sl h0 n7 nm nb m n8 n9 D τ h) (hD : D 1 = false)   : R7 w sl h0 n7 nm nb m n8 n9 (fun j => j == 1 || D j) ((39, .agg [I 0, I 0, I w.length]) :: τ) h := by
  obtain ⟨le, t0, t1, t7, h7, g7, o0, z0, g0, g2, o1, o3, o4, o5, o6, z6, g6, o7, z7, g8, o8, z8, a8, b8, o9, z9, a9, b9, c20, c32, c76, c103, c108, c119, c117⟩ := hI
  constructor
  all_goals try simp only [tget, upd_get]
  all_goals first | grind | (intro _; rfl) | grind [row7]
theorem R7.s2 {w : List Int} {sl : Int} {h0 : Heap} {n7 nm nb m n8 n9 : Nat} {D : Nat → Bool} {τ : Tmps} {h : Heap} (hI : R7 w sl h0 n7 nm nb m n8 n9 D τ h) (hD : D 2 = false) (e : D 0 = true ∧ D 1 = true)  : R7 w sl h0 n7 nm nb m n8 n9 (fun j => j == 2 || D j) τ (upd h nm (.map 0 0 (mapH (mput [0, 0, (w.length : Int)] (.int .i64 0) [])))) := by
  obtain ⟨le, t0, t1, t7, h7, g7, o0, z0, g0, g2, o1, o3, o4, o5, o6, z6, g6, o7, z7, g8, o8, z8, a8, b8, o9, z9, a9, b9, c20, c32, c76, c103, c108, c119, c117⟩ := hI
  constructor
  case le => exact Heap.le_upd (by first | exact z0 e.1 | exact z8 e.1 | exact z9 e.1) le
  all_goals try simp only [tget, upd_get]
  all_goals first | grind | (intro _; rfl) | grind [row7]
theorem R7.s3 {w : List Int} {sl : Int} {h0 : Heap} {n7 nm nb m n8 n9 : Nat} {D : Nat → Bool} {τ : Tmps} {h : Heap} (hI : R7 w sl h0 n7 nm nb m n8 n9 D τ h) (hD : D 3 = false) (e : D 0 = true ∧ D 1 = true ∧ D 2 = true)  : R7 w sl h0 n7 nm nb m n8 n9 (fun j => j == 3 || D j) ((40, .mp nm) :: τ) h := by
  obtain ⟨le, t0, t1, t7, h7, g7, o0, z0, g0, g2, o1, o3, o4, o5, o6, z6, g6, o7, z7, g8, o8, z8, a8, b8, o9, z9, a9, b9, c20, c32, c76, c103, c108, c119, c117⟩ := hI
  constructor
  all_goals try simp only [tget, upd_get]
  all_goals first | grind | (intro _; rfl) | grind [row7]
theorem R7.s4 {w : List Int} {sl : Int} {h0 : Heap} {n7 nm nb m n8 n9 : Nat} {D : Nat → Bool} {τ : Tmps} {h : Heap} (hI : R7 w sl h0 n7 nm nb m n8 n9 D τ h) (hD : D 4 = false)   : R7 w sl h0 n7 nm nb m n8 n9 (fun j => j == 4 || D j) ((41, .agg [I 0, I 0, I w.length]) :: τ) h := by
  obtain ⟨le, t0, t1, t7, h7, g7, o0, z0, g0, g2, o1, o3, o4, o5, o6, z6, g6, o7, z7, g8, o8, z8, a8, b8, o9, z9, a9, b9, c20, c32, c76, c103, c108, c119, c117⟩ := hI
  constructor
  all_goals try simp only [tget, upd_get]
  all_goals first | grind | (intro _; rfl) | grind [row7]
theorem R7.s5 {w : List Int} {sl : Int} {h0 : Heap} {n7 nm nb m n8 n9 : Nat} {D : Nat → Bool} {τ : Tmps} {h : Heap} (hI : R7 w sl h0 n7 nm nb m n8 n9 D τ h) (hD : D 5 = false)   : R7 w sl h0 n7 nm nb m n8 n9 (fun j => j == 5 || D j) ((42, .agg [I 0, I 0, I w.length, .int .i64 0]) :: τ) h := by
  obtain ⟨le, t0, t1, t7, h7, g7, o0, z0, g0, g2, o1, o3, o4, o5, o6, z6, g6, o7, z7, g8, o8, z8, a8, b8, o9, z9, a9, b9, c20, c32, c76, c103, c108, c119, c117⟩ := hI
  constructor
  all_goals try simp only [tget, upd_get]
  all_goals first | grind | (intro _; rfl) | grind [row7]
theorem R7.s6 {w : List Int} {sl : Int} {h0 : Heap} {n7 nm nb m n8 n9 : Nat} {D : Nat → Bool} {τ : Tmps} {h : Heap} (hI : R7 w sl h0 n7 nm nb m n8 n9 D τ h) (hD : D 6 = false)  {n : Nat} (hn : h n = none) : R7 w sl h0 n7 nm nb n n8 n9 (fun j => j == 6 || D j) ((43, .os n 4 0 1) :: τ) (upd h n (.row 4 [[.v (I ((0 : Nat) : Int)), .v (I ((0 : Nat) : Int)), .v (I w.length), .v (I 0)]])) := by
  obtain ⟨le, t0, t1, t7, h7, g7, o0, z0, g0, g2, o1, o3, o4, o5, o6, z6, g6, o7, z7, g8, o8, z8, a8, b8, o9, z9, a9, b9, c20, c32, c76, c103, c108, c119, c117⟩ := hI
  have hz := le_get le hn
  constructor
  case le => exact Heap.le_upd hz le
  all_goals try simp only [tget, upd_get]
  all_goals first | grind | (intro _; rfl) | grind [row7]
theorem R7.s7 {w : List Int} {sl : Int} {h0 : Heap} {n7 nm nb m n8 n9 : Nat} {D : Nat → Bool} {τ : Tmps} {h : Heap} (hI : R7 w sl h0 n7 nm nb m n8 n9 D τ h) (hD : D 7 = false) (e : D 6 = true) {n : Nat} (hn : h n = none) : R7 w sl h0 n7 nm n m n8 n9 (fun j => j == 7 || D j) ((44, .op n 1 0 0) :: τ) (upd h n (.row 1 [[.v (.os m 4 0 1)]])) := by
  obtain ⟨le, t0, t1, t7, h7, g7, o0, z0, g0, g2, o1, o3, o4, o5, o6, z6, g6, o7, z7, g8, o8, z8, a8, b8, o9, z9, a9, b9, c20, c32, c76, c103, c108, c119, c117⟩ := hI
  have hz := le_get le hn
  constructor
  case le => exact Heap.le_upd hz le
  all_goals try simp only [tget, upd_get]
  all_goals first | grind | (intro _; rfl) | grind [row7]
theorem R7.s8 {w : List Int} {sl : Int} {h0 : Heap} {n7 nm nb m n8 n9 : Nat} {D : Nat → Bool} {τ : Tmps} {h : Heap} (hI : R7 w sl h0 n7 nm nb m n8 n9 D τ h) (hD : D 8 = false)  {n : Nat} (hn : h n = none) : R7 w sl h0 n7 nm nb m n n9 (fun j => j == 8 || D j) ((8, .op n 1 0 0) :: τ) (upd h n (.row 1 [[.v .nilmap]])) := by
  obtain ⟨le, t0, t1, t7, h7, g7, o0, z0, g0, g2, o1, o3, o4, o5, o6, z6, g6, o7, z7, g8, o8, z8, a8, b8, o9, z9, a9, b9, c20, c32, c76, c103, c108, c119, c117⟩ := hI
  have hz := le_get le hn
  constructor
  case le => exact Heap.le_upd hz le
  all_goals try simp only [tget, upd_get]
  all_goals first | grind | (intro _; rfl) | grind [row7]
theorem R7.s9 {w : List Int} {sl : Int} {h0 : Heap} {n7 nm nb m n8 n9 : Nat} {D : Nat → Bool} {τ : Tmps} {h : Heap} (hI : R7 w sl h0 n7 nm nb m n8 n9 D τ h) (hD : D 9 = false)  {n : Nat} (hn : h n = none) : R7 w sl h0 n7 nm nb m n8 n (fun j => j == 9 || D j) ((9, .op n 1 0 0) :: τ) (upd h n (.row 1 [[.v .nilptr]])) := by
  obtain ⟨le, t0, t1, t7, h7, g7, o0, z0, g0, g2, o1, o3, o4, o5, o6, z6, g6, o7, z7, g8, o8, z8, a8, b8, o9, z9, a9, b9, c20, c32, c76, c103, c108, c119, c117⟩ := hI
  have hz := le_get le hn
  constructor
  case le => exact Heap.le_upd hz le
  all_goals try simp only [tget, upd_get]
  all_goals first | grind | (intro _; rfl) | grind [row7]
theorem R7.s10 {w : List Int} {sl : Int} {h0 : Heap} {n7 nm nb m n8 n9 : Nat} {D : Nat → Bool} {τ : Tmps} {h : Heap} (hI : R7 w sl h0 n7 nm nb m n8 n9 D τ h) (hD : D 10 = false) (e : D 8 = true ∧ D 3 = true)  : R7 w sl h0 n7 nm nb m n8 n9 (fun j => j == 10 || D j) τ (upd h n8 (.row 1 [[.v (.mp nm)]])) := by
  obtain ⟨le, t0, t1, t7, h7, g7, o0, z0, g0, g2, o1, o3, o4, o5, o6, z6, g6, o7, z7, g8, o8, z8, a8, b8, o9, z9, a9, b9, c20, c32, c76, c103, c108, c119, c117⟩ := hI
  constructor
  case le => exact Heap.le_upd (by first | exact z0 e.1 | exact z8 e.1 | exact z9 e.1) le
  all_goals try simp only [tget, upd_get]
  all_goals first | grind | (intro _; rfl) | grind [row7]
theorem R7.s11 {w : List Int} {sl : Int} {h0 : Heap} {n7 nm nb m n8 n9 : Nat} {D : Nat → Bool} {τ : Tmps} {h : Heap} (hI : R7 w sl h0 n7 nm nb m n8 n9 D τ h) (hD : D 11 = false) (e : D 9 = true ∧ D 7 = true)  : R7 w sl h0 n7 nm nb m n8 n9 (fun j => j == 11 || D j) τ (upd h n9 (.row 1 [[.v (.op nb 1 0 0)]])) := by
  obtain ⟨le, t0, t1, t7, h7, g7, o0, z0, g0, g2, o1, o3, o4, o5, o6, z6, g6, o7, z7, g8, o8, z8, a8, b8, o9, z9, a9, b9, c20, c32, c76, c103, c108, c119, c117⟩ := hI
  constructor
  case le => exact Heap.le_upd (by first | exact z0 e.1 | exact z8 e.1 | exact z9 e.1) le
  all_goals try simp only [tget, upd_get]
  all_goals first | grind | (intro _; rfl) | grind [row7]
theorem st_leaf {h0 H : Heap} {n8 n9 nm nb m n : Nat} {mm : KMap} {l : List It} (h8 : H n8 = some (.row 1 [[.v (.mp nm)]])) (h9 : H n9 = some (.row 1 [[.v (.op nb 1 0 0)]])) (hm : H nm = some (.map 0 0 (mapH mm))) (hb : H nb = some (frB m n)) (hr : H m = some (rowT l))
    (hle : h0.le H) (z1 : h0 nm = none) (z2 : h0 nb = none) (z3 : h0 m = none) : ∃ hA, Apart hA nm nb m n8 n9 ∧ stH hA nm nb m n mm l = H ∧ h0.le hA := by
  have d1 : ¬ nm = nb := map_ne_row hm hb
  have d2 : ¬ nm = m := map_ne_row hm hr
  have d3 : ¬ nb = m := fun e => by rw [e, hr] at hb; cases hb
  have d4 : ¬ nm = n8 := map_ne_row hm h8
  have d5 : ¬ nm = n9 := map_ne_row hm h9
  have d6 : ¬ m = n8 := fun e => by rw [e, h8] at hr; cases hr
  have d7 : ¬ m = n9 := fun e => by rw [e, h9] at hr; cases hr
  have d8 : ¬ nb = n8 := fun e => by rw [e, h8] at hb; cases hb
  have d9 : ¬ nb = n9 := fun e => by rw [e, h9] at hb; cases hb
  refine ⟨fun q => if q = nm then none else if q = nb then none else if q = m then none else H q, ⟨d1, d2, d3, by simp, by simp, by simp, by grind, by grind⟩, ?_, fun q => ?_⟩
  · funext q
    simp only [stH, frH, upd_get]
    grind
  · have := hle q
    simp only
    grind
theorem stH_le {h hA : Heap} {nm nb m n8 n9 n : Nat} {mm : KMap} {l : List It} (hle : h.le hA) (ha : Apart hA nm nb m n8 n9) : h.le (stH hA nm nb m n mm l) := fun q => by
  have := hle q; have := hle nm; have := hle nb; have := hle m; have := ha.z1; have := ha.z2; have := ha.z3
  simp only [stH, frH, upd_get]
  grind
theorem SearchCost (w : List Int) (slots : Int) : Fn0 Try.prog 7 [ints w, I slots] (.tup [I (srcRes w slots).1, I (srcRes w slots).2]) := by
  refine fn0A 177 keep7 ib7 mk7 Try.func7 fun h => ?_
  simp (maxSteps := 1000000) -dsimp -implicitDefEqProofs only [go_sem, ↓reduceIte, keep7, ib7, mk7, Try.f7]
  refine HFnF.mk (isCosted w slots) ?_
  by_cases hw : Wts w
  · rw [if_neg (not_not_intro hw)]
    have hml : w.length ≤ 9223372036854775807 := by have := hw.2; omega
    by_cases hs : 0 ≤ slots ∧ slots ≤ 8
    · rw [if_neg (not_not_intro hs)]
      by_cases hl : (w.length : Int) > 7
      · simp (maxSteps := 1000000) -dsimp -implicitDefEqProofs only [go_sem, ↓reduceIte, keep7, ib7, mk7, Try.f7, hml, hl]
        rw [srcRes, if_neg (not_not_intro hw), if_pos (by omega)]
      · by_cases hs3 : slots > 3
        · simp (maxSteps := 1000000) -dsimp -implicitDefEqProofs only [go_sem, ↓reduceIte, keep7, ib7, mk7, Try.f7, hml, hl, hs3]
          rw [srcRes, if_neg (not_not_intro hw), if_pos (by omega)]
        · simp (maxSteps := 1000000) -dsimp -implicitDefEqProofs only [go_sem, ↓reduceIte, keep7, ib7, mk7, Try.f7, hml, hl, hs3]
          intro n7 q_n7
          have z_n7 : h n7 = none := by first | exact q_n7.1 | exact q_n7 | exact q_n7.2.1 | exact q_n7.2 | exact q_n7.2.2.1 | exact q_n7.2.2 | exact q_n7.2.2.2.1 | exact q_n7.2.2.2 | exact q_n7.2.2.2.2.1 | exact q_n7.2.2.2.2 | exact q_n7.2.2.2.2.2.1 | exact q_n7.2.2.2.2.2 | exact q_n7.2.2.2.2.2.2.1 | exact q_n7.2.2.2.2.2.2 | exact q_n7.2.2.2.2.2.2.2.1 | exact q_n7.2.2.2.2.2.2.2 | exact q_n7.2.2.2.2.2.2.2.2.1 | exact q_n7.2.2.2.2.2.2.2.2 | exact q_n7.2.2.2.2.2.2.2.2.2.1 | exact q_n7.2.2.2.2.2.2.2.2.2 | exact q_n7.2.2.2.2.2.2.2.2.2.2.1 | exact q_n7.2.2.2.2.2.2.2.2.2.2 | exact q_n7.2.2.2.2.2.2.2.2.2.2.2.1 | exact q_n7.2.2.2.2.2.2.2.2.2.2.2 | exact q_n7.2.2.2.2.2.2.2.2.2.2.2.2.1 | exact q_n7.2.2.2.2.2.2.2.2.2.2.2.2 | exact q_n7.2.2.2.2.2.2.2.2.2.2.2.2.2.1 | exact q_n7.2.2.2.2.2.2.2.2.2.2.2.2.2
          refine HWp.regS (ib := ib7) mix (by kernel_rfl) keep7 (fun D τ h' => ∃ nm nb m n8 n9, R7 w slots h n7 nm nb m n8 n9 D τ h') ?_ ?_ ?_
          · refine ⟨0, 0, 0, 0, 0, ?_⟩
            constructor
            case le => exact Heap.le_upd z_n7 (Heap.le_upd z_n7 (Heap.le_refl _))
            case g7 => rw [upd_same]; rfl
            case h7 => exact z_n7
            all_goals first | rfl | (intro q; cases q)
          · rintro D τ h' ⟨nm, nb, m, n8, n9, hI⟩
            refine ⟨fun hD he => ?_, fun hD he => ?_, fun hD he => ?_, fun hD he => ?_, fun hD he => ?_, fun hD he => ?_, fun hD he => ?_, fun hD he => ?_, fun hD he => ?_, fun hD he => ?_, fun hD he => ?_, fun hD he => ?_, trivial⟩
            · clear he
              simp (maxSteps := 1000000) -dsimp -implicitDefEqProofs only [go_sem, ↓reduceIte, keep7, ib7, mk7, Try.f7]
              intro n hn
              exact ⟨n, nb, m, n8, n9, R7.s0 (by exact hI) hD hn⟩
            · clear he
              simp (maxSteps := 1000000) -dsimp -implicitDefEqProofs only [go_sem, ↓reduceIte, keep7, ib7, mk7, Try.f7, hI.t7, hI.g7, row7]
              exact ⟨nm, nb, m, n8, n9, R7.s1 (by exact hI) hD⟩
            · simp [edgeI, Region.binds] at he
              simp (maxSteps := 1000000) -dsimp -implicitDefEqProofs only [go_sem, ↓reduceIte, keep7, ib7, mk7, Try.f7, hI.o0 he.1, hI.o1 he.2, keyA, hI.g0 he.1 hD, keysLen_nil]
              exact ⟨nm, nb, m, n8, n9, R7.s2 (by exact hI) hD he⟩
            · simp [edgeI, Region.binds] at he
              simp (maxSteps := 1000000) -dsimp -implicitDefEqProofs only [go_sem, ↓reduceIte, keep7, ib7, mk7, Try.f7, hI.o0 he.1]
              exact ⟨nm, nb, m, n8, n9, R7.s3 (by exact hI) hD he⟩
            · clear he
              simp (maxSteps := 1000000) -dsimp -implicitDefEqProofs only [go_sem, ↓reduceIte, keep7, ib7, mk7, Try.f7, hI.t7, hI.g7, row7]
              exact ⟨nm, nb, m, n8, n9, R7.s4 (by exact hI) hD⟩
            · simp [edgeI, Region.binds] at he
              simp (maxSteps := 1000000) -dsimp -implicitDefEqProofs only [go_sem, ↓reduceIte, keep7, ib7, mk7, Try.f7, hI.o4 he, keyA]
              exact ⟨nm, nb, m, n8, n9, R7.s5 (by exact hI) hD⟩
            · simp [edgeI, Region.binds] at he
              simp (maxSteps := 1000000) -dsimp -implicitDefEqProofs only [go_sem, ↓reduceIte, keep7, ib7, mk7, Try.f7, hI.o5 he, itC_eq, stS]
              refine ⟨by omega, by omega, ?_⟩
              intro n hn
              exact ⟨nm, nb, n, n8, n9, R7.s6 (by exact hI) hD hn⟩
            · simp [edgeI, Region.binds] at he
              simp (maxSteps := 1000000) -dsimp -implicitDefEqProofs only [go_sem, ↓reduceIte, keep7, ib7, mk7, Try.f7, hI.o6 he]
              intro n hn
              exact ⟨nm, n, m, n8, n9, R7.s7 (by exact hI) hD he hn⟩
            · clear he
              simp (maxSteps := 1000000) -dsimp -implicitDefEqProofs only [go_sem, ↓reduceIte, keep7, ib7, mk7, Try.f7]
              intro n hn
              exact ⟨nm, nb, m, n, n9, R7.s8 (by exact hI) hD hn⟩
            · clear he
              simp (maxSteps := 1000000) -dsimp -implicitDefEqProofs only [go_sem, ↓reduceIte, keep7, ib7, mk7, Try.f7]
              intro n hn
              exact ⟨nm, nb, m, n8, n, R7.s9 (by exact hI) hD hn⟩
            · simp [edgeI, Region.binds] at he
              simp (maxSteps := 1000000) -dsimp -implicitDefEqProofs only [go_sem, ↓reduceIte, keep7, ib7, mk7, Try.f7, hI.o8 he.1, hI.o3 he.2.1, hI.a8 he.1 hD]
              exact ⟨nm, nb, m, n8, n9, R7.s10 (by exact hI) hD ⟨he.1, he.2.1⟩⟩
            · simp [edgeI, Region.binds] at he
              simp (maxSteps := 1000000) -dsimp -implicitDefEqProofs only [go_sem, ↓reduceIte, keep7, ib7, mk7, Try.f7, hI.o9 he.1, hI.o7 he.2.1, hI.a9 he.1 hD]
              exact ⟨nm, nb, m, n8, n9, R7.s11 (by exact hI) hD ⟨he.1, he.2.1⟩⟩
          · rintro D τ h' hD ⟨nm, nb, m, n8, n9, hI⟩
            have hd : ∀ i, i < 12 → D i = true := fun i hi => hD i hi
            show hwpF _ _ _ _ _ _ _ _ _ _ ()
            have t0 := hI.t0
            have t1 := hI.t1
            have t8 := hI.o8 (hd 8 (by omega))
            have t9 := hI.o9 (hd 9 (by omega))
            obtain ⟨hA, ha, rfl, hle⟩ := st_leaf (hI.b8 (hd 10 (by omega))) (hI.b9 (hd 11 (by omega))) (hI.g2 (hd 2 (by omega))) (hI.g8 (hd 7 (by omega))) (hI.g6 (hd 6 (by omega))) hI.le (hI.z0 (hd 0 (by omega))) (hI.z7 (hd 7 (by omega))) (hI.z6 (hd 6 (by omega)))
            clear hI hd hD
            simp (maxSteps := 1000000) -dsimp -implicitDefEqProofs only [go_sem, ↓reduceIte, keep7, ib7, mk7, Try.f7, t0, t1, t8, t9]
            have hwl : w.length ≤ 7 := by omega
            obtain ⟨sl, rfl⟩ : ∃ sl : Nat, slots = sl := ⟨slots.toNat, by omega⟩
            have hres : srcRes w (sl : Int) = match minS w sl with | some v => (v, 0) | none => (0, 4) := by
              rw [srcRes, if_neg (not_not_intro hw), if_neg (by omega)]; rfl
            refine loopA keep7 ib7 mk7 (fun _ : LSt => [(0, ints w), (1, I sl), (8, .op n8 1 0 0), (9, .op n9 1 0 0)]) (fun z => stH hA nm nb z.1 z.2.1 z.2.2.1 z.2.2.2.1) (LOK w sl hA nm nb n8 n9) (fun z => muI z.2.2.2.2 (z.2.2.2.1.take z.2.1)) (m, 1, _, [(stS w.length, 0)], setB (fun _ => none) (stS w.length) 0) ⟨by simp [SatL, tget, t0, t1, t8, t9], Heap.le_refl _, ⟨ha, mapOK_put (mm := []) (b := fun _ => none) ⟨keysLen_nil 3, fun _ => rfl⟩ (stS w.length) 0, by simp, ?_, imst_init w hwl sl⟩⟩ ?_
            · intro i h0 h1; simp only at h1; omega
            rintro ⟨m, n, mm, l, b⟩ ⟨ha, hb, hn, hH, hst⟩
            simp only at ha hb hn hH hst ⊢
            have g8 := ha.get8 (n := n) (mm := mm) (l := l)
            have g9 := ha.get9 (n := n) (mm := mm) (l := l)
            have gB := ha.getB (n := n) (mm := mm) (l := l)
            have hlen : (l.take n).length = n := by rw [List.length_take]; omega
            have hn2 : n < 4398046511103 := by have := hst.meas; omega
            simp (maxSteps := 1000000) -dsimp -implicitDefEqProofs only [go_sem, ↓reduceIte, keep7, ib7, mk7, Try.f7, g9, gB]
            refine HFnF.mk (fLen m n) ?_
            rcases Nat.eq_zero_or_pos n with h0 | h0
            · subst h0
              have h00 : ¬ (((0 : Nat) : Int) > 0) := by decide
              simp (maxSteps := 1000000) -dsimp -implicitDefEqProofs only [go_sem, ↓reduceIte, keep7, ib7, mk7, Try.f7, h00]
              rw [List.take_zero] at hst
              have hle' : h.le (stH hA nm nb m 0 mm l) := stH_le hle ha
              rw [hres, hst.none hw]
              exact ⟨rfl, hle'⟩
            · have h00 : ((n : Int) > 0) := by omega
              simp (maxSteps := 1000000) -dsimp -implicitDefEqProofs only [go_sem, ↓reduceIte, keep7, ib7, mk7, Try.f7, h00, g9, gB]
              refine HFnF.mkH (hpPop ha.d3 h0 hn hn2 (by rw [upd_ne _ _ _ _ (Ne.symm ha.d1)]; exact ha.z2) (by rw [upd_ne _ _ _ _ (Ne.symm ha.d2)]; exact ha.z3) hH) ?_
              rintro _ _ ⟨⟨x, d⟩, l1, rfl, p1, p2, p3, p4, rfl⟩
              rw [show frH (upd hA nm (HObj.map 0 0 (mapH mm))) nb m (n - 1) l1 = stH hA nm nb m (n - 1) mm l1 from rfl]
              simp (maxSteps := 1000000) -dsimp -implicitDefEqProofs only [go_sem, ↓reduceIte, keep7, ib7, mk7, Try.f7, itC_eq]
              intro n10 z10 n11 z11
              obtain ⟨a1, a2, a3, a4⟩ := stH_ne z10
              obtain ⟨b1, b2, b3, b4⟩ := stH_ne z11.2.2
              have d_10_11 : ¬ n10 = n11 := Ne.symm z11.1
              refine ⟨⟨?_, ?_⟩, ?_, ?_⟩
              · rw [upd_ne _ _ _ _ d_10_11, upd_same]
              · rw [upd_ne _ _ _ _ d_10_11, upd_same]
              · rw [upd_ne _ _ _ _ d_10_11]
              rw [upd_upd _ n11, upd_upd _ n10, stH_upd _ a1 a2 a3, stH_upd _ b1 b2 b3]
              have haB := (ha.upd a1 a2 a3 a4 (.row 4 [[.v (I x.s), .v (I x.q), .v (I x.left), .v (I d)]])).upd b1 b2 b3 (by rw [upd_ne _ _ _ _ z11.1]; exact b4) (.row 3 [[.v (I x.s), .v (I x.q), .v (I x.left)]])
              have hBh : h.le (upd (upd hA n10 (.row 4 [[.v (I x.s), .v (I x.q), .v (I x.left), .v (I d)]])) n11 (.row 3 [[.v (I x.s), .v (I x.q), .v (I x.left)]])) := Heap.le_upd (Heap.le_none hle b4) (Heap.le_upd (Heap.le_none hle a4) hle)
              have hBA : hA.le (upd (upd hA n10 (.row 4 [[.v (I x.s), .v (I x.q), .v (I x.left), .v (I d)]])) n11 (.row 3 [[.v (I x.s), .v (I x.q), .v (I x.left)]])) := Heap.le_upd b4 (Heap.le_upd a4 (Heap.le_refl _))
              have gB11 : (upd (upd hA n10 (.row 4 [[.v (I x.s), .v (I x.q), .v (I x.left), .v (I d)]])) n11 (.row 3 [[.v (I x.s), .v (I x.q), .v (I x.left)]])) n11 = some (.row 3 [[.v (I x.s), .v (I x.q), .v (I x.left)]]) := upd_same _ _ _
              generalize upd (upd hA n10 (.row 4 [[.v (I x.s), .v (I x.q), .v (I x.left), .v (I d)]])) n11 (.row 3 [[.v (I x.s), .v (I x.q), .v (I x.left)]]) = hB at haB hBh hBA gB11 ⊢
              have g8 := haB.get8 (n := n - 1) (mm := mm) (l := l1)
              have gM := haB.getM (n := n - 1) (mm := mm) (l := l1)
              have g11 : stH hB nm nb m (n - 1) mm l1 n11 = some (.row 3 [[.v (I x.s), .v (I x.q), .v (I x.left)]]) := by rw [stH_at b1 b2 b3]; exact gB11
              have hk := hb.1
              obtain ⟨v, hv1, hv2⟩ := hst.ent (x, d) (p1.mem_iff.2 List.mem_cons_self)
              have hg : mget [(x.s : Int), (x.q : Int), (x.left : Int)] mm = some (I v) := by have := hb.2 x; rw [hv1] at this; exact this
              simp (maxSteps := 1000000) -dsimp -implicitDefEqProofs only [go_sem, ↓reduceIte, keep7, ib7, mk7, Try.f7, g8, gM, g11, hk, hg]
              refine ⟨fun hgt => ?_, fun hgt => ⟨fun hl0 => ?_, fun hl0 => ?_⟩⟩
              · have hs := hst.stale p1 hv1 hgt
                exact ⟨(m, n - 1, mm, l1, b), stH_mono hBA, ⟨ha, hb, by simp only; omega, p3, hs.1⟩, hs.2⟩
              · have hvd : v = d := by omega
                subst hvd
                change (x.left : Int) = 0 at hl0
                rw [hres, hst.found hw p2 hv1 (show x.left = 0 by omega)]
                exact ⟨rfl, stH_le hBh haB⟩
              · have hvd : v = d := by omega
                subst hvd
                change ¬ ((x.left : Int) = 0) at hl0
                have hpop := hst.pop p1 hv1 (show x.left ≠ 0 by omega)
                have hwx := hst.inv.walk x v hv1
                have hokx := wlkI_ok hwx
                have hoks := okW_okS hwl hokx
                have h0v := (hst.bnd.ok x v hv1).2.1
                have hvk := (hst.bnd.ok x v hv1).2.2
                have hkn := knw_le b
                have hμ : muI b (l1.take (n - 1)) < muI b (l.take n) := hpop.2
                have hP : PSt w sl hB nm nb n8 n9 x v (muI b (l1.take (n - 1))) (fun _ => False) (m, n - 1, mm, l1, b) := ⟨haB, hb, by simp only; omega, p3, hpop.1⟩
                generalize muI b (l1.take (n - 1)) = μ at hP hμ
                have es : IntKind.i64.wrap ((x.s : Int) + 1) = ((x.s + 1 : Nat) : Int) := by rw [IntWalk.i64_in _ (by have := hoks.1; omega)]; rfl
                have el : IntKind.i64.wrap ((x.left : Int) - 1) = ((x.left - 1 : Nat) : Int) := by rw [IntWalk.i64_in _ (by have := hoks.2.2; omega)]; omega
                rw [show stH hB nm nb m (n - 1) mm l1 = stZ hB nm nb (m, n - 1, mm, l1, b) from rfl]
                rw [es, el]
                have g11z : ∀ (hC : Heap) (z : LSt), hC n11 = some (.row 3 [[.v (I x.s), .v (I x.q), .v (I x.left)]]) → Apart hC nm nb z.1 n8 n9 → stZ hC nm nb z n11 = some (.row 3 [[.v (I x.s), .v (I x.q), .v (I x.left)]]) := fun hC z g az => by
                  rw [stZ, stH_at b1 b2 (fun e => by have := az.z3; rw [← e, g] at this; cases this)]; exact g
                clear g8 gM g11 hg hk p1 p2 p3 p4 hv1 hv2 z10 z11 hpop hst hb hH hn hlen hn2 gB g9 h00 h0
                have en : IntKind.i64.wrap ((w.length : Int) + 1) = ((w.length + 1 : Nat) : Int) := by rw [IntWalk.i64_in _ (by omega)]; rfl
                apply shareS
                case m =>
                  intro key
                  have hP' : ∀ dn', (∀ e, ¬ dn' e) → PSt w sl hB nm nb n8 n9 x v μ dn' (m, n - 1, mm, l1, b) := fun dn' hd => hP.imp fun e he => (hd e he).elim
                  rcases Nat.lt_trichotomy (x.s + 1) x.left with hc | hc | hc
                  · have c1 : ((x.s + 1 : Nat) : Int) < (x.left : Int) := by omega
                    have c2 : ¬ (x.s : Int) = ((x.left - 1 : Nat) : Int) := by omega
                    have ew : w[x.s]? = some (wAt w x.s) := by
                      have : x.s < w.length := by have := hokx.2.1; omega
                      unfold wAt; rw [List.getD_eq_getElem?_getD, List.getElem?_eq_getElem this]; rfl
                    have ewi := wAt_in hw.1 x.s
                    have ev : IntKind.i64.wrap (v + wAt w x.s) = v + wAt w x.s := IntWalk.i64_in _ (by omega)
                    simp (maxSteps := 1000000) -dsimp -implicitDefEqProofs only [go_sem, ↓reduceIte, keep7, ib7, mk7, Try.f7, c1, c2, ew, ev, g11z _ _ gB11 hP.ap]
                    have he : ((⟨x.s + 1, x.q, x.left⟩, wAt w x.s) : It) ∈ succI w sl x := by
                      unfold succI; rw [if_pos hc]; simp
                    refine ⟨by have := hokx.2.1; omega, HFnF.mkH (reachP hw hwl hP hwx h0v he) ?_⟩
                    rintro _ _ ⟨z, rfl, hz⟩
                    simp (maxSteps := 1000000) -dsimp -implicitDefEqProofs only [go_sem, ↓reduceIte, keep7, ib7, mk7, Try.f7, c1, c2, hml, en, es, el, g11z _ _ gB11 hz.ap]
                    refine ⟨by omega, ?_⟩
                    refine loopA keep7 ib7 mk7 (fun y : Nat × Option Nat × LSt => [(0, ints w), (1, I sl), (8, .op n8 1 0 0), (9, .op n9 1 0 0), (11, .op n11 3 0 0), (12, I v), (13, .fn (.func 20) [] [.op n8 1 0 0, .op n9 1 0 0]), (14, oval 1 (bitsN y.1 x.q).length y.2.1), (111, I ((w.length + 1 : Nat) : Int)), (112, I y.1)]) (fun y => stZ (oheap hB (rowsI (natL (bitsN y.1 x.q))) y.2.1) nm nb y.2.2) (S1 w sl hB nm nb n8 n9 x v μ) (fun y => w.length + 1 - y.1) (0, none, z) ⟨by simp [SatL, tget, oval, bitsN], Heap.le_refl _, Nat.zero_le _, hz.imp fun e q => .inr (q.elim (fun q => by simpa [adv12, hc, show ¬ x.s + 1 = x.left by omega] using q) fun ⟨i, q, _⟩ => absurd q (by simp [bitsN])), rfl⟩ ?_
                    exact key.get
                  · have c1 : ¬ ((x.s + 1 : Nat) : Int) < (x.left : Int) := by omega
                    have c2 : ((x.s : Int) = ((x.left - 1 : Nat) : Int)) = True := eq_true (by omega)
                    simp (maxSteps := 1000000) -dsimp -implicitDefEqProofs only [go_sem, ↓reduceIte, keep7, ib7, mk7, Try.f7, c1, c2, g11z _ _ gB11 hP.ap]
                    have he : ((⟨x.s, x.q, x.left - 1⟩, 0) : It) ∈ succI w sl x := by
                      unfold succI; rw [if_pos hc]; simp
                    have hrp := reachP hw hwl hP hwx h0v he
                    simp only [Int.add_zero] at hrp
                    refine HFnF.mkH hrp ?_
                    rintro _ _ ⟨z, rfl, hz⟩
                    simp (maxSteps := 1000000) -dsimp -implicitDefEqProofs only [go_sem, ↓reduceIte, keep7, ib7, mk7, Try.f7, c1, c2, hml, en, es, el, g11z _ _ gB11 hz.ap]
                    refine ⟨by omega, ?_⟩
                    refine loopA keep7 ib7 mk7 (fun y : Nat × Option Nat × LSt => [(0, ints w), (1, I sl), (8, .op n8 1 0 0), (9, .op n9 1 0 0), (11, .op n11 3 0 0), (12, I v), (13, .fn (.func 20) [] [.op n8 1 0 0, .op n9 1 0 0]), (14, oval 1 (bitsN y.1 x.q).length y.2.1), (111, I ((w.length + 1 : Nat) : Int)), (112, I y.1)]) (fun y => stZ (oheap hB (rowsI (natL (bitsN y.1 x.q))) y.2.1) nm nb y.2.2) (S1 w sl hB nm nb n8 n9 x v μ) (fun y => w.length + 1 - y.1) (0, none, z) ⟨by simp [SatL, tget, oval, bitsN], Heap.le_refl _, Nat.zero_le _, hz.imp fun e q => .inr (q.elim (fun q => by simpa [adv12, hc, show ¬ x.s + 1 < x.left by omega] using q) fun ⟨i, q, _⟩ => absurd q (by simp [bitsN])), rfl⟩ ?_
                    exact key.get
                  · have c1 : ¬ ((x.s + 1 : Nat) : Int) < (x.left : Int) := by omega
                    have c2 : ¬ (x.s : Int) = ((x.left - 1 : Nat) : Int) := by omega
                    simp (maxSteps := 1000000) -dsimp -implicitDefEqProofs only [go_sem, ↓reduceIte, keep7, ib7, mk7, Try.f7, c1, c2, hml, en, es, el, g11z _ _ gB11 hP.ap]
                    refine ⟨by omega, ?_⟩
                    refine loopA keep7 ib7 mk7 (fun y : Nat × Option Nat × LSt => [(0, ints w), (1, I sl), (8, .op n8 1 0 0), (9, .op n9 1 0 0), (11, .op n11 3 0 0), (12, I v), (13, .fn (.func 20) [] [.op n8 1 0 0, .op n9 1 0 0]), (14, oval 1 (bitsN y.1 x.q).length y.2.1), (111, I ((w.length + 1 : Nat) : Int)), (112, I y.1)]) (fun y => stZ (oheap hB (rowsI (natL (bitsN y.1 x.q))) y.2.1) nm nb y.2.2) (S1 w sl hB nm nb n8 n9 x v μ) (fun y => w.length + 1 - y.1) (0, none, (m, n - 1, mm, l1, b)) ⟨by simp [SatL, tget, oval, bitsN], Heap.le_refl _, Nat.zero_le _, hP' _ fun e q => q.elim (fun q => by simp [adv12, show ¬ x.s + 1 = x.left by omega, show ¬ x.s + 1 < x.left by omega] at q) fun ⟨i, q, _⟩ => absurd q (by simp [bitsN]), rfl⟩ ?_
                    exact key.get
                case t =>
                  clear hP
                  rintro ⟨k, mo, z⟩ ⟨hk, hz, hrs⟩
                  simp only at hk hz hrs ⊢
                  have hbl : (bitsN k x.q).length ≤ k := by simpa [bitsN] using List.length_filter_le (fun i => x.q.testBit i) (List.range k)
                  rcases Nat.lt_or_ge k (w.length + 1) with hlt | hge
                  · have hlt' : (k : Int) < ((w.length + 1 : Nat) : Int) := by omega
                    have ei : IntKind.i64.wrap ((k : Int) + 1) = ((k + 1 : Nat) : Int) := by rw [IntWalk.i64_in _ (by omega)]; rfl
                    cases mo with
                    | none =>
                      have hq0 : bitsN k x.q = [] := hrs
                      simp (maxSteps := 1000000) -dsimp -implicitDefEqProofs only [go_sem, ↓reduceIte, keep7, ib7, mk7, Try.f7, oheap_none, oval_none, hlt', g11z _ _ gB11 hz.ap, tbit hoks.2.1 (show k < 8 by omega), ei]
                      constructor
                      · intro hbit
                        have hbit : x.q / 2 ^ k % 2 = 1 := by omega
                        have hb1 : bitsN (k + 1) x.q = [k] := by rw [bits_t hbit, hq0]; rfl
                        refine ⟨by omega, by omega, by omega, ?_⟩
                        intro r zr
                        obtain ⟨r1, r2, r3, r4⟩ := stH_ne zr
                        have hrn : ¬ n11 = r := fun e => by rw [← e, gB11] at r4; cases r4
                        have hz2 := hz.push r1 r2 r3 r4 (rowsI (natL [k]))
                        rw [stZ, stH_upd _ r1 r2 r3, ← stZ, show HObj.row 1 [[Cell.v (HVal.int .i64 (k : Int))]] = rowsI (natL [k]) from rfl]
                        have gC : upd hB r (rowsI (natL [k])) n11 = some (.row 3 [[.v (I x.s), .v (I x.q), .v (I x.left)]]) := by rw [upd_ne _ _ _ _ hrn]; exact gB11
                        simp (maxSteps := 1000000) -dsimp -implicitDefEqProofs only [go_sem, ↓reduceIte, keep7, ib7, mk7, Try.f7, g11z _ _ gC hz2.ap]
                        have he : ((⟨k, x.q, x.left⟩, 0) : It) ∈ succI w sl x := by
                          unfold succI
                          simp only [List.mem_append, List.mem_map]
                          exact .inl (.inl (.inr ⟨k, mem_bits.2 ⟨hlt, by rw [Nat.testBit_eq_decide_div_mod_eq, hbit]; rfl⟩, rfl⟩))
                        have hrp := reachP hw hwl hz2 hwx h0v he
                        simp only [Int.add_zero] at hrp
                        refine HFnF.mkH hrp ?_
                        rintro _ _ ⟨z', rfl, hz'⟩
                        obtain ⟨hs1, hs2⟩ := hz'.strip hz.ap
                        simp (maxSteps := 1000000) -dsimp -implicitDefEqProofs only [go_sem, ↓reduceIte, keep7, ib7, mk7, Try.f7, ei]
                        refine ⟨(k + 1, some r, z'), ⟨by simp only [hb1]; rfl, rfl⟩, by simp only [hb1, oheap_some]; exact Heap.le_refl _, ⟨by simp only; omega, hs1.imp ?_, ⟨r4, r1, r2, hs2⟩⟩, by simp only; omega⟩
                        rintro e (q | ⟨i, q, rfl⟩)
                        · exact .inl (.inl q)
                        · rcases (mem_bits_t hbit).1 q with q | rfl
                          · exact .inl (.inr ⟨i, q, rfl⟩)
                          · exact .inr rfl
                      · intro hbit
                        have hbit : ¬ x.q / 2 ^ k % 2 = 1 := by omega
                        have hb1 := bits_f hbit
                        refine ⟨(k + 1, none, z), ⟨rfl, rfl⟩, Heap.le_refl _, ⟨by simp only; omega, ?_, ?_⟩, by simp only; omega⟩
                        · simp only [hb1]; exact hz
                        · simp only [hb1]; exact hrs
                    | some r =>
                      obtain ⟨r4, r1, r2, r3⟩ := hrs
                      have hrn : ¬ n11 = r := fun e => by rw [← e, gB11] at r4; cases r4
                      have hz2 := hz.push r1 r2 r3 r4 (rowsI (natL (bitsN k x.q)))
                      have gC : upd hB r (rowsI (natL (bitsN k x.q))) n11 = some (.row 3 [[.v (I x.s), .v (I x.q), .v (I x.left)]]) := by rw [upd_ne _ _ _ _ hrn]; exact gB11
                      have gr : stZ (upd hB r (rowsI (natL (bitsN k x.q)))) nm nb z r = some (rowsI (natL (bitsN k x.q))) := by rw [stZ, stH_at r1 r2 r3, upd_same]
                      have hnl : (natL (bitsN k x.q)).length = (bitsN k x.q).length := by simp [natL]
                      simp (maxSteps := 1000000) -dsimp -implicitDefEqProofs only [go_sem, ↓reduceIte, keep7, ib7, mk7, Try.f7, oheap_some, oval_some, hlt', g11z _ _ gC hz2.ap, tbit hoks.2.1 (show k < 8 by omega), ei, gr, hnl]
                      constructor
                      · intro hbit
                        have hbit : x.q / 2 ^ k % 2 = 1 := by omega
                        have hb1 := bits_t hbit
                        refine ⟨by omega, by omega, by omega, Nat.le_refl _, by omega, by omega, ?_⟩
                        intro r' zr
                        obtain ⟨u1, u2, u3, u4⟩ := stH_ne zr
                        rw [upd_none] at u4
                        have hle' := stZ_app (o := rowsI (natL (bitsN k x.q))) (o' := rowsI (natL (bitsN (k + 1) x.q))) r1 r2 r3 r4 u1 u2 u3 u4.2 u4.1
                        have er : List.take (bitsN k x.q).length (((natL (bitsN k x.q)).map fun n => [I n]).map (List.map Cell.v)) ++ [[Cell.v (HVal.int .i64 (k : Int))]] = ((natL (bitsN (k + 1) x.q)).map fun n => [I n]).map (List.map Cell.v) := by
                          rw [List.take_of_length_le (by simp [natL]), hb1]; simp [natL]
                        rw [er]
                        have hz3 := hz.push u1 u2 u3 u4.2 (rowsI (natL (bitsN (k + 1) x.q)))
                        have hrn' : ¬ n11 = r' := fun e => by rw [← e, gB11] at u4; cases u4.2
                        have gH : upd (upd (stZ (upd hB r (rowsI (natL (bitsN k x.q)))) nm nb z) r .gone) r' (rowsI (natL (bitsN (k + 1) x.q))) n11 = some (.row 3 [[.v (I x.s), .v (I x.q), .v (I x.left)]]) := by
                          rw [upd_ne _ _ _ _ hrn', upd_ne _ _ _ _ hrn, g11z _ _ gC hz2.ap]
                        simp (maxSteps := 1000000) -dsimp -implicitDefEqProofs only [go_sem, ↓reduceIte, keep7, ib7, mk7, Try.f7, gH]
                        have he : ((⟨k, x.q, x.left⟩, 0) : It) ∈ succI w sl x := by
                          unfold succI
                          simp only [List.mem_append, List.mem_map]
                          exact .inl (.inl (.inr ⟨k, mem_bits.2 ⟨hlt, by rw [Nat.testBit_eq_decide_div_mod_eq, hbit]; rfl⟩, rfl⟩))
                        have hrp := reachP hw hwl hz3 hwx h0v he
                        simp only [Int.add_zero] at hrp
                        refine HFnF.wk (Heap.wk_of_le hle') (HFnF.mkH hrp ?_)
                        rintro _ _ ⟨z', rfl, hz'⟩
                        obtain ⟨hs1, hs2⟩ := hz'.strip hz.ap
                        simp (maxSteps := 1000000) -dsimp -implicitDefEqProofs only [go_sem, ↓reduceIte, keep7, ib7, mk7, Try.f7, ei]
                        refine ⟨(k + 1, some r', z'), ⟨by simp only [hb1, oval_some, List.length_append]; rfl, rfl⟩, Heap.le_refl _, ⟨by simp only; omega, hs1.imp ?_, ⟨u4.2, u1, u2, hs2⟩⟩, by simp only; omega⟩
                        rintro e (q | ⟨i, q, rfl⟩)
                        · exact .inl (.inl q)
                        · rcases (mem_bits_t hbit).1 q with q | rfl
                          · exact .inl (.inr ⟨i, q, rfl⟩)
                          · exact .inr rfl
                      · intro hbit
                        have hbit : ¬ x.q / 2 ^ k % 2 = 1 := by omega
                        have hb1 := bits_f hbit
                        refine ⟨(k + 1, some r, z), ⟨by simp only [hb1]; rfl, rfl⟩, by simp only [hb1, oheap_some]; exact Heap.le_refl _, ⟨by simp only; omega, ?_, ?_⟩, by simp only; omega⟩
                        · simp only [hb1]; exact hz
                        · simp only [hb1]; exact ⟨r4, r1, r2, r3⟩
                  · have hlt' : ¬ (k : Int) < ((w.length + 1 : Nat) : Int) := by omega
                    obtain rfl : k = w.length + 1 := by omega
                    have hb7 : (bitsN (w.length + 1) x.q).length ≤ 9223372036854775807 := by omega
                    cases mo with
                    | none =>
                      have hq0 : bitsN (w.length + 1) x.q = [] := hrs
                      simp (maxSteps := 1000000) -dsimp -implicitDefEqProofs only [go_sem, ↓reduceIte, keep7, ib7, mk7, Try.f7, oheap_none, oval_none, hlt', hq0, g11z _ _ gB11 hz.ap, shl64' hoks.1, or64' hoks.2.1 hoks.1]
                      apply shareS
                      case m =>
                        intro key2
                        refine ⟨fun hs0 => ?_, fun hs0 => ?_⟩
                        · have he : ((⟨x.s, x.q ||| 2 ^ x.s, x.left⟩, 0) : It) ∈ succI w sl x := by
                            unfold succI; rw [if_pos (show (bitsN (w.length + 1) x.q).length < sl by rw [hq0]; exact hs0)]; simp
                          have hrp := reachP hw hwl hz hwx h0v he
                          simp only [Int.add_zero] at hrp
                          refine HFnF.mkH hrp ?_
                          rintro _ _ ⟨z', rfl, hz'⟩
                          simp (maxSteps := 1000000) -dsimp -implicitDefEqProofs only [go_sem, ↓reduceIte, keep7, ib7, mk7, Try.f7]
                          refine loopA keep7 ib7 mk7 (fun _ : LSt => [(0, ints w), (1, I sl), (8, .op n8 1 0 0), (9, .op n9 1 0 0), (154, I 0), (155, I 0)]) (fun z => stZ hB nm nb z) (PSt w sl hB nm nb n8 n9 x v μ (dnA w sl x (bitsN (w.length + 1) x.q).length)) (fun _ => 0) z' ⟨by simp [SatL, tget], Heap.le_refl _, hz'.imp ?_⟩ ?_
                          · rintro e (q | ⟨i, q, rfl⟩ | ⟨_, rfl⟩ | ⟨i, q, _⟩)
                            · exact .inl (.inl q)
                            · exact .inl (.inr ⟨i, q, rfl⟩)
                            · exact .inr rfl
                            · rw [hq0] at q; simp at q
                          exact key2.get
                        · refine loopA keep7 ib7 mk7 (fun _ : LSt => [(0, ints w), (1, I sl), (8, .op n8 1 0 0), (9, .op n9 1 0 0), (154, I 0), (155, I 0)]) (fun z => stZ hB nm nb z) (PSt w sl hB nm nb n8 n9 x v μ (dnA w sl x (bitsN (w.length + 1) x.q).length)) (fun _ => 0) z ⟨by simp [SatL, tget], Heap.le_refl _, hz.imp ?_⟩ ?_
                          · rintro e (q | ⟨i, q, rfl⟩ | ⟨q, _⟩ | ⟨i, q, _⟩)
                            · exact .inl q
                            · exact .inr ⟨i, q, rfl⟩
                            · rw [hq0] at q; exact absurd q hs0
                            · rw [hq0] at q; simp at q
                          exact key2.get
                      case t =>
                        intro z hz
                        have h00 : ¬ ((0 : Int) < 0) := by decide
                        simp (maxSteps := 1000000) -dsimp -implicitDefEqProofs only [go_sem, ↓reduceIte, keep7, ib7, mk7, Try.f7, h00]
                        obtain ⟨f1, f2⟩ := hz.fin ha hBA
                        exact ⟨z, stZ_leB hBA, f1, by omega⟩
                    | some r =>
                      obtain ⟨r4, r1, r2, r3⟩ := hrs
                      have hrn : ¬ n11 = r := fun e => by rw [← e, gB11] at r4; cases r4
                      have hz2 := hz.push r1 r2 r3 r4 (rowsI (natL (bitsN (w.length + 1) x.q)))
                      have gC : upd hB r (rowsI (natL (bitsN (w.length + 1) x.q))) n11 = some (.row 3 [[.v (I x.s), .v (I x.q), .v (I x.left)]]) := by rw [upd_ne _ _ _ _ hrn]; exact gB11
                      generalize hCe : upd hB r (rowsI (natL (bitsN (w.length + 1) x.q))) = hC at hz2 gC
                      have hCr : hC r = some (rowsI (natL (bitsN (w.length + 1) x.q))) := by rw [← hCe, upd_same]
                      have hAC : hA.le hC := by rw [← hCe]; exact Heap.le_upd (Heap.le_none hBA r4) hBA
                      simp (maxSteps := 1000000) -dsimp -implicitDefEqProofs only [go_sem, ↓reduceIte, keep7, ib7, mk7, Try.f7, oheap_some, oval_some, hlt', hb7, hCe, g11z _ _ gC hz2.ap, shl64' hoks.1, or64' hoks.2.1 hoks.1]
                      apply shareS
                      case m =>
                        intro key2
                        refine ⟨fun hs0 => ?_, fun hs0 => ?_⟩
                        · have he : ((⟨x.s, x.q ||| 2 ^ x.s, x.left⟩, 0) : It) ∈ succI w sl x := by
                            unfold succI; rw [if_pos hs0]; simp
                          have hrp := reachP hw hwl hz2 hwx h0v he
                          simp only [Int.add_zero] at hrp
                          refine HFnF.mkH hrp ?_
                          rintro _ _ ⟨z', rfl, hz'⟩
                          simp (maxSteps := 1000000) -dsimp -implicitDefEqProofs only [go_sem, ↓reduceIte, keep7, ib7, mk7, Try.f7, hb7]
                          refine loopA keep7 ib7 mk7 (fun y : Nat × LSt => [(0, ints w), (1, I sl), (8, .op n8 1 0 0), (9, .op n9 1 0 0), (11, .op n11 3 0 0), (12, I v), (13, .fn (.func 20) [] [.op n8 1 0 0, .op n9 1 0 0]), (153, .os r 1 0 (bitsN (w.length + 1) x.q).length), (154, I (bitsN (w.length + 1) x.q).length), (155, I y.1)]) (fun y => stZ hC nm nb y.2) (fun y => y.1 ≤ (bitsN (w.length + 1) x.q).length ∧ PSt w sl hC nm nb n8 n9 x v μ (dnA w sl x y.1) y.2) (fun y => (bitsN (w.length + 1) x.q).length - y.1) (0, z') ⟨by simp [SatL, tget], Heap.le_refl _, Nat.zero_le _, hz'.imp ?_⟩ ?_
                          · rintro e (q | ⟨i, q, rfl⟩ | ⟨_, rfl⟩ | ⟨i, q, _⟩)
                            · exact .inl (.inl q)
                            · exact .inl (.inr ⟨i, q, rfl⟩)
                            · exact .inr rfl
                            · simp at q
                          exact key2.get
                        · refine loopA keep7 ib7 mk7 (fun y : Nat × LSt => [(0, ints w), (1, I sl), (8, .op n8 1 0 0), (9, .op n9 1 0 0), (11, .op n11 3 0 0), (12, I v), (13, .fn (.func 20) [] [.op n8 1 0 0, .op n9 1 0 0]), (153, .os r 1 0 (bitsN (w.length + 1) x.q).length), (154, I (bitsN (w.length + 1) x.q).length), (155, I y.1)]) (fun y => stZ hC nm nb y.2) (fun y => y.1 ≤ (bitsN (w.length + 1) x.q).length ∧ PSt w sl hC nm nb n8 n9 x v μ (dnA w sl x y.1) y.2) (fun y => (bitsN (w.length + 1) x.q).length - y.1) (0, z) ⟨by simp [SatL, tget], Heap.le_refl _, Nat.zero_le _, hz2.imp ?_⟩ ?_
                          · rintro e (q | ⟨i, q, rfl⟩ | ⟨q, _⟩ | ⟨i, q, _⟩)
                            · exact .inl q
                            · exact .inr ⟨i, q, rfl⟩
                            · exact absurd q hs0
                            · simp at q
                          exact key2.get
                      case t =>
                        rintro ⟨j, z⟩ ⟨hj, hz⟩
                        simp only at hj hz ⊢
                        rcases Nat.lt_or_ge j (bitsN (w.length + 1) x.q).length with hjl | hjg
                        · have hjl' : (j : Int) < ((bitsN (w.length + 1) x.q).length : Int) := by omega
                          have gr : stZ hC nm nb z r = some (rowsI (natL (bitsN (w.length + 1) x.q))) := by
                            rw [stZ, stH_at r1 r2 (fun e => by have := hz.ap.z3; rw [← e, hCr] at this; cases this)]; exact hCr
                          have ej : (natL (bitsN (w.length + 1) x.q))[j]? = some (((bitsN (w.length + 1) x.q)[j] : Nat) : Int) := by
                            simp [natL, List.getElem?_eq_getElem hjl]
                          have hi := mem_bits.1 (List.getElem_mem hjl)
                          generalize hie : (bitsN (w.length + 1) x.q)[j] = i at ej hi
                          have hi8 : i < 8 := by omega
                          have ei : IntKind.i64.wrap ((j : Int) + 1) = ((j + 1 : Nat) : Int) := by rw [IntWalk.i64_in _ (by omega)]; rfl
                          simp (maxSteps := 1000000) -dsimp -implicitDefEqProofs only [go_sem, ↓reduceIte, keep7, ib7, mk7, Try.f7, hjl', gr, ej, g11z _ _ gC hz.ap, shl64' hoks.1, shl64' hi8, clr64' hoks.2.1 hi8, orc64' hoks.2.1 hoks.1 i]
                          have he : ((⟨x.s, clrB x.q i ||| 2 ^ x.s, x.left⟩, 0) : It) ∈ succI w sl x := by
                            unfold succI
                            simp only [List.mem_append, List.mem_map]
                            exact .inr ⟨i, mem_bits.2 hi, rfl⟩
                          have hrp := reachP hw hwl hz hwx h0v he
                          simp only [Int.add_zero] at hrp
                          refine HFnF.mkH hrp ?_
                          rintro _ _ ⟨z', rfl, hz'⟩
                          simp (maxSteps := 1000000) -dsimp -implicitDefEqProofs only [go_sem, ↓reduceIte, keep7, ib7, mk7, Try.f7, ei]
                          refine ⟨(j + 1, z'), rfl, Heap.le_refl _, ⟨by simp only; omega, hz'.imp ?_⟩, by simp only; omega⟩
                          rintro e (q | q | q | ⟨i', q, rfl⟩)
                          · exact .inl (.inl q)
                          · exact .inl (.inr (.inl q))
                          · exact .inl (.inr (.inr (.inl q)))
                          · rw [List.take_succ_eq_append_getElem hjl, hie, List.mem_append, List.mem_singleton] at q
                            rcases q with q | rfl
                            · exact .inl (.inr (.inr (.inr ⟨i', q, rfl⟩)))
                            · exact .inr rfl
                        · have hjl' : ¬ (j : Int) < ((bitsN (w.length + 1) x.q).length : Int) := by omega
                          obtain rfl : j = (bitsN (w.length + 1) x.q).length := by omega
                          simp (maxSteps := 1000000) -dsimp -implicitDefEqProofs only [go_sem, ↓reduceIte, keep7, ib7, mk7, Try.f7, hjl']
                          obtain ⟨f1, f2⟩ := hz.fin ha hAC
                          exact ⟨z, stZ_leB hAC, f1, by omega⟩
    · rw [if_pos hs]
      simp (maxSteps := 1000000) -dsimp -implicitDefEqProofs only [go_sem, ↓reduceIte, keep7, ib7, mk7, Try.f7]
      rw [srcRes, if_neg (not_not_intro hw), if_pos (by omega)]
  · rw [if_pos hw]
    simp (maxSteps := 1000000) -dsimp -implicitDefEqProofs only [go_sem, ↓reduceIte, keep7, ib7, mk7, Try.f7]
    rw [srcRes, if_pos hw]
/-! the least cost by its recursion -/
def bstF (r l s : Nat → Int) : Nat → Int
  | 0 => -1
  | k + 1 => if 0 ≤ r k ∧ 0 ≤ l k ∧ (bstF r l s k < 0 ∨ s k + r k + l k < bstF r l s k) then s k + r k + l k else bstF r l s k
def lsF (w : List Int) : Nat → Nat → Nat → Nat → Int
  | 0, _, _, _ => 0
  | f + 1, a, b, c => if b ≤ a + 1 then 0 else if c = 0 then -1 else bstF (fun j => lsF w f (a + 1 + j) b (c - 1)) (fun j => lsF w f a (a + 1 + j) c) (fun j => sumW w a (j + 1)) (b - a - 1)
def ls (w : List Int) (a b c : Nat) : Int := lsF w (b - a) a b c
theorem bstF_congr {r l s r' l' : Nat → Int} : ∀ k, (∀ j, j < k → r j = r' j ∧ l j = l' j) → bstF r l s k = bstF r' l' s k
  | 0, _ => rfl
  | k + 1, h => by
    rw [bstF, bstF, bstF_congr k fun j hj => h j (by omega), (h k (by omega)).1, (h k (by omega)).2]
theorem lsF_eq (w : List Int) : ∀ f g a b c, b - a ≤ f → b - a ≤ g → lsF w f a b c = lsF w g a b c
  | 0, 0, _, _, _, _, _ => rfl
  | 0, g + 1, a, b, c, h, _ => by rw [lsF, lsF, if_pos (by omega)]
  | f + 1, 0, a, b, c, _, h => by rw [lsF, lsF, if_pos (by omega)]
  | f + 1, g + 1, a, b, c, h1, h2 => by
    rw [lsF, lsF]
    split
    · rfl
    · split
      · rfl
      · exact bstF_congr _ fun j hj => ⟨lsF_eq w f g _ _ _ (by omega) (by omega), lsF_eq w f g _ _ _ (by omega) (by omega)⟩
theorem ls_short {w : List Int} {a b c : Nat} (h : b ≤ a + 1) : ls w a b c = 0 := by
  unfold ls
  cases e : b - a with
  | zero => rfl
  | succ f => rw [lsF, if_pos h]
theorem ls_none {w : List Int} {a b : Nat} (h : a + 1 < b) : ls w a b 0 = -1 := by
  unfold ls
  obtain ⟨f, hf⟩ : ∃ f, b - a = f + 1 := ⟨b - a - 1, by omega⟩
  rw [hf, lsF, if_neg (by omega), if_pos rfl]
theorem ls_rec {w : List Int} {a b c : Nat} (h : a + 1 < b) (hc : 0 < c) : ls w a b c = bstF (fun j => ls w (a + 1 + j) b (c - 1)) (fun j => ls w a (a + 1 + j) c) (fun j => sumW w a (j + 1)) (b - a - 1) := by
  have hf : b - a = (b - a - 1) + 1 := by omega
  unfold ls
  rw [hf, lsF, if_neg (by omega), if_neg (by omega)]
  rw [show b - a - 1 + 1 - 1 = b - a - 1 by omega]
  exact bstF_congr _ fun j hj => ⟨lsF_eq w _ _ _ _ _ (by omega) (by omega), lsF_eq w _ _ _ _ _ (by omega) (by omega)⟩
theorem bstF_spec {r l s : Nat → Int} (hs : ∀ k, 0 ≤ s k) : ∀ k, (bstF r l s k = -1 ∧ ∀ j, j < k → ¬ (0 ≤ r j ∧ 0 ≤ l j)) ∨ (0 ≤ bstF r l s k ∧ (∃ j, j < k ∧ 0 ≤ r j ∧ 0 ≤ l j ∧ bstF r l s k = s j + r j + l j) ∧ ∀ j, j < k → 0 ≤ r j → 0 ≤ l j → bstF r l s k ≤ s j + r j + l j)
  | 0 => .inl ⟨rfl, fun j h => absurd h (Nat.not_lt_zero j)⟩
  | k + 1 => by
    have hk := hs k
    rw [bstF]
    rcases bstF_spec hs k with ⟨h1, h2⟩ | ⟨h1, ⟨j, h2, h3, h4, h5⟩, h6⟩
    · split
      · rename_i q
        refine .inr ⟨by omega, ⟨k, by omega, q.1, q.2.1, rfl⟩, fun i hi hr hl => ?_⟩
        by_cases e : i = k
        · rw [e]; exact Int.le_refl _
        · exact absurd ⟨hr, hl⟩ (h2 i (by omega))
      · rename_i q
        refine .inl ⟨h1, fun i hi hh => ?_⟩
        by_cases e : i = k
        · rw [e] at hh; exact q ⟨hh.1, hh.2, .inl (by omega)⟩
        · exact h2 i (by omega) hh
    · split
      · rename_i q
        refine .inr ⟨by omega, ⟨k, by omega, q.1, q.2.1, rfl⟩, fun i hi hr hl => ?_⟩
        by_cases e : i = k
        · rw [e]; exact Int.le_refl _
        · have := h6 i (by omega) hr hl; omega
      · rename_i q
        refine .inr ⟨h1, ⟨j, by omega, h3, h4, h5⟩, fun i hi hr hl => ?_⟩
        by_cases e : i = k
        · rw [e] at hr hl ⊢
          have : ¬ (s k + r k + l k < bstF r l s k) := fun q' => q ⟨hr, hl, .inr q'⟩
          omega
        · exact h6 i (by omega) hr hl
/-- The weights from i to j. -/
def far (w : List Int) (i j : Nat) : Int := sumW w 0 j - sumW w 0 i
theorem sumW_far (w : List Int) (a : Nat) : ∀ k, sumW w a k = far w a (a + k)
  | 0 => by simp [sumW, far]
  | k + 1 => by
    have ih := sumW_far w a k
    unfold far at *
    rw [sumW, ih, show a + (k + 1) = (a + k) + 1 by omega, sumW, Nat.zero_add]; omega
def Wnn (w : List Int) : Prop := ∀ i, 0 ≤ wAt w i
theorem far_nn {w : List Int} (h : Wnn w) {i : Nat} : ∀ {j : Nat}, i ≤ j → 0 ≤ far w i j := by
  intro j hij
  obtain ⟨k, rfl⟩ : ∃ k, j = i + k := ⟨j - i, by omega⟩
  rw [← sumW_far]
  clear hij
  induction k with
  | zero => simp [sumW]
  | succ k ih => rw [sumW]; have := h (i + k); omega
theorem far_add (w : List Int) (i j k : Nat) : far w i j + far w j k = far w i k := by unfold far; omega
theorem far_self (w : List Int) (i : Nat) : far w i i = 0 := by unfold far; omega
theorem far_succ (w : List Int) (i : Nat) : far w i (i + 1) = wAt w i := by
  unfold far; rw [sumW, Nat.zero_add]; omega
/-- A place to part at is no better than the best. -/
theorem ls_le {w : List Int} (h : Wnn w) {a m b c : Nat} (h1 : a < m) (h2 : m < b) (hc : 0 < c) (hr : 0 ≤ ls w m b (c - 1)) (hl : 0 ≤ ls w a m c) : 0 ≤ ls w a b c ∧ ls w a b c ≤ far w a m + ls w m b (c - 1) + ls w a m c := by
  have hs : ∀ k, 0 ≤ sumW w a (k + 1) := fun k => by rw [sumW_far]; exact far_nn h (by omega)
  rw [ls_rec (by omega) hc]
  have e : a + 1 + (m - a - 1) = m := by omega
  rcases bstF_spec (r := fun j => ls w (a + 1 + j) b (c - 1)) (l := fun j => ls w a (a + 1 + j) c) hs (b - a - 1) with ⟨q1, q2⟩ | ⟨q1, _, q3⟩
  · exact absurd ⟨by rw [e]; exact hr, by rw [e]; exact hl⟩ (q2 (m - a - 1) (by omega))
  · have := q3 (m - a - 1) (by omega) (by rw [e]; exact hr) (by rw [e]; exact hl)
    rw [e, sumW_far, show a + (m - a - 1 + 1) = m by omega] at this
    exact ⟨q1, this⟩
theorem ls_at {w : List Int} (h : Wnn w) {a b c : Nat} (h1 : a + 1 < b) (h0 : 0 ≤ ls w a b c) : 0 < c ∧ ∃ m, a < m ∧ m < b ∧ 0 ≤ ls w m b (c - 1) ∧ 0 ≤ ls w a m c ∧ ls w a b c = far w a m + ls w m b (c - 1) + ls w a m c := by
  have hc : 0 < c := by
    rcases Nat.eq_zero_or_pos c with e | e
    · subst e; rw [ls_none h1] at h0; omega
    · exact e
  refine ⟨hc, ?_⟩
  have hs : ∀ k, 0 ≤ sumW w a (k + 1) := fun k => by rw [sumW_far]; exact far_nn h (by omega)
  rw [ls_rec h1 hc] at h0 ⊢
  rcases bstF_spec (r := fun j => ls w (a + 1 + j) b (c - 1)) (l := fun j => ls w a (a + 1 + j) c) hs (b - a - 1) with ⟨q1, q2⟩ | ⟨q1, ⟨j, j1, j2, j3, j4⟩, q3⟩
  · omega
  · exact ⟨a + 1 + j, by omega, by omega, j2, j3, by rw [j4, sumW_far, show a + (j + 1) = a + 1 + j by omega]⟩
theorem ls_neg {w : List Int} (h : Wnn w) (a b c : Nat) : 0 ≤ ls w a b c ∨ ls w a b c = -1 := by
  by_cases h1 : b ≤ a + 1
  · left; rw [ls_short h1]; exact Int.le_refl _
  · rcases Nat.eq_zero_or_pos c with e | e
    · subst e; right; exact ls_none (by omega)
    · have hs : ∀ k, 0 ≤ sumW w a (k + 1) := fun k => by rw [sumW_far]; exact far_nn h (by omega)
      rw [ls_rec (by omega) e]
      rcases bstF_spec (r := fun j => ls w (a + 1 + j) b (c - 1)) (l := fun j => ls w a (a + 1 + j) c) hs (b - a - 1) with ⟨q1, _⟩ | ⟨q1, _⟩
      · exact .inr q1
      · exact .inl q1
/-- More slots are no worse. -/
theorem ls_more {w : List Int} (h : Wnn w) : ∀ n a b c, b - a ≤ n → 0 ≤ ls w a b c → 0 ≤ ls w a b (c + 1) ∧ ls w a b (c + 1) ≤ ls w a b c
  | 0, a, b, c, hn, _ => by rw [ls_short (by omega), ls_short (by omega)]; omega
  | n + 1, a, b, c, hn, h0 => by
    by_cases h1 : b ≤ a + 1
    · rw [ls_short h1, ls_short h1]; omega
    · obtain ⟨hc, m, m1, m2, m3, m4, m5⟩ := ls_at h (by omega) h0
      have ih1 := ls_more h n m b (c - 1) (by omega) m3
      have ih2 := ls_more h n a m c (by omega) m4
      rw [show c - 1 + 1 = c by omega] at ih1
      have := ls_le h (c := c + 1) m1 m2 (by omega) (by rw [Nat.add_sub_cancel]; exact ih1.1) ih2.1
      rw [Nat.add_sub_cancel] at this
      exact ⟨this.1, by omega⟩

/-! what a state may still cost: states that may be held -/
def pad (A : Nat → Bool) : Nat → Nat
  | 0 => 0
  | k + 1 => if A (k + 1) then k + 1 else pad A k
theorem pad_le (A : Nat → Bool) : ∀ k, pad A k ≤ k
  | 0 => Nat.le_refl _
  | k + 1 => by rw [pad]; split; exact Nat.le_refl _; exact Nat.le_succ_of_le (pad_le A k)
theorem pad_self {A : Nat → Bool} : ∀ {k}, A k = true → pad A k = k
  | 0, _ => rfl
  | k + 1, h => by rw [pad, if_pos h]
theorem pad_ge {A : Nat → Bool} : ∀ {k i}, i ≤ k → A i = true → i ≤ pad A k
  | 0, i, hi, _ => by rw [pad]; exact hi
  | k + 1, i, hi, h => by
    rw [pad]; split
    · exact hi
    · rename_i q
      have : i ≠ k + 1 := fun e => q (e ▸ h)
      exact pad_ge (by omega) h
theorem pad_mem {A : Nat → Bool} (h0 : A 0 = true) : ∀ k, A (pad A k) = true
  | 0 => h0
  | k + 1 => by rw [pad]; split; assumption; exact pad_mem h0 k
theorem pad_mono {A B : Nat → Bool} (h : ∀ i, A i = true → B i = true) (h0 : A 0 = true) (k : Nat) : pad A k ≤ pad B k := pad_ge (pad_le A k) (h _ (pad_mem h0 k))
/-- A chain of states that are held at last, from k on, with what they cost. -/
def Pt (w : List Int) (A : Nat → Bool) (L : Nat) : Nat → List Nat → Nat → Int → Prop
  | k, [], c, v => k < L ∧ 0 ≤ ls w k L c ∧ v = ls w k L c
  | k, k' :: K, c, v => k < k' ∧ 1 ≤ c ∧ 0 ≤ ls w k k' c ∧ ∃ v', Pt w A L k' K (c - 1) v' ∧ v = far w (max (pad A k') k) k' + ls w k k' c + v'
theorem Pt.nn {w : List Int} (h : Wnn w) {A : Nat → Bool} {L : Nat} : ∀ {k K c v}, Pt w A L k K c v → 0 ≤ v ∧ k < L
  | k, [], c, v, p => ⟨by rw [p.2.2]; exact p.2.1, p.1⟩
  | k, k' :: K, c, v, ⟨h1, h2, h3, v', p, e⟩ => by
    have ih := Pt.nn h p
    have := far_nn h (i := max (pad A k') k) (j := k') (by have := pad_le A k'; omega)
    exact ⟨by omega, by omega⟩
/-- More states that may be held are no worse. -/
theorem Pt.mono {w : List Int} (h : Wnn w) {A B : Nat → Bool} {L : Nat} (hp : ∀ k, pad A k ≤ pad B k) : ∀ {k K c v}, Pt w A L k K c v → ∃ v', Pt w B L k K c v' ∧ v' ≤ v
  | k, [], c, v, p => ⟨v, p, Int.le_refl _⟩
  | k, k' :: K, c, v, ⟨h1, h2, h3, v', p, e⟩ => by
    obtain ⟨v2, p2, le2⟩ := Pt.mono h hp p
    refine ⟨_, ⟨h1, h2, h3, v2, p2, rfl⟩, ?_⟩
    have a1 := hp k'
    have a2 := pad_le A k'
    have a3 := pad_le B k'
    have := far_add w (max (pad A k') k) (max (pad B k') k) k'
    have := far_nn h (i := max (pad A k') k) (j := max (pad B k') k) (by omega)
    omega
/-- The last state is put behind a chain that leaves room. -/
theorem Pt.app {w : List Int} (h : Wnn w) {A : Nat → Bool} {L : Nat} (hA : A L = true) : ∀ {k K c v}, Pt w A L k K c v → K.length + 1 ≤ c → Pt w A (L + 1) k (K ++ [L]) c v
  | k, [], c, v, p, hc => by
    refine ⟨p.1, by simpa using hc, p.2.1, 0, ⟨Nat.lt_succ_self L, by rw [ls_short (Nat.le_refl _)]; exact Int.le_refl _, by rw [ls_short (Nat.le_refl _)]⟩, ?_⟩
    rw [pad_self hA, Nat.max_eq_left (by have := p.1; omega), far_self, p.2.2]; omega
  | k, k' :: K, c, v, ⟨h1, h2, h3, v', p, e⟩, hc => ⟨h1, h2, h3, v', Pt.app h hA p (by simp at hc; omega), e⟩
/-- .. or that is told with one slot less. -/
theorem Pt.app1 {w : List Int} (h : Wnn w) {A : Nat → Bool} {L : Nat} (hA : A L = true) : ∀ {k K c v}, Pt w A L k K c v → ∃ v', Pt w A (L + 1) k (K ++ [L]) (c + 1) v' ∧ v' ≤ v
  | k, [], c, v, p => by
    have := ls_more h _ k L c (Nat.le_refl _) p.2.1
    refine ⟨ls w k L (c + 1), ⟨p.1, by omega, this.1, 0, ⟨Nat.lt_succ_self L, by rw [ls_short (Nat.le_refl _)]; exact Int.le_refl _, by rw [ls_short (Nat.le_refl _)]⟩, ?_⟩, by rw [p.2.2]; exact this.2⟩
    rw [pad_self hA, Nat.max_eq_left (by have := p.1; omega), far_self]; omega
  | k, k' :: K, c, v, ⟨h1, h2, h3, v', p, e⟩ => by
    obtain ⟨v2, p2, le2⟩ := Pt.app1 h hA p
    have := ls_more h _ k k' c (Nat.le_refl _) h3
    rw [show c - 1 + 1 = c + 1 - 1 by omega] at p2
    exact ⟨_, ⟨h1, by omega, this.1, v2, p2, rfl⟩, by omega⟩
/-- Is some state of the chain one that nothing is held for? -/
def strictC (A : Nat → Bool) : Nat → List Nat → Prop
  | _, [] => True
  | k, k' :: K => k < pad A k' ∧ strictC A k' K
/-- A state that nothing is held for is left out, the last one comes in. -/
theorem Pt.swap {w : List Int} (h : Wnn w) {A : Nat → Bool} {L : Nat} (hA : A L = true) : ∀ {k K c v}, Pt w A L k K c v → ¬ strictC A k K → ∃ K' v', Pt w A (L + 1) k K' c v' ∧ v' ≤ v
  | k, [], c, v, p, hs => absurd trivial hs
  | k, k' :: K, c, v, ⟨h1, h2, h3, v1, p, e⟩, hs => by
    by_cases ht : strictC A k' K
    · have hk : ¬ k < pad A k' := fun q => hs ⟨q, ht⟩
      rw [Nat.max_eq_right (by omega)] at e
      cases K with
      | nil =>
        obtain ⟨p1, p2, p3⟩ := p
        have := ls_le h h1 p1 h2 p2 h3
        refine ⟨[L], ls w k L c, ⟨by omega, h2, this.1, 0, ⟨Nat.lt_succ_self L, by rw [ls_short (Nat.le_refl _)]; exact Int.le_refl _, by rw [ls_short (Nat.le_refl _)]⟩, ?_⟩, by omega⟩
        rw [pad_self hA, Nat.max_eq_left (by omega), far_self]; omega
      | cons k'' K2 =>
        obtain ⟨p1, p2, p3, v2, p4, p5⟩ := p
        obtain ⟨t1, t2⟩ := ht
        rw [Nat.max_eq_left (by omega)] at p5
        have := ls_le h h1 p1 h2 p3 h3
        obtain ⟨v3, p6, le3⟩ := Pt.app1 h hA p4
        rw [show c - 1 - 1 + 1 = c - 1 by omega] at p6
        refine ⟨(k'' :: K2) ++ [L], far w (pad A k'') k'' + ls w k k'' c + v3, ⟨by omega, h2, this.1, v3, p6, ?_⟩, by omega⟩
        rw [Nat.max_eq_left (by omega)]
    · obtain ⟨K', v', q1, q2⟩ := Pt.swap h hA p ht
      exact ⟨k' :: K', _, ⟨h1, h2, h3, v', q1, rfl⟩, by omega⟩
/-- How many are held between two states. -/
def cA (A : Nat → Bool) (lo : Nat) : Nat → Nat
  | 0 => 0
  | h + 1 => cA A lo h + if lo < h + 1 ∧ A (h + 1) = true then 1 else 0
theorem cA_zero (A : Nat → Bool) {lo : Nat} : ∀ h, h ≤ lo → cA A lo h = 0
  | 0, _ => rfl
  | h + 1, hh => by rw [cA, cA_zero A h (by omega), if_neg (by omega)]
theorem cA_split (A : Nat → Bool) {lo m : Nat} (h1 : lo ≤ m) : ∀ h, m ≤ h → cA A lo h = cA A lo m + cA A m h
  | 0, hh => by
    obtain rfl : m = 0 := by omega
    simp [cA]
  | h + 1, hh => by
    by_cases e : m = h + 1
    · subst e; rw [cA_zero A (lo := h + 1) (h + 1) (Nat.le_refl _)]; omega
    · rw [cA, cA, cA_split A h1 h (by omega)]
      by_cases q : A (h + 1) = true
      · rw [if_pos ⟨by omega, q⟩, if_pos ⟨by omega, q⟩]; omega
      · rw [if_neg fun z => q z.2, if_neg fun z => q z.2]; omega
theorem cA_pad {A : Nat → Bool} (h0 : A 0 = true) {lo : Nat} : ∀ {h}, lo < pad A h → 1 ≤ cA A lo h
  | 0, hh => absurd hh (Nat.not_lt_zero _)
  | h + 1, hh => by
    rw [pad] at hh
    rw [cA]
    split at hh
    · rename_i q; rw [if_pos ⟨hh, q⟩]; omega
    · have := cA_pad h0 hh; omega
theorem strict_count {w : List Int} {A : Nat → Bool} (h0 : A 0 = true) {L : Nat} : ∀ {k K c v}, Pt w A L k K c v → strictC A k K → K.length ≤ cA A k (L - 1)
  | k, [], c, v, p, _ => Nat.zero_le _
  | k, k' :: K, c, v, ⟨h1, h2, h3, v', p, e⟩, ⟨s1, s2⟩ => by
    have ih := strict_count h0 p s2
    have hk : k' < L := by
      have : ∀ {k K c v}, Pt w A L k K c v → k < L := fun {k K c v} p => by
        induction K generalizing k c v with
        | nil => exact p.1
        | cons k2 K ih => obtain ⟨q1, _, _, v', p', _⟩ := p; have := ih p'; omega
      exact this p
    rw [cA_split A (Nat.le_of_lt h1) (L - 1) (by omega)]
    have := cA_pad h0 s1
    simp only [List.length_cons]; omega
/-- The chain of a state whose next step back is made. -/
theorem Pt.back {w : List Int} (h : Wnn w) {A : Nat → Bool} (h0 : A 0 = true) {L : Nat} (hA : A L = true) {k : Nat} {K : List Nat} {c : Nat} {v : Int} (p : Pt w A L k K c v) (hc : cA A k (L - 1) + 1 ≤ c) : ∃ K' v', Pt w A (L + 1) k K' c v' ∧ v' ≤ v := by
  by_cases hs : strictC A k K
  · have := strict_count h0 p hs
    exact ⟨_, v, p.app h hA (by omega), Int.le_refl _⟩
  · exact p.swap h hA hs
/-- One step on. -/
theorem pad_far {A B : Nat → Bool} {s : Nat} (hAB : ∀ i, B i = true → i ≠ s + 1 → A i = true) {k' : Nat} (hk : k' ≤ s) (h0 : B 0 = true) : pad B k' ≤ pad A k' := by
  have := pad_mem h0 k'
  have h1 := pad_le B k'
  exact pad_ge h1 (hAB _ this (by omega))
theorem Pt.onA {w : List Int} (h : Wnn w) {A B : Nat → Bool} {s L : Nat} (hAB : ∀ i, B i = true → i ≠ s + 1 → A i = true) (h0 : B 0 = true) : ∀ {k K c v}, s + 1 ≤ k → Pt w B L k K c v → ∃ v', Pt w A L k K c v' ∧ v' ≤ v
  | k, [], c, v, _, p => ⟨v, p, Int.le_refl _⟩
  | k, k' :: K, c, v, hk, ⟨h1, h2, h3, v1, p, e⟩ => by
    obtain ⟨v2, p2, le2⟩ := Pt.onA h hAB h0 (by omega) p
    refine ⟨_, ⟨h1, h2, h3, v2, p2, rfl⟩, ?_⟩
    have : max (pad B k') k ≤ max (pad A k') k := by
      rcases Nat.lt_or_ge (s + 1) (pad B k') with q | q
      · have := pad_ge (A := A) (pad_le B k') (hAB _ (pad_mem h0 k') (by omega))
        omega
      · omega
    have a2 := pad_le A k'
    have := far_add w (max (pad B k') k) (max (pad A k') k) k'
    have := far_nn h (i := max (pad B k') k) (j := max (pad A k') k) (by omega)
    omega
theorem Pt.on {w : List Int} (h : Wnn w) {A B : Nat → Bool} {s L : Nat} (hAB : ∀ i, B i = true → i ≠ s + 1 → A i = true) (hs : A s = true) (h0 : B 0 = true) : ∀ {k K c v}, k ≤ s → Pt w B L k K c v → ∃ v', Pt w A L k K c v' ∧ v' ≤ v + wAt w s
  | k, [], c, v, _, p => ⟨v, p, by have := h s; omega⟩
  | k, k' :: K, c, v, hk, ⟨h1, h2, h3, v1, p, e⟩ => by
    have a2 := pad_le A k'
    by_cases hk' : k' ≤ s
    · obtain ⟨v2, p2, le2⟩ := Pt.on h hAB hs h0 hk' p
      have := pad_far hAB hk' h0
      refine ⟨_, ⟨h1, h2, h3, v2, p2, rfl⟩, ?_⟩
      have := far_add w (max (pad B k') k) (max (pad A k') k) k'
      have := far_nn h (i := max (pad B k') k) (j := max (pad A k') k) (by omega)
      omega
    · obtain ⟨v2, p2, le2⟩ := Pt.onA h hAB h0 (by omega) p
      refine ⟨_, ⟨h1, h2, h3, v2, p2, rfl⟩, ?_⟩
      have hsA : s ≤ pad A k' := pad_ge (by omega) hs
      rcases Nat.lt_or_ge (s + 1) (pad B k') with q | q
      · have q2 := pad_ge (A := A) (pad_le B k') (hAB _ (pad_mem h0 k') (by omega))
        have := far_add w (max (pad B k') k) (max (pad A k') k) k'
        have := far_nn h (i := max (pad B k') k) (j := max (pad A k') k) (by omega)
        have := h s
        omega
      · have b2 := pad_le B k'
        have f1 := far_add w (max (pad A k') k) (s + 1) k'
        have f2 := far_add w (max (pad B k') k) (s + 1) k'
        have f3 := far_nn h (i := max (pad B k') k) (j := s + 1) (by omega)
        have f4 : far w (max (pad A k') k) (s + 1) ≤ wAt w s ∨ s + 1 ≤ max (pad A k') k := by
          rcases Nat.lt_or_ge s (max (pad A k') k) with z | z
          · exact .inr z
          · left
            rw [show max (pad A k') k = s by omega, far_succ]; exact Int.le_refl _
        rcases f4 with f4 | f4
        · omega
        · have f5 := far_add w (s + 1) (max (pad A k') k) k'
          have f6 := far_nn h (i := s + 1) (j := max (pad A k') k) (by omega)
          have := h s
          omega
/-- Nothing is held but the start of the chain. -/
theorem Pt.base {w : List Int} (h : Wnn w) {A : Nat → Bool} {L : Nat} : ∀ {k K c v}, (∀ j, pad A j ≤ k) → Pt w A L k K c v → 0 ≤ ls w k L c ∧ ls w k L c ≤ v
  | k, [], c, v, _, p => ⟨p.2.1, by rw [p.2.2]; exact Int.le_refl _⟩
  | k, k' :: K, c, v, hp, ⟨h1, h2, h3, v1, p, e⟩ => by
    have ih := Pt.base h (fun j => Nat.le_trans (hp j) (Nat.le_of_lt h1)) p
    have hL := (p.nn h).2
    have := ls_le h h1 hL h2 ih.1 h3
    rw [Nat.max_eq_right (hp k')] at e
    exact ⟨this.1, by omega⟩
end Go.Hl

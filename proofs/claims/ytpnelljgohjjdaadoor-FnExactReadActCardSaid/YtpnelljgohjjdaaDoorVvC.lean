/-
  Contracts of functions and laws of the layer over the walk.
-/
import Derived.Test.YtpnelljgohjjdaaDoorVvB
import Derived.Test.YtpnelljgohjjdaaDoorVvA
namespace Go.Hl
open Go.Proofs
set_option linter.unusedVariables false
set_option linter.unusedSimpArgs false
def rawA (t : List UInt8) (h : Heap) (r : HVal) (h' : Heap) : Prop :=
  (∃ (a : DAct) (L : List Int) (i : Nat), readAct t = some a ∧ a.fNumbers = L.drop i ∧ i ≤ L.length ∧ ((L = [] ∧ r = .tup [.agg [I a.fKind, I a.fA, I a.fB, .sl 1 [] true], I 0] ∧ h' = h) ∨ ∃ n, h n = none ∧ r = .tup [.agg [I a.fKind, I a.fA, I a.fB, .os n 1 i (L.length - i)], I 0] ∧ h' = upd h n (.row 1 ((L.map fun n => [I n]).map (List.map .v))))) ∨
  (readAct t = none ∧ r = .tup [.agg [I 0, I 0, I 0, .nilsl], I 5] ∧ h' = h)
def keep6 : List Nat := [0, 2, 3, 4, 5, 7, 8, 9, 10, 11, 35, 49, 61, 73]
def ib6 : List Nat := []
def mk6 : Marks := fun id => match id with | 8 => ([2, 4, 6], (.op 0 (.op 1 (.op 3 (.op 2 (.op 5 (.alt 4 (.op 6 (.op 7 .nil)) 6 (.op 4 (.op 7 .nil)))))))), [(2, 4)]) | 10 => ([2, 4, 6], (.op 0 (.op 1 (.op 3 (.op 2 (.op 5 (.alt 4 (.op 6 (.op 7 .nil)) 6 (.op 4 (.op 7 .nil)))))))), [(2, 4)]) | _ => ([], .nil, [])
set_option maxRecDepth 100000 in
set_option maxHeartbeats 1000000 in
theorem ReadActH (t : List UInt8) (ht : t.length ≤ 1048576) (h : Heap) : HFn Tryd.prog 6 [.str t] h (rawA t h) := by
  have hcut := cutC t [32] (by omega)
  have hcl := cut_len t [32]
  have hrl := readListN (Go.Lib.cut t [32]).2.1 14 1000002 (by omega) (by omega) (by omega)
  have hix := indexS actWl true (Go.Lib.cut t [32]).1 (by decide)
  have hbad := readAct_bad (t := t)
  have hgood := fun L => readAct_cutA (t := t) (L := L)
  have hkc := kindOf_cases (Go.Lib.cut t [32]).1
  have hidx : Go.Lib.idxOfS (actWl.map fun s => (⟨s.toArray⟩ : ByteArray)) ⟨(Go.Lib.cut t [32]).1.toArray⟩ = kindOf (Go.Lib.cut t [32]).1 - 1 := by rw [kindOf]; omega
  rw [hidx] at hix
  generalize kindOf (Go.Lib.cut t [32]).1 = K at *
  have hK : 0 ≤ K ∧ K ≤ 10 := by rcases hkc with q | q <;> omega
  refine fnHF 76 keep6 ib6 mk6 mix Tryd.func6 rfl (by kernel_rfl) (by simp) ?_
  simp (maxSteps := 1000000) -dsimp -implicitDefEqProofs only [go_sem, ↓reduceIte, keep6, ib6, mk6, Tryd.f6]
  intro n2 z2
  try simp (maxSteps := 1000000) -dsimp -implicitDefEqProofs only [go_sem, ↓reduceIte, keep6, ib6, mk6, Tryd.f6]
  first | refine HFnF.mk (hcut) ?_ | refine CallSF.mk (hcut) ?_ | refine HFnF.mkAt (hcut) ?_ | refine CallSF.mk (FnAt.fn0 (hcut)) ?_
  simp (maxSteps := 1000000) -dsimp -implicitDefEqProofs only [go_sem, ↓reduceIte, keep6, ib6, mk6, Tryd.f6]
  first | refine HFnF.mk (actWords) ?_ | refine CallSF.mk (actWords) ?_ | refine HFnF.mkAt (actWords) ?_ | refine CallSF.mk (FnAt.fn0 (actWords)) ?_
  simp (maxSteps := 1000000) -dsimp -implicitDefEqProofs only [go_sem, ↓reduceIte, keep6, ib6, mk6, Tryd.f6]
  refine HFnF.mk hix ?_
  simp (maxSteps := 1000000) -dsimp -implicitDefEqProofs only [go_sem, ↓reduceIte, keep6, ib6, mk6, Tryd.f6]
  rw [IntWalk.i64_in (K - 1 + 1) (by omega), show K - 1 + 1 = K by omega]
  intro m q_m
  have d_m_n2 : ¬ m = n2 := by first | exact q_m.1 | exact q_m | exact q_m.2.1 | exact q_m.2 | exact q_m.2.2.1 | exact q_m.2.2 | exact q_m.2.2.2.1 | exact q_m.2.2.2 | exact q_m.2.2.2.2.1 | exact q_m.2.2.2.2 | exact q_m.2.2.2.2.2.1 | exact q_m.2.2.2.2.2 | exact q_m.2.2.2.2.2.2.1 | exact q_m.2.2.2.2.2.2 | exact q_m.2.2.2.2.2.2.2.1 | exact q_m.2.2.2.2.2.2.2 | exact q_m.2.2.2.2.2.2.2.2.1 | exact q_m.2.2.2.2.2.2.2.2 | exact q_m.2.2.2.2.2.2.2.2.2.1 | exact q_m.2.2.2.2.2.2.2.2.2 | exact q_m.2.2.2.2.2.2.2.2.2.2.1 | exact q_m.2.2.2.2.2.2.2.2.2.2 | exact q_m.2.2.2.2.2.2.2.2.2.2.2.1 | exact q_m.2.2.2.2.2.2.2.2.2.2.2 | exact q_m.2.2.2.2.2.2.2.2.2.2.2.2.1 | exact q_m.2.2.2.2.2.2.2.2.2.2.2.2 | exact q_m.2.2.2.2.2.2.2.2.2.2.2.2.2.1 | exact q_m.2.2.2.2.2.2.2.2.2.2.2.2.2
  have e_m_n2 : (m = n2) = False := eq_false d_m_n2
  have e_n2_m : (n2 = m) = False := eq_false (Ne.symm d_m_n2)
  have d_n2_m : ¬ n2 = m := Ne.symm d_m_n2
  have z_m : h m = none := by first | exact q_m.1 | exact q_m | exact q_m.2.1 | exact q_m.2 | exact q_m.2.2.1 | exact q_m.2.2 | exact q_m.2.2.2.1 | exact q_m.2.2.2 | exact q_m.2.2.2.2.1 | exact q_m.2.2.2.2 | exact q_m.2.2.2.2.2.1 | exact q_m.2.2.2.2.2 | exact q_m.2.2.2.2.2.2.1 | exact q_m.2.2.2.2.2.2 | exact q_m.2.2.2.2.2.2.2.1 | exact q_m.2.2.2.2.2.2.2 | exact q_m.2.2.2.2.2.2.2.2.1 | exact q_m.2.2.2.2.2.2.2.2 | exact q_m.2.2.2.2.2.2.2.2.2.1 | exact q_m.2.2.2.2.2.2.2.2.2 | exact q_m.2.2.2.2.2.2.2.2.2.2.1 | exact q_m.2.2.2.2.2.2.2.2.2.2 | exact q_m.2.2.2.2.2.2.2.2.2.2.2.1 | exact q_m.2.2.2.2.2.2.2.2.2.2.2 | exact q_m.2.2.2.2.2.2.2.2.2.2.2.2.1 | exact q_m.2.2.2.2.2.2.2.2.2.2.2.2 | exact q_m.2.2.2.2.2.2.2.2.2.2.2.2.2.1 | exact q_m.2.2.2.2.2.2.2.2.2.2.2.2.2
  rw [upd_upd]
  refine HFnF.wn2 hrl z2 ⟨d_m_n2, z_m⟩ ?_
  rintro r_ l_ g ⟨y, oy, rfl, rfl⟩ wn z2g zmg
  obtain ⟨o, ho, hv, hg⟩ := ungrown oy wn
  have hle : ∀ {q : Heap}, g.le q → h.le q := fun hq => Heap.le_trans wn.le hq
  cases hR : readL 14 1000002 (Go.Lib.cut t [32]).2.1 with
  | none =>
    have hno := hbad (.inl hR)
    simp (maxSteps := 1000000) -dsimp -implicitDefEqProofs only [go_sem, ↓reduceIte, keep6, ib6, mk6, Tryd.f6, OV.map_val, OV.map_val_nil, OV.val_v, upd_upd, upd_ne, Option.isSome_none, e_m_n2, e_n2_m]
    exact ⟨_, hle (by repeat' (first | exact Heap.le_refl _ | refine Heap.le_both ?_ | refine Heap.le_upd (by first | assumption | (rw [upd_ne _ _ _ _ (by assumption)]; assumption) | (rw [upd_ne _ _ _ _ (by assumption), upd_ne _ _ _ _ (by assumption)]; assumption) | (rw [upd_ne _ _ _ _ (by assumption), upd_ne _ _ _ _ (by assumption), upd_ne _ _ _ _ (by assumption)]; assumption)) ?_)), .inr ⟨hno, rfl, rfl⟩⟩
  | some L =>
    have hLl := readL_len hR
    rw [hR] at ho hv hg oy
    simp only [Option.getD_some] at ho hv hg oy
    by_cases hK0 : K = 0
    · have hno := hbad (.inr hK0)
      simp (maxSteps := 1000000) -dsimp -implicitDefEqProofs only [go_sem, ↓reduceIte, keep6, ib6, mk6, Tryd.f6, OV.map_val, OV.map_val_nil, OV.val_v, upd_upd, upd_ne, Option.isSome_some, e_m_n2, e_n2_m, hK0]
      exact ⟨_, hle (by repeat' (first | exact Heap.le_refl _ | refine Heap.le_both ?_ | refine Heap.le_upd (by first | assumption | (rw [upd_ne _ _ _ _ (by assumption)]; assumption) | (rw [upd_ne _ _ _ _ (by assumption), upd_ne _ _ _ _ (by assumption)]; assumption) | (rw [upd_ne _ _ _ _ (by assumption), upd_ne _ _ _ _ (by assumption), upd_ne _ _ _ _ (by assumption)]; assumption)) ?_)), .inr ⟨hno, rfl, rfl⟩⟩
    · obtain ⟨g1, g2⟩ := hgood L hR hK0
      rw [hv]
      cases o with
      | none =>
        rw [oside_none] at ho
        subst ho
        rw [oheap_none] at hg
        subst hg
        simp (maxSteps := 1000000) -dsimp -implicitDefEqProofs only [go_sem, ↓reduceIte, keep6, ib6, mk6, Tryd.f6, OV.map_val, OV.map_val_nil, OV.val_v, upd_upd, upd_ne, Option.isSome_some, e_m_n2, e_n2_m, oval_none, hK0]
        refine HFnF.mk (isMentioned K) ?_
        simp (maxSteps := 1000000) -dsimp -implicitDefEqProofs only [go_sem, ↓reduceIte, keep6, ib6, mk6, Tryd.f6, OV.map_val, OV.map_val_nil, OV.val_v, upd_upd, upd_ne, e_m_n2, e_n2_m, Int.lt_irrefl, List.length_nil]
        have hc : cutA K [] = ⟨K, 0, 0, []⟩ := by simp [cutA]
        have hat : Fn0 Tryd.prog 27 [.agg [I K, I 0, I 0, .sl 1 [] true]] (.str (actText (cutA K []))) :=
          (implActText (cutA K []) (by rw [hc]; exact Nat.zero_le _)).sub (SubL.cons (by rw [hc]; exact Sub.agg (.cons (.refl _) (.cons (.refl _) (.cons (.refl _) (.cons (Sub.loose _ _ _) .nil))))) SubL.nil)
        repeat' (with_reducible first | intro _ | refine And.intro ?_ ?_)
        all_goals try omega
        all_goals
          refine HFnF.mk hat ?_
          simp (maxSteps := 1000000) -dsimp -implicitDefEqProofs only [go_sem, ↓reduceIte, keep6, ib6, mk6, Tryd.f6, OV.map_val, OV.map_val_nil, OV.val_v, upd_upd, upd_ne, e_m_n2, e_n2_m, Int.lt_irrefl, List.length_nil]
          refine ⟨fun hx => ⟨_, (by repeat' (first | exact Heap.le_refl _ | refine Heap.le_both ?_ | refine Heap.le_upd (by first | assumption | (rw [upd_ne _ _ _ _ (by assumption)]; assumption) | (rw [upd_ne _ _ _ _ (by assumption), upd_ne _ _ _ _ (by assumption)]; assumption) | (rw [upd_ne _ _ _ _ (by assumption), upd_ne _ _ _ _ (by assumption), upd_ne _ _ _ _ (by assumption)]; assumption)) ?_)), .inr ⟨g2 hx, rfl, rfl⟩⟩, fun hx => ⟨_, (by repeat' (first | exact Heap.le_refl _ | refine Heap.le_both ?_ | refine Heap.le_upd (by first | assumption | (rw [upd_ne _ _ _ _ (by assumption)]; assumption) | (rw [upd_ne _ _ _ _ (by assumption), upd_ne _ _ _ _ (by assumption)]; assumption) | (rw [upd_ne _ _ _ _ (by assumption), upd_ne _ _ _ _ (by assumption), upd_ne _ _ _ _ (by assumption)]; assumption)) ?_)), .inl ⟨cutA K [], [], 0, (g1 hx).2, by rw [hc]; rfl, Nat.le_refl _, .inl ⟨rfl, by rw [hc], rfl⟩⟩⟩⟩
      | some n =>
        rw [oside_some] at ho
        rw [oheap_some] at hg
        subst hg
        have gn : upd h n (.row 1 ((L.map fun x => [I x]).map (List.map .v))) n = some (.row 1 ((L.map fun x => [I x]).map (List.map .v))) := upd_same ..
        have d_n_n2 : ¬ n = n2 := ne_of_none gn z2g
        have d_n2_n : ¬ n2 = n := Ne.symm d_n_n2
        have e_n_n2 : (n = n2) = False := eq_false d_n_n2
        have e_n2_n : (n2 = n) = False := eq_false d_n2_n
        have d_n_m : ¬ n = m := ne_of_none gn zmg
        have d_m_n : ¬ m = n := Ne.symm d_n_m
        have e_n_m : (n = m) = False := eq_false d_n_m
        have e_m_n : (m = n) = False := eq_false d_m_n
        simp (maxSteps := 1000000) -dsimp -implicitDefEqProofs only [go_sem, ↓reduceIte, keep6, ib6, mk6, Tryd.f6, OV.map_val, OV.map_val_nil, OV.val_v, upd_upd, upd_ne, Option.isSome_some, e_m_n2, e_m_n, e_n2_m, e_n2_n, e_n_m, e_n_n2, oval_some, hK0]
        refine HFnF.mk (isMentioned K) ?_
        have e0 : 0 < L.length → L[Int.toNat 0]? = some (L.getD 0 0) := fun q => by
          show L[0]? = _
          rw [List.getD_eq_getElem?_getD, List.getElem?_eq_getElem q]; rfl
        have e1 : 1 < L.length → L[Int.toNat 1 + Int.toNat 0]? = some (L.getD 1 0) := fun q => by
          show L[1]? = _
          rw [List.getD_eq_getElem?_getD, List.getElem?_eq_getElem q]; rfl
        have hsz : (cutA K L).s ≤ 1048576 := by
          have := (cutA K L).s_eq
          simp only [cutA, List.length_drop, szs_eq] at this ⊢
          omega
        have hpv : ∀ (q : Heap) (i i' len' : Nat), i = i' → i' ≤ L.length → len' = L.length - i' → q n = some (.row 1 ((L.map fun x => [I x]).map (List.map .v))) → View q (.os n 1 i len') (sls 1 (fun x => [I x]) (L.drop i')) := fun q i i' len' e1 hi e2 hq => by
          subst e1; subst e2
          have := View.part (i := i) (len := L.length - i) hq (by simp; omega)
          rw [valRows_prim, List.take_of_length_le (by simp), ← List.map_drop] at this
          exact this
        have ose : ∀ {i i' len len' : Nat}, i = i' → len = len' → HVal.os n 1 i len = HVal.os n 1 i' len' := fun e1 e2 => by rw [e1, e2]
        by_cases hl0 : 0 < L.length
        · by_cases hl1 : 1 < L.length
          · simp (maxSteps := 1000000) -dsimp -implicitDefEqProofs only [go_sem, ↓reduceIte, keep6, ib6, mk6, Tryd.f6, OV.map_val, OV.map_val_nil, OV.val_v, upd_upd, upd_ne, e_m_n2, e_m_n, e_n2_m, e_n2_n, e_n_m, e_n_n2, e0 hl0, e1 hl1]
            repeat' (with_reducible first | intro _ | refine And.intro ?_ ?_)
            all_goals try omega
            all_goals
              first
              | skip
                have hc : cutA K L = ⟨K, L.getD 0 0, L.getD 1 0, L.drop 2⟩ := by
                  unfold cutA
                  congr 1
                  · split <;> first | rfl | (exfalso; omega)
                  · split <;> first | rfl | (exfalso; omega)
                  · congr 1; split <;> (try split) <;> first | rfl | (exfalso; omega)
                refine HFnF.lend0 (implActText (cutA K L) hsz) (ViewL.cons (View.aggL (by rw [hc]; exact ViewL.cons (View.same _ _) (ViewL.cons (View.same _ _) (ViewL.cons (View.same _ _) (ViewL.cons (hpv _ _ 2 _ (by omega) (by omega) (by omega) (by rw [upd_ne _ _ _ _ d_n_m, upd_ne _ _ _ _ d_n_n2, upd_same])) ViewL.nil))))) ViewL.nil) rfl ?_
                simp (maxSteps := 1000000) -dsimp -implicitDefEqProofs only [go_sem, ↓reduceIte, keep6, ib6, mk6, Tryd.f6, OV.map_val, OV.map_val_nil, OV.val_v, upd_upd, upd_ne, e_m_n2, e_m_n, e_n2_m, e_n2_n, e_n_m, e_n_n2]
                refine ⟨fun hx => ⟨_, hle (by repeat' (first | exact Heap.le_refl _ | refine Heap.le_both ?_ | refine Heap.le_upd (by first | assumption | (rw [upd_ne _ _ _ _ (by assumption)]; assumption) | (rw [upd_ne _ _ _ _ (by assumption), upd_ne _ _ _ _ (by assumption)]; assumption) | (rw [upd_ne _ _ _ _ (by assumption), upd_ne _ _ _ _ (by assumption), upd_ne _ _ _ _ (by assumption)]; assumption)) ?_)), .inr ⟨g2 hx, rfl, rfl⟩⟩, fun hx => ⟨_, (by repeat' (first | exact Heap.le_refl _ | refine Heap.le_both ?_ | refine Heap.le_upd (by first | assumption | (rw [upd_ne _ _ _ _ (by assumption)]; assumption) | (rw [upd_ne _ _ _ _ (by assumption), upd_ne _ _ _ _ (by assumption)]; assumption) | (rw [upd_ne _ _ _ _ (by assumption), upd_ne _ _ _ _ (by assumption), upd_ne _ _ _ _ (by assumption)]; assumption)) ?_)), .inl ⟨cutA K L, L, 2, (g1 hx).2, by rw [hc], by omega, .inr ⟨n, ho, by rw [hc]; exact congrArg (fun x => HVal.tup [.agg [I K, I (L.getD 0 0), I (L.getD 1 0), x], I 0]) (ose (by omega) (by omega)), rfl⟩⟩⟩⟩
              | skip
                have hc : cutA K L = ⟨K, L.getD 0 0, 0, L.drop 1⟩ := by
                  unfold cutA
                  congr 1
                  · split <;> first | rfl | (exfalso; omega)
                  · split <;> first | rfl | (exfalso; omega)
                  · congr 1; split <;> (try split) <;> first | rfl | (exfalso; omega)
                refine HFnF.lend0 (implActText (cutA K L) hsz) (ViewL.cons (View.aggL (by rw [hc]; exact ViewL.cons (View.same _ _) (ViewL.cons (View.same _ _) (ViewL.cons (View.same _ _) (ViewL.cons (hpv _ _ 1 _ (by omega) (by omega) (by omega) (by rw [upd_ne _ _ _ _ d_n_m, upd_ne _ _ _ _ d_n_n2, upd_same])) ViewL.nil))))) ViewL.nil) rfl ?_
                simp (maxSteps := 1000000) -dsimp -implicitDefEqProofs only [go_sem, ↓reduceIte, keep6, ib6, mk6, Tryd.f6, OV.map_val, OV.map_val_nil, OV.val_v, upd_upd, upd_ne, e_m_n2, e_m_n, e_n2_m, e_n2_n, e_n_m, e_n_n2]
                refine ⟨fun hx => ⟨_, hle (by repeat' (first | exact Heap.le_refl _ | refine Heap.le_both ?_ | refine Heap.le_upd (by first | assumption | (rw [upd_ne _ _ _ _ (by assumption)]; assumption) | (rw [upd_ne _ _ _ _ (by assumption), upd_ne _ _ _ _ (by assumption)]; assumption) | (rw [upd_ne _ _ _ _ (by assumption), upd_ne _ _ _ _ (by assumption), upd_ne _ _ _ _ (by assumption)]; assumption)) ?_)), .inr ⟨g2 hx, rfl, rfl⟩⟩, fun hx => ⟨_, (by repeat' (first | exact Heap.le_refl _ | refine Heap.le_both ?_ | refine Heap.le_upd (by first | assumption | (rw [upd_ne _ _ _ _ (by assumption)]; assumption) | (rw [upd_ne _ _ _ _ (by assumption), upd_ne _ _ _ _ (by assumption)]; assumption) | (rw [upd_ne _ _ _ _ (by assumption), upd_ne _ _ _ _ (by assumption), upd_ne _ _ _ _ (by assumption)]; assumption)) ?_)), .inl ⟨cutA K L, L, 1, (g1 hx).2, by rw [hc], by omega, .inr ⟨n, ho, by rw [hc]; exact congrArg (fun x => HVal.tup [.agg [I K, I (L.getD 0 0), I (0), x], I 0]) (ose (by omega) (by omega)), rfl⟩⟩⟩⟩
              | skip
                have hc : cutA K L = ⟨K, 0, 0, L.drop 0⟩ := by
                  unfold cutA
                  congr 1
                  · split <;> first | rfl | (exfalso; omega)
                  · split <;> first | rfl | (exfalso; omega)
                  · congr 1; split <;> (try split) <;> first | rfl | (exfalso; omega)
                refine HFnF.lend0 (implActText (cutA K L) hsz) (ViewL.cons (View.aggL (by rw [hc]; exact ViewL.cons (View.same _ _) (ViewL.cons (View.same _ _) (ViewL.cons (View.same _ _) (ViewL.cons (hpv _ _ 0 _ (by omega) (by omega) (by omega) (by rw [upd_ne _ _ _ _ d_n_m, upd_ne _ _ _ _ d_n_n2, upd_same])) ViewL.nil))))) ViewL.nil) rfl ?_
                simp (maxSteps := 1000000) -dsimp -implicitDefEqProofs only [go_sem, ↓reduceIte, keep6, ib6, mk6, Tryd.f6, OV.map_val, OV.map_val_nil, OV.val_v, upd_upd, upd_ne, e_m_n2, e_m_n, e_n2_m, e_n2_n, e_n_m, e_n_n2]
                refine ⟨fun hx => ⟨_, hle (by repeat' (first | exact Heap.le_refl _ | refine Heap.le_both ?_ | refine Heap.le_upd (by first | assumption | (rw [upd_ne _ _ _ _ (by assumption)]; assumption) | (rw [upd_ne _ _ _ _ (by assumption), upd_ne _ _ _ _ (by assumption)]; assumption) | (rw [upd_ne _ _ _ _ (by assumption), upd_ne _ _ _ _ (by assumption), upd_ne _ _ _ _ (by assumption)]; assumption)) ?_)), .inr ⟨g2 hx, rfl, rfl⟩⟩, fun hx => ⟨_, (by repeat' (first | exact Heap.le_refl _ | refine Heap.le_both ?_ | refine Heap.le_upd (by first | assumption | (rw [upd_ne _ _ _ _ (by assumption)]; assumption) | (rw [upd_ne _ _ _ _ (by assumption), upd_ne _ _ _ _ (by assumption)]; assumption) | (rw [upd_ne _ _ _ _ (by assumption), upd_ne _ _ _ _ (by assumption), upd_ne _ _ _ _ (by assumption)]; assumption)) ?_)), .inl ⟨cutA K L, L, 0, (g1 hx).2, by rw [hc], by omega, .inr ⟨n, ho, by rw [hc]; exact congrArg (fun x => HVal.tup [.agg [I K, I (0), I (0), x], I 0]) (ose (by omega) (by omega)), rfl⟩⟩⟩⟩
              | skip
                have hc : cutA K L = ⟨K, L.getD 0 0, L.getD 1 0, L.drop 2⟩ := by
                  unfold cutA
                  congr 1
                  · split <;> first | rfl | (exfalso; omega)
                  · split <;> first | rfl | (exfalso; omega)
                  · congr 1; split <;> (try split) <;> first | rfl | (exfalso; omega)
                have hd : L.drop 2 = [] := List.drop_eq_nil_of_le (by omega)
                have hat : Fn0 Tryd.prog 27 [.agg [I K, I (L.getD 0 0), I (L.getD 1 0), .sl 1 [] true]] (.str (actText (cutA K L))) := (implActText (cutA K L) hsz).sub (SubL.cons (by rw [hc, hd]; exact Sub.agg (.cons (.refl _) (.cons (.refl _) (.cons (.refl _) (.cons (Sub.loose _ _ _) .nil))))) SubL.nil)
                refine HFnF.mk hat ?_
                simp (maxSteps := 1000000) -dsimp -implicitDefEqProofs only [go_sem, ↓reduceIte, keep6, ib6, mk6, Tryd.f6, OV.map_val, OV.map_val_nil, OV.val_v, upd_upd, upd_ne, e_m_n2, e_m_n, e_n2_m, e_n2_n, e_n_m, e_n_n2]
                refine ⟨fun hx => ⟨_, hle (by repeat' (first | exact Heap.le_refl _ | refine Heap.le_both ?_ | refine Heap.le_upd (by first | assumption | (rw [upd_ne _ _ _ _ (by assumption)]; assumption) | (rw [upd_ne _ _ _ _ (by assumption), upd_ne _ _ _ _ (by assumption)]; assumption) | (rw [upd_ne _ _ _ _ (by assumption), upd_ne _ _ _ _ (by assumption), upd_ne _ _ _ _ (by assumption)]; assumption)) ?_)), .inr ⟨g2 hx, rfl, rfl⟩⟩, fun hx => ⟨_, hle (by repeat' (first | exact Heap.le_refl _ | refine Heap.le_both ?_ | refine Heap.le_upd (by first | assumption | (rw [upd_ne _ _ _ _ (by assumption)]; assumption) | (rw [upd_ne _ _ _ _ (by assumption), upd_ne _ _ _ _ (by assumption)]; assumption) | (rw [upd_ne _ _ _ _ (by assumption), upd_ne _ _ _ _ (by assumption), upd_ne _ _ _ _ (by assumption)]; assumption)) ?_)), .inl ⟨cutA K L, [], 0, (g1 hx).2, by rw [hc, hd]; rfl, Nat.le_refl _, .inl ⟨rfl, by rw [hc], rfl⟩⟩⟩⟩
              | skip
                have hc : cutA K L = ⟨K, L.getD 0 0, 0, L.drop 1⟩ := by
                  unfold cutA
                  congr 1
                  · split <;> first | rfl | (exfalso; omega)
                  · split <;> first | rfl | (exfalso; omega)
                  · congr 1; split <;> (try split) <;> first | rfl | (exfalso; omega)
                have hd : L.drop 1 = [] := List.drop_eq_nil_of_le (by omega)
                have hat : Fn0 Tryd.prog 27 [.agg [I K, I (L.getD 0 0), I (0), .sl 1 [] true]] (.str (actText (cutA K L))) := (implActText (cutA K L) hsz).sub (SubL.cons (by rw [hc, hd]; exact Sub.agg (.cons (.refl _) (.cons (.refl _) (.cons (.refl _) (.cons (Sub.loose _ _ _) .nil))))) SubL.nil)
                refine HFnF.mk hat ?_
                simp (maxSteps := 1000000) -dsimp -implicitDefEqProofs only [go_sem, ↓reduceIte, keep6, ib6, mk6, Tryd.f6, OV.map_val, OV.map_val_nil, OV.val_v, upd_upd, upd_ne, e_m_n2, e_m_n, e_n2_m, e_n2_n, e_n_m, e_n_n2]
                refine ⟨fun hx => ⟨_, hle (by repeat' (first | exact Heap.le_refl _ | refine Heap.le_both ?_ | refine Heap.le_upd (by first | assumption | (rw [upd_ne _ _ _ _ (by assumption)]; assumption) | (rw [upd_ne _ _ _ _ (by assumption), upd_ne _ _ _ _ (by assumption)]; assumption) | (rw [upd_ne _ _ _ _ (by assumption), upd_ne _ _ _ _ (by assumption), upd_ne _ _ _ _ (by assumption)]; assumption)) ?_)), .inr ⟨g2 hx, rfl, rfl⟩⟩, fun hx => ⟨_, hle (by repeat' (first | exact Heap.le_refl _ | refine Heap.le_both ?_ | refine Heap.le_upd (by first | assumption | (rw [upd_ne _ _ _ _ (by assumption)]; assumption) | (rw [upd_ne _ _ _ _ (by assumption), upd_ne _ _ _ _ (by assumption)]; assumption) | (rw [upd_ne _ _ _ _ (by assumption), upd_ne _ _ _ _ (by assumption), upd_ne _ _ _ _ (by assumption)]; assumption)) ?_)), .inl ⟨cutA K L, [], 0, (g1 hx).2, by rw [hc, hd]; rfl, Nat.le_refl _, .inl ⟨rfl, by rw [hc], rfl⟩⟩⟩⟩
          · simp (maxSteps := 1000000) -dsimp -implicitDefEqProofs only [go_sem, ↓reduceIte, keep6, ib6, mk6, Tryd.f6, OV.map_val, OV.map_val_nil, OV.val_v, upd_upd, upd_ne, e_m_n2, e_m_n, e_n2_m, e_n2_n, e_n_m, e_n_n2, e0 hl0]
            repeat' (with_reducible first | intro _ | refine And.intro ?_ ?_)
            all_goals try omega
            all_goals
              first
              | skip
                have hc : cutA K L = ⟨K, L.getD 0 0, L.getD 1 0, L.drop 2⟩ := by
                  unfold cutA
                  congr 1
                  · split <;> first | rfl | (exfalso; omega)
                  · split <;> first | rfl | (exfalso; omega)
                  · congr 1; split <;> (try split) <;> first | rfl | (exfalso; omega)
                refine HFnF.lend0 (implActText (cutA K L) hsz) (ViewL.cons (View.aggL (by rw [hc]; exact ViewL.cons (View.same _ _) (ViewL.cons (View.same _ _) (ViewL.cons (View.same _ _) (ViewL.cons (hpv _ _ 2 _ (by omega) (by omega) (by omega) (by rw [upd_ne _ _ _ _ d_n_m, upd_ne _ _ _ _ d_n_n2, upd_same])) ViewL.nil))))) ViewL.nil) rfl ?_
                simp (maxSteps := 1000000) -dsimp -implicitDefEqProofs only [go_sem, ↓reduceIte, keep6, ib6, mk6, Tryd.f6, OV.map_val, OV.map_val_nil, OV.val_v, upd_upd, upd_ne, e_m_n2, e_m_n, e_n2_m, e_n2_n, e_n_m, e_n_n2]
                refine ⟨fun hx => ⟨_, hle (by repeat' (first | exact Heap.le_refl _ | refine Heap.le_both ?_ | refine Heap.le_upd (by first | assumption | (rw [upd_ne _ _ _ _ (by assumption)]; assumption) | (rw [upd_ne _ _ _ _ (by assumption), upd_ne _ _ _ _ (by assumption)]; assumption) | (rw [upd_ne _ _ _ _ (by assumption), upd_ne _ _ _ _ (by assumption), upd_ne _ _ _ _ (by assumption)]; assumption)) ?_)), .inr ⟨g2 hx, rfl, rfl⟩⟩, fun hx => ⟨_, (by repeat' (first | exact Heap.le_refl _ | refine Heap.le_both ?_ | refine Heap.le_upd (by first | assumption | (rw [upd_ne _ _ _ _ (by assumption)]; assumption) | (rw [upd_ne _ _ _ _ (by assumption), upd_ne _ _ _ _ (by assumption)]; assumption) | (rw [upd_ne _ _ _ _ (by assumption), upd_ne _ _ _ _ (by assumption), upd_ne _ _ _ _ (by assumption)]; assumption)) ?_)), .inl ⟨cutA K L, L, 2, (g1 hx).2, by rw [hc], by omega, .inr ⟨n, ho, by rw [hc]; exact congrArg (fun x => HVal.tup [.agg [I K, I (L.getD 0 0), I (L.getD 1 0), x], I 0]) (ose (by omega) (by omega)), rfl⟩⟩⟩⟩
              | skip
                have hc : cutA K L = ⟨K, L.getD 0 0, 0, L.drop 1⟩ := by
                  unfold cutA
                  congr 1
                  · split <;> first | rfl | (exfalso; omega)
                  · split <;> first | rfl | (exfalso; omega)
                  · congr 1; split <;> (try split) <;> first | rfl | (exfalso; omega)
                refine HFnF.lend0 (implActText (cutA K L) hsz) (ViewL.cons (View.aggL (by rw [hc]; exact ViewL.cons (View.same _ _) (ViewL.cons (View.same _ _) (ViewL.cons (View.same _ _) (ViewL.cons (hpv _ _ 1 _ (by omega) (by omega) (by omega) (by rw [upd_ne _ _ _ _ d_n_m, upd_ne _ _ _ _ d_n_n2, upd_same])) ViewL.nil))))) ViewL.nil) rfl ?_
                simp (maxSteps := 1000000) -dsimp -implicitDefEqProofs only [go_sem, ↓reduceIte, keep6, ib6, mk6, Tryd.f6, OV.map_val, OV.map_val_nil, OV.val_v, upd_upd, upd_ne, e_m_n2, e_m_n, e_n2_m, e_n2_n, e_n_m, e_n_n2]
                refine ⟨fun hx => ⟨_, hle (by repeat' (first | exact Heap.le_refl _ | refine Heap.le_both ?_ | refine Heap.le_upd (by first | assumption | (rw [upd_ne _ _ _ _ (by assumption)]; assumption) | (rw [upd_ne _ _ _ _ (by assumption), upd_ne _ _ _ _ (by assumption)]; assumption) | (rw [upd_ne _ _ _ _ (by assumption), upd_ne _ _ _ _ (by assumption), upd_ne _ _ _ _ (by assumption)]; assumption)) ?_)), .inr ⟨g2 hx, rfl, rfl⟩⟩, fun hx => ⟨_, (by repeat' (first | exact Heap.le_refl _ | refine Heap.le_both ?_ | refine Heap.le_upd (by first | assumption | (rw [upd_ne _ _ _ _ (by assumption)]; assumption) | (rw [upd_ne _ _ _ _ (by assumption), upd_ne _ _ _ _ (by assumption)]; assumption) | (rw [upd_ne _ _ _ _ (by assumption), upd_ne _ _ _ _ (by assumption), upd_ne _ _ _ _ (by assumption)]; assumption)) ?_)), .inl ⟨cutA K L, L, 1, (g1 hx).2, by rw [hc], by omega, .inr ⟨n, ho, by rw [hc]; exact congrArg (fun x => HVal.tup [.agg [I K, I (L.getD 0 0), I (0), x], I 0]) (ose (by omega) (by omega)), rfl⟩⟩⟩⟩
              | skip
                have hc : cutA K L = ⟨K, 0, 0, L.drop 0⟩ := by
                  unfold cutA
                  congr 1
                  · split <;> first | rfl | (exfalso; omega)
                  · split <;> first | rfl | (exfalso; omega)
                  · congr 1; split <;> (try split) <;> first | rfl | (exfalso; omega)
                refine HFnF.lend0 (implActText (cutA K L) hsz) (ViewL.cons (View.aggL (by rw [hc]; exact ViewL.cons (View.same _ _) (ViewL.cons (View.same _ _) (ViewL.cons (View.same _ _) (ViewL.cons (hpv _ _ 0 _ (by omega) (by omega) (by omega) (by rw [upd_ne _ _ _ _ d_n_m, upd_ne _ _ _ _ d_n_n2, upd_same])) ViewL.nil))))) ViewL.nil) rfl ?_
                simp (maxSteps := 1000000) -dsimp -implicitDefEqProofs only [go_sem, ↓reduceIte, keep6, ib6, mk6, Tryd.f6, OV.map_val, OV.map_val_nil, OV.val_v, upd_upd, upd_ne, e_m_n2, e_m_n, e_n2_m, e_n2_n, e_n_m, e_n_n2]
                refine ⟨fun hx => ⟨_, hle (by repeat' (first | exact Heap.le_refl _ | refine Heap.le_both ?_ | refine Heap.le_upd (by first | assumption | (rw [upd_ne _ _ _ _ (by assumption)]; assumption) | (rw [upd_ne _ _ _ _ (by assumption), upd_ne _ _ _ _ (by assumption)]; assumption) | (rw [upd_ne _ _ _ _ (by assumption), upd_ne _ _ _ _ (by assumption), upd_ne _ _ _ _ (by assumption)]; assumption)) ?_)), .inr ⟨g2 hx, rfl, rfl⟩⟩, fun hx => ⟨_, (by repeat' (first | exact Heap.le_refl _ | refine Heap.le_both ?_ | refine Heap.le_upd (by first | assumption | (rw [upd_ne _ _ _ _ (by assumption)]; assumption) | (rw [upd_ne _ _ _ _ (by assumption), upd_ne _ _ _ _ (by assumption)]; assumption) | (rw [upd_ne _ _ _ _ (by assumption), upd_ne _ _ _ _ (by assumption), upd_ne _ _ _ _ (by assumption)]; assumption)) ?_)), .inl ⟨cutA K L, L, 0, (g1 hx).2, by rw [hc], by omega, .inr ⟨n, ho, by rw [hc]; exact congrArg (fun x => HVal.tup [.agg [I K, I (0), I (0), x], I 0]) (ose (by omega) (by omega)), rfl⟩⟩⟩⟩
              | skip
                have hc : cutA K L = ⟨K, L.getD 0 0, L.getD 1 0, L.drop 2⟩ := by
                  unfold cutA
                  congr 1
                  · split <;> first | rfl | (exfalso; omega)
                  · split <;> first | rfl | (exfalso; omega)
                  · congr 1; split <;> (try split) <;> first | rfl | (exfalso; omega)
                have hd : L.drop 2 = [] := List.drop_eq_nil_of_le (by omega)
                have hat : Fn0 Tryd.prog 27 [.agg [I K, I (L.getD 0 0), I (L.getD 1 0), .sl 1 [] true]] (.str (actText (cutA K L))) := (implActText (cutA K L) hsz).sub (SubL.cons (by rw [hc, hd]; exact Sub.agg (.cons (.refl _) (.cons (.refl _) (.cons (.refl _) (.cons (Sub.loose _ _ _) .nil))))) SubL.nil)
                refine HFnF.mk hat ?_
                simp (maxSteps := 1000000) -dsimp -implicitDefEqProofs only [go_sem, ↓reduceIte, keep6, ib6, mk6, Tryd.f6, OV.map_val, OV.map_val_nil, OV.val_v, upd_upd, upd_ne, e_m_n2, e_m_n, e_n2_m, e_n2_n, e_n_m, e_n_n2]
                refine ⟨fun hx => ⟨_, hle (by repeat' (first | exact Heap.le_refl _ | refine Heap.le_both ?_ | refine Heap.le_upd (by first | assumption | (rw [upd_ne _ _ _ _ (by assumption)]; assumption) | (rw [upd_ne _ _ _ _ (by assumption), upd_ne _ _ _ _ (by assumption)]; assumption) | (rw [upd_ne _ _ _ _ (by assumption), upd_ne _ _ _ _ (by assumption), upd_ne _ _ _ _ (by assumption)]; assumption)) ?_)), .inr ⟨g2 hx, rfl, rfl⟩⟩, fun hx => ⟨_, hle (by repeat' (first | exact Heap.le_refl _ | refine Heap.le_both ?_ | refine Heap.le_upd (by first | assumption | (rw [upd_ne _ _ _ _ (by assumption)]; assumption) | (rw [upd_ne _ _ _ _ (by assumption), upd_ne _ _ _ _ (by assumption)]; assumption) | (rw [upd_ne _ _ _ _ (by assumption), upd_ne _ _ _ _ (by assumption), upd_ne _ _ _ _ (by assumption)]; assumption)) ?_)), .inl ⟨cutA K L, [], 0, (g1 hx).2, by rw [hc, hd]; rfl, Nat.le_refl _, .inl ⟨rfl, by rw [hc], rfl⟩⟩⟩⟩
              | skip
                have hc : cutA K L = ⟨K, L.getD 0 0, 0, L.drop 1⟩ := by
                  unfold cutA
                  congr 1
                  · split <;> first | rfl | (exfalso; omega)
                  · split <;> first | rfl | (exfalso; omega)
                  · congr 1; split <;> (try split) <;> first | rfl | (exfalso; omega)
                have hd : L.drop 1 = [] := List.drop_eq_nil_of_le (by omega)
                have hat : Fn0 Tryd.prog 27 [.agg [I K, I (L.getD 0 0), I (0), .sl 1 [] true]] (.str (actText (cutA K L))) := (implActText (cutA K L) hsz).sub (SubL.cons (by rw [hc, hd]; exact Sub.agg (.cons (.refl _) (.cons (.refl _) (.cons (.refl _) (.cons (Sub.loose _ _ _) .nil))))) SubL.nil)
                refine HFnF.mk hat ?_
                simp (maxSteps := 1000000) -dsimp -implicitDefEqProofs only [go_sem, ↓reduceIte, keep6, ib6, mk6, Tryd.f6, OV.map_val, OV.map_val_nil, OV.val_v, upd_upd, upd_ne, e_m_n2, e_m_n, e_n2_m, e_n2_n, e_n_m, e_n_n2]
                refine ⟨fun hx => ⟨_, hle (by repeat' (first | exact Heap.le_refl _ | refine Heap.le_both ?_ | refine Heap.le_upd (by first | assumption | (rw [upd_ne _ _ _ _ (by assumption)]; assumption) | (rw [upd_ne _ _ _ _ (by assumption), upd_ne _ _ _ _ (by assumption)]; assumption) | (rw [upd_ne _ _ _ _ (by assumption), upd_ne _ _ _ _ (by assumption), upd_ne _ _ _ _ (by assumption)]; assumption)) ?_)), .inr ⟨g2 hx, rfl, rfl⟩⟩, fun hx => ⟨_, hle (by repeat' (first | exact Heap.le_refl _ | refine Heap.le_both ?_ | refine Heap.le_upd (by first | assumption | (rw [upd_ne _ _ _ _ (by assumption)]; assumption) | (rw [upd_ne _ _ _ _ (by assumption), upd_ne _ _ _ _ (by assumption)]; assumption) | (rw [upd_ne _ _ _ _ (by assumption), upd_ne _ _ _ _ (by assumption), upd_ne _ _ _ _ (by assumption)]; assumption)) ?_)), .inl ⟨cutA K L, [], 0, (g1 hx).2, by rw [hc, hd]; rfl, Nat.le_refl _, .inl ⟨rfl, by rw [hc], rfl⟩⟩⟩⟩
        · simp (maxSteps := 1000000) -dsimp -implicitDefEqProofs only [go_sem, ↓reduceIte, keep6, ib6, mk6, Tryd.f6, OV.map_val, OV.map_val_nil, OV.val_v, upd_upd, upd_ne, e_m_n2, e_m_n, e_n2_m, e_n2_n, e_n_m, e_n_n2]
          repeat' (with_reducible first | intro _ | refine And.intro ?_ ?_)
          all_goals try omega
          all_goals
            have hc : cutA K L = ⟨K, 0, 0, L.drop 0⟩ := by
              unfold cutA
              congr 1
              · split <;> first | rfl | (exfalso; omega)
              · split <;> first | rfl | (exfalso; omega)
              · congr 1; split <;> (try split) <;> first | rfl | (exfalso; omega)
            refine HFnF.lend0 (implActText (cutA K L) hsz) (ViewL.cons (View.aggL (by rw [hc]; exact ViewL.cons (View.same _ _) (ViewL.cons (View.same _ _) (ViewL.cons (View.same _ _) (ViewL.cons (hpv _ _ 0 _ (by omega) (by omega) (by omega) (by rw [upd_ne _ _ _ _ d_n_m, upd_ne _ _ _ _ d_n_n2, upd_same])) ViewL.nil))))) ViewL.nil) rfl ?_
            simp (maxSteps := 1000000) -dsimp -implicitDefEqProofs only [go_sem, ↓reduceIte, keep6, ib6, mk6, Tryd.f6, OV.map_val, OV.map_val_nil, OV.val_v, upd_upd, upd_ne, e_m_n2, e_m_n, e_n2_m, e_n2_n, e_n_m, e_n_n2]
            refine ⟨fun hx => ⟨_, hle (by repeat' (first | exact Heap.le_refl _ | refine Heap.le_both ?_ | refine Heap.le_upd (by first | assumption | (rw [upd_ne _ _ _ _ (by assumption)]; assumption) | (rw [upd_ne _ _ _ _ (by assumption), upd_ne _ _ _ _ (by assumption)]; assumption) | (rw [upd_ne _ _ _ _ (by assumption), upd_ne _ _ _ _ (by assumption), upd_ne _ _ _ _ (by assumption)]; assumption)) ?_)), .inr ⟨g2 hx, rfl, rfl⟩⟩, fun hx => ⟨_, (by repeat' (first | exact Heap.le_refl _ | refine Heap.le_both ?_ | refine Heap.le_upd (by first | assumption | (rw [upd_ne _ _ _ _ (by assumption)]; assumption) | (rw [upd_ne _ _ _ _ (by assumption), upd_ne _ _ _ _ (by assumption)]; assumption) | (rw [upd_ne _ _ _ _ (by assumption), upd_ne _ _ _ _ (by assumption), upd_ne _ _ _ _ (by assumption)]; assumption)) ?_)), .inl ⟨cutA K L, L, 0, (g1 hx).2, by rw [hc], by omega, .inr ⟨n, ho, by rw [hc]; exact congrArg (fun x => HVal.tup [.agg [I K, I (0), I (0), x], I 0]) (ose (by omega) (by omega)), rfl⟩⟩⟩⟩
/-- From the raw end of the walk to an own result. -/
theorem ReadAct (t : List UInt8) (ht : t.length ≤ 1048576) : FnN Tryd.prog 6 [.str t] (QA (readRes t).1.o (fun y => .tup [y, I (readRes t).2])) := fun h => by
  refine HFn.turn (ReadActH t ht h) fun r h' E w v hk R rep => ?_
  rcases hk with ⟨a, L, i, ha, hn, hi, hk⟩ | ⟨ha, rfl, rfl⟩
  · rw [readRes_some ha]
    rcases hk with ⟨rfl, rfl, rfl⟩ | ⟨n, hn0, rfl, rfl⟩
    · have hnil : a.fNumbers = [] := by rw [hn]; simp
      exact ⟨_, h', E, ⟨_, ⟨[.v (I a.fKind), .v (I a.fA), .v (I a.fB), .nil 1], ⟨.nil 1, rfl, .inl ⟨rfl, hnil⟩⟩, rfl, rfl⟩, New.nil h'⟩, Ev.refl _ _ _, R, rep⟩
    · obtain ⟨m, hm, hm0, ev, R2, hrep⟩ := Rel.part R (upd_same ..) (i := i) (by simpa using hi)
      have hmn : ¬ m = n := fun e => by rw [e, upd_same] at hm0; cases hm0
      have hm1 : h m = none := by rwa [upd_ne _ _ _ _ hmn] at hm0
      have hrow : List.drop i ((L.map fun n => [I n]).map (List.map Cell.v)) = ((L.drop i).map fun n => [I n]).map (List.map Cell.v) := by rw [← List.map_drop, ← List.map_drop]
      rw [hrow] at R2 ev hrep
      have hle : (upd h m (.row 1 (((L.drop i).map fun n => [I n]).map (List.map .v)))).le (upd (upd (upd h n (.row 1 ((L.map fun n => [I n]).map (List.map .v)))) n .gone) m (.row 1 (((L.drop i).map fun n => [I n]).map (List.map .v)))) := fun q => by
        simp only [upd_apply]
        split
        · exact .inr rfl
        · split
          · subst_vars; exact .inl hn0
          · exact .inr rfl
      have hv : HVal.os m 1 0 (L.length - i) = (OV.sl m 1 ((L.drop i).map fun x => [.v (I x)])).val := by rw [OV.val_prim, List.length_drop]
      refine ⟨.tup [.agg [I a.fKind, I a.fA, I a.fB, .os m 1 0 (L.length - i)], I 0], _, _, ⟨_, ⟨[.v (I a.fKind), .v (I a.fA), .v (I a.fB), OV.sl m 1 ((L.drop i).map fun x => [.v (I x)])], ⟨_, rfl, by rw [hn]; exact OS.mk (OR_map _)⟩, by rw [hv]; rfl, rfl⟩, ?_⟩, ev.trans ((Ev.refl _ _ _).forget hle), R2.forget hle, ?_⟩
      · simp only [OV.row_cons, OV.v_rows, OV.row_nil, List.nil_append, List.append_nil]
        rw [OV.sl_rows, rows_map, cells_map]
        exact New.one hm1
      · cases rep with
        | tup _ vs hl hr =>
          match vs, RepL.mk hl hr with
          | [v0, v1], ⟨r0, r1, _⟩ =>
            cases r0 with
            | agg _ us hl2 hr2 =>
              match us, RepL.mk hl2 hr2 with
              | [a0, a1, a2, a3], ⟨q0, q1, q2, q3, _⟩ =>
                rw [rep_int q0, rep_int q1, rep_int q2, rep_int r1]
                have w3 := (hrep _ _ q3).imm fun b => Imm.le hle
                have ag := RepL.length (show RepL _ _ w [I a.fKind, I a.fA, I a.fB, .os m 1 0 (L.length - i)] [_, _, _, a3] from ⟨.int _ _, .int _ _, .int _ _, w3, trivial⟩)
                exact RepL.tup (xs := [_, _]) (vs := [_, _]) ⟨.agg _ [_, _, _, a3] ag (RepL.get (show RepL _ _ w [I a.fKind, I a.fA, I a.fB, .os m 1 0 (L.length - i)] [_, _, _, a3] from ⟨.int _ _, .int _ _, .int _ _, w3, trivial⟩)), .int _ _, trivial⟩
  · obtain ⟨r1, g, l, sh, q1, q2⟩ := readRes_err (h := h') (h' := h') ha (Heap.le_refl _)
    obtain ⟨E', ev, R', rep'⟩ := sh E w v R rep
    exact ⟨r1, g, E', ⟨l, q1, q2⟩, ev, R', rep'⟩
theorem readRes_s (t : List UInt8) : (readRes t).1.s ≤ 12 := by
  cases e : readAct t with
  | none => rw [readRes_none e]; exact Nat.zero_le _
  | some a =>
    rw [readRes_some e]
    have h1 := (readAct_ok e).1.len
    have h2 := a.s_eq
    try simp only [szs_eq] at h2
    show a.s ≤ 12
    omega
open Go.Proofs
set_option linter.unusedVariables false
set_option linter.unusedSimpArgs false



open Go.Proofs
set_option linter.unusedVariables false
set_option linter.unusedSimpArgs false

def keep28 : List Nat := [0, 1, 4, 5, 10, 14, 25]
def ib28 : List Nat := []
def mk28 : Marks := fun id => match id with | 6 => ([], (.op 0 (.op 1 (.op 2 (.op 3 (.op 4 (.op 5 (.op 6 (.op 7 (.op 8 .nil))))))))), []) | _ => ([], .nil, [])
set_option maxRecDepth 100000 in
theorem eq_Int64S (a b : List Int) : Fn0 Tryd.prog 28 [(sls 1 (fun n => [I n]) a), (sls 1 (fun n => [I n]) b)] (.bool (decide (a = b))) := by
  refine fn0F 26 keep28 ib28 mk28 mix Tryd.func28 rfl (by kernel_rfl) (by simp) fun h => ?_
  simp -dsimp -implicitDefEqProofs only [go_sem, Tryd.f28, ↓reduceIte, keep28, ib28, mk28]
  refine fun _ _ => ⟨fun hne => ?_, fun heq => ?_⟩
  · exact (decide_eq_false fun e => hne (by rw [e])).symm
  · refine loopF (keep := keep28) (ib := ib28) (mk := mk28) mix (by kernel_rfl) (fun k : Nat => [(0, (sls 1 (fun n => [I n]) a)), (1, (sls 1 (fun n => [I n]) b)), (5, I k)]) (fun _ => h) (fun k => k ≤ a.length ∧ a.take k = b.take k) (fun k => a.length - k) 0 (by simp [SatL, tget, Heap.le_refl]) ?_
    intro k ⟨hk, hp⟩
    rcases Nat.lt_or_ge k a.length with hlt | hge
    · have hlb : k < b.length := by omega
      have ea : a[k]? = some a[k] := List.getElem?_eq_getElem hlt
      have eb : b[k]? = some b[k] := List.getElem?_eq_getElem hlb
      simp -dsimp -implicitDefEqProofs only [go_sem, ↓reduceIte, keep28, ib28, mk28, Tryd.f28, ea, eb]
      refine fun _ => ⟨fun _ => ⟨hlt, hlb, fun hne => ?_, fun he => ?_⟩, fun hn => absurd hlt hn⟩
      · first
          | exact (decide_eq_false fun e => hne (getElem_of_eq e hlt)).symm
          | exact (decide_eq_false fun e => by have := getElem_of_eq e hlt (hb := hlb); rw [this] at hne; simp at hne).symm
      · exact ⟨k + 1, by rw [IntWalk.i64_in _ (by omega)]; rfl, ⟨by omega, take_step hlt hlb hp (by first | exact he | simpa using he)⟩, by omega⟩
    · have hk' : k = a.length := by omega
      subst hk'
      simp -dsimp -implicitDefEqProofs only [go_sem, ↓reduceIte, keep28, ib28, mk28, Tryd.f28, Nat.lt_irrefl]
      exact fun _ => (decide_eq_true (eq_of_take heq hp)).symm

def keep7 : List Nat := [0, 1, 2, 3, 4, 9, 14, 19, 25]
def ib7 : List Nat := [2, 3]
def mk7 : Marks := fun _ => ([], .nil, [])
set_option maxRecDepth 100000 in
theorem eq_Act (a b : DAct) : Fn0 Tryd.prog 7 [.agg a.c, .agg b.c] (.bool (decide (a = b))) := by
  simp only [DAct.c_eq]
  refine fn0F 26 keep7 ib7 mk7 mix Tryd.func7 rfl (by kernel_rfl) (by simp) fun h => ?_
  simp -dsimp -implicitDefEqProofs only [go_sem, Tryd.f7, ↓reduceIte, keep7, ib7, mk7]
  refine ⟨fun hn => (decide_eq_false fun e => hn (by rw [e])).symm, fun efKind => ?_⟩
  refine ⟨fun hn => (decide_eq_false fun e => hn (by rw [e])).symm, fun efA => ?_⟩
  refine ⟨fun hn => (decide_eq_false fun e => hn (by rw [e])).symm, fun efB => ?_⟩
  refine HFnF.mk (eq_Int64S a.fNumbers b.fNumbers) ?_
  by_cases efNumbers : a.fNumbers = b.fNumbers
  case neg =>
    have d := decide_eq_false efNumbers
    simp -dsimp -implicitDefEqProofs only [go_sem, ↓reduceIte, keep7, ib7, mk7, Tryd.f7, d]
    exact (decide_eq_false fun e => efNumbers (by rw [e])).symm
  have dfNumbers := decide_eq_true efNumbers
  simp -dsimp -implicitDefEqProofs only [go_sem, ↓reduceIte, keep7, ib7, mk7, Tryd.f7, dfNumbers]
  exact (decide_eq_true (DAct.eq_iff.2 ⟨efKind, efA, efB, efNumbers⟩)).symm

open Go.Proofs
set_option linter.unusedVariables false
set_option linter.unusedSimpArgs false
def keep3 : List Nat := [0, 2, 3, 4, 5, 6, 7, 8, 9, 10, 13, 32, 40, 43, 57, 62, 65]
def ib3 : List Nat := []
def mk3 : Marks := fun _ => ([], .nil, [])
set_option maxRecDepth 100000 in
set_option maxHeartbeats 4000000 in
theorem law_FnExactReadAct (t : (List UInt8)) (h : Heap) : HFn Tryd.prog 3 [(.str t)] h fun r _ => r = .bool true := by
  refine fnHF 66 keep3 ib3 mk3 mix Tryd.func3 rfl (by kernel_rfl) (by simp) ?_
  simp (maxSteps := 1000000) -dsimp -implicitDefEqProofs only [go_sem, ↓reduceIte, keep3, ib3, mk3, Tryd.f3, Bool.true_or, Bool.or_true, Bool.false_or, Bool.or_false, protF, eq_self, decide_true, Bool.not_true, bne_self_eq_false, upd_upd, upd_get, OV.map_val, OV.map_val_nil, OV.val_v, DAct.c_eq]
  repeat' (with_reducible first | intro _ | refine And.intro ?_ ?_)
  all_goals try (first | exact ⟨_, Heap.le_refl _, rfl⟩ | exact ⟨_, Heap.le_refl _⟩)
  all_goals try omega
  have hz_t : t.length ≤ 1048576 := by omega
  have hseal := QA.fn0W (ReadAct t (by omega)) (fun e he => DAct.o_dat he) (wrap_tup [] [I (readRes t).2])
  first | refine HFnF.mk (QA.fn0W (specReadAct t (by omega)) (fun e he => DAct.o_dat he) (wrap_tup [] [I (readRes t).2])) ?_ | refine CallSF.mk (QA.fn0W (specReadAct t (by omega)) (fun e he => DAct.o_dat he) (wrap_tup [] [I (readRes t).2])) ?_
  simp (maxSteps := 1000000) -dsimp -implicitDefEqProofs only [go_sem, ↓reduceIte, keep3, ib3, mk3, Tryd.f3, Bool.true_or, Bool.or_true, Bool.false_or, Bool.or_false, protF, eq_self, decide_true, Bool.not_true, bne_self_eq_false, upd_upd, upd_get, OV.map_val, OV.map_val_nil, OV.val_v, DAct.c_eq]
  intro nw0 qnw0
  have z0_nw0 := qnw0
  clear qnw0
  try simp (maxSteps := 1000000) -dsimp -implicitDefEqProofs only [go_sem, ↓reduceIte, keep3, ib3, mk3, Tryd.f3, Bool.true_or, Bool.or_true, Bool.false_or, Bool.or_false, protF, eq_self, decide_true, Bool.not_true, bne_self_eq_false, upd_upd, upd_get, OV.map_val, OV.map_val_nil, OV.val_v, DAct.c_eq]
  refine HFnF.wl1 (ReadAct t (by omega)) (ViewL.cons (View.same _ _) ViewL.nil) (QA.solid (fun e he => DAct.o_sol _ e he) (fun x hx => by simp [HVal.solid, HVal.solidL, hx])) z0_nw0 ?_
  rintro r l1 g1 ⟨eg_, oeg, rfl, rfl⟩ w1 z1_nw0
  have oog := oeg
  obtain ⟨yg_3, rfl, og_3⟩ := oog
  have Hg_1 : Owns g1 (OV.rowsRow [.v (.int .i64 (readRes t).1.fKind), .v (.int .i64 (readRes t).1.fA), .v (.int .i64 (readRes t).1.fB), yg_3]) := w1.owns
  have ndg := w1.nodup
  simp (maxSteps := 1000000) -dsimp -implicitDefEqProofs only [go_sem, ↓reduceIte, keep3, ib3, mk3, Tryd.f3, Bool.true_or, Bool.or_true, Bool.false_or, Bool.or_false, protF, eq_self, decide_true, Bool.not_true, bne_self_eq_false, upd_upd, upd_get, OV.map_val, OV.map_val_nil, OV.val_v, DAct.c_eq, og_3.flat, og_3.one]
  intro ng qng
  have dng_nw0 : ng ≠ nw0 := fun e => by
    first
      | exact qng.1 e
      | (rw [if_pos e] at qng; cases qng)
  have eng_nw0 : (ng = nw0) = False := eq_false dng_nw0
  have fng_nw0 : (nw0 = ng) = False := eq_false (fun e => dng_nw0 e.symm)
  first
    | (rw [if_neg dng_nw0] at qng)
    | (replace qng := qng.2)
  have z1_ng := qng
  clear qng
  try simp (maxSteps := 1000000) -dsimp -implicitDefEqProofs only [go_sem, ↓reduceIte, keep3, ib3, mk3, Tryd.f3, Bool.true_or, Bool.or_true, Bool.false_or, Bool.or_false, protF, eq_self, decide_true, Bool.not_true, bne_self_eq_false, upd_upd, upd_get, OV.map_val, OV.map_val_nil, OV.val_v, DAct.c_eq, eng_nw0, fng_nw0, og_3.flat, og_3.one]
  refine HFnF.lend0 (eq_Act (readRes t).1 (readRes t).1) (ViewL.cons (View.aggD [.v (.int .i64 (readRes t).1.fKind), .v (.int .i64 (readRes t).1.fA), .v (.int .i64 (readRes t).1.fB), yg_3] (DAct.o_dat oeg) (Owns.up2 z1_nw0 ⟨dng_nw0, z1_ng⟩ Hg_1)) (ViewL.cons (by first | exact View.same _ _ | (simp only [DAct.c_eq]; exact View.same _ _)) ViewL.nil)) rfl ?_
  simp (maxSteps := 1000000) -dsimp -implicitDefEqProofs only [go_sem, ↓reduceIte, keep3, ib3, mk3, Tryd.f3, Bool.true_or, Bool.or_true, Bool.false_or, Bool.or_false, protF, eq_self, decide_true, Bool.not_true, bne_self_eq_false, upd_upd, upd_get, OV.map_val, OV.map_val_nil, OV.val_v, DAct.c_eq, eng_nw0, fng_nw0, og_3.flat, og_3.one]
  repeat' (with_reducible first | intro _ | refine And.intro ?_ ?_)
  all_goals try (first | exact ⟨_, Heap.le_refl _, rfl⟩ | exact ⟨_, Heap.le_refl _⟩)
  all_goals try omega
  have hctg : OV.ctTop [.v (.int .i64 (readRes t).1.fKind), .v (.int .i64 (readRes t).1.fA), .v (.int .i64 (readRes t).1.fB), yg_3] ≤ 4000000000000000000 := by have h1 := DAct.o_top _ _ oeg; have h2 := readRes_s t; omega
  refine HFnF.wc2 (mark_Act _ [.v (.int .i64 (readRes t).1.fKind), .v (.int .i64 (readRes t).1.fA), .v (.int .i64 (readRes t).1.fB), yg_3] 1 _ oeg (by omega) (by omega) (Owns.up2 z1_nw0 ⟨dng_nw0, z1_ng⟩ Hg_1) ndg) Hg_1 z1_nw0 ⟨dng_nw0, z1_ng⟩ ?_
  rintro g2 cg2 z2_nw0 z2_ng
  obtain ⟨ccg, hccg⟩ : ∃ z : Int, z = 1 + ((OV.ctTop [.v (.int .i64 (readRes t).1.fKind), .v (.int .i64 (readRes t).1.fA), .v (.int .i64 (readRes t).1.fB), yg_3] : Nat) : Int) := ⟨_, rfl⟩
  rw [← hccg]
  simp (maxSteps := 1000000) -dsimp -implicitDefEqProofs only [go_sem, ↓reduceIte, keep3, ib3, mk3, Tryd.f3, Bool.true_or, Bool.or_true, Bool.false_or, Bool.or_false, protF, eq_self, decide_true, Bool.not_true, bne_self_eq_false, upd_upd, upd_get, OV.map_val, OV.map_val_nil, OV.val_v, DAct.c_eq, eng_nw0, fng_nw0, og_3.flat, og_3.one]
  repeat' (with_reducible first | intro _ | refine And.intro ?_ ?_)
  all_goals try (first | exact ⟨_, Heap.le_refl _, rfl⟩ | exact ⟨_, Heap.le_refl _⟩)
  all_goals try omega
  have hh := held_Act _ [.v (.int .i64 (readRes t).1.fKind), .v (.int .i64 (readRes t).1.fA), .v (.int .i64 (readRes t).1.fB), yg_3] 1 oeg (by omega) (by omega)
  rw [← hccg] at hh
  refine HFnF.lend0 hh (ViewL.cons (View.aggM 1 [.v (.int .i64 (readRes t).1.fKind), .v (.int .i64 (readRes t).1.fA), .v (.int .i64 (readRes t).1.fB), yg_3] (Owns.up2 z2_nw0 ⟨dng_nw0, z2_ng⟩ cg2.owns)) (ViewL.cons (View.same _ _) ViewL.nil)) rfl ?_
  simp (maxSteps := 1000000) -dsimp -implicitDefEqProofs only [go_sem, ↓reduceIte, keep3, ib3, mk3, Tryd.f3, Bool.true_or, Bool.or_true, Bool.false_or, Bool.or_false, protF, eq_self, decide_true, Bool.not_true, bne_self_eq_false, upd_upd, upd_get, OV.map_val, OV.map_val_nil, OV.val_v, DAct.c_eq, eng_nw0, fng_nw0, og_3.flat, og_3.one]
  repeat' (with_reducible first | intro _ | refine And.intro ?_ ?_)
  all_goals try (first | exact ⟨_, Heap.le_refl _, rfl⟩ | exact ⟨_, Heap.le_refl _⟩)
  all_goals try omega
  first | refine HFnF.mk (hseal) ?_ | refine CallSF.mk (hseal) ?_
  simp (maxSteps := 1000000) -dsimp -implicitDefEqProofs only [go_sem, ↓reduceIte, keep3, ib3, mk3, Tryd.f3, Bool.true_or, Bool.or_true, Bool.false_or, Bool.or_false, protF, eq_self, decide_true, Bool.not_true, bne_self_eq_false, upd_upd, upd_get, OV.map_val, OV.map_val_nil, OV.val_v, DAct.c_eq, eng_nw0, fng_nw0, og_3.flat, og_3.one]
  intro nh qnh
  have dnh_ng : nh ≠ ng := fun e => by
    first
      | exact qnh.1 e
      | (rw [if_pos e] at qnh; cases qnh)
  have enh_ng : (nh = ng) = False := eq_false dnh_ng
  have fnh_ng : (ng = nh) = False := eq_false (fun e => dnh_ng e.symm)
  first
    | (rw [if_neg dnh_ng] at qnh)
    | (replace qnh := qnh.2)
  have dnh_nw0 : nh ≠ nw0 := fun e => by
    first
      | exact qnh.1 e
      | (rw [if_pos e] at qnh; cases qnh)
  have enh_nw0 : (nh = nw0) = False := eq_false dnh_nw0
  have fnh_nw0 : (nw0 = nh) = False := eq_false (fun e => dnh_nw0 e.symm)
  first
    | (rw [if_neg dnh_nw0] at qnh)
    | (replace qnh := qnh.2)
  have z2_nh := qnh
  clear qnh
  try simp (maxSteps := 1000000) -dsimp -implicitDefEqProofs only [go_sem, ↓reduceIte, keep3, ib3, mk3, Tryd.f3, Bool.true_or, Bool.or_true, Bool.false_or, Bool.or_false, protF, eq_self, decide_true, Bool.not_true, bne_self_eq_false, upd_upd, upd_get, OV.map_val, OV.map_val_nil, OV.val_v, DAct.c_eq, eng_nw0, fng_nw0, enh_ng, fnh_ng, enh_nw0, fnh_nw0, og_3.flat, og_3.one]
  refine HFnF.mk (eq_Act (readRes t).1 (readRes t).1) ?_
  simp (maxSteps := 1000000) -dsimp -implicitDefEqProofs only [go_sem, ↓reduceIte, keep3, ib3, mk3, Tryd.f3, Bool.true_or, Bool.or_true, Bool.false_or, Bool.or_false, protF, eq_self, decide_true, Bool.not_true, bne_self_eq_false, upd_upd, upd_get, OV.map_val, OV.map_val_nil, OV.val_v, DAct.c_eq, eng_nw0, fng_nw0, enh_ng, fnh_ng, enh_nw0, fnh_nw0, og_3.flat, og_3.one]
  repeat' (with_reducible first | intro _ | refine And.intro ?_ ?_)
  all_goals try (first | exact ⟨_, Heap.le_refl _, rfl⟩ | exact ⟨_, Heap.le_refl _⟩)
  all_goals try omega
  have hh := held_Act _ [.v (.int .i64 (readRes t).1.fKind), .v (.int .i64 (readRes t).1.fA), .v (.int .i64 (readRes t).1.fB), yg_3] 1 oeg (by omega) (by omega)
  rw [← hccg] at hh
  refine HFnF.lend0 hh (ViewL.cons (View.aggM 1 [.v (.int .i64 (readRes t).1.fKind), .v (.int .i64 (readRes t).1.fA), .v (.int .i64 (readRes t).1.fB), yg_3] (Owns.up3 z2_nw0 ⟨dng_nw0, z2_ng⟩ ⟨dnh_ng, dnh_nw0, z2_nh⟩ cg2.owns)) (ViewL.cons (View.same _ _) ViewL.nil)) rfl ?_
  simp (maxSteps := 1000000) -dsimp -implicitDefEqProofs only [go_sem, ↓reduceIte, keep3, ib3, mk3, Tryd.f3, Bool.true_or, Bool.or_true, Bool.false_or, Bool.or_false, protF, eq_self, decide_true, Bool.not_true, bne_self_eq_false, upd_upd, upd_get, OV.map_val, OV.map_val_nil, OV.val_v, DAct.c_eq, eng_nw0, fng_nw0, enh_ng, fnh_ng, enh_nw0, fnh_nw0, og_3.flat, og_3.one]
  repeat' (with_reducible first | intro _ | refine And.intro ?_ ?_)
  all_goals try (first | exact ⟨_, Heap.le_refl _, rfl⟩ | exact ⟨_, Heap.le_refl _⟩)
  all_goals try omega

open Go.Proofs
set_option linter.unusedVariables false
set_option linter.unusedSimpArgs false
theorem dat_str {P : Program} {n : Nat} {t : TypeId} {xs : List HVal} (hu : P.underlying t = some .string) (h : Dat P n t xs) : ∃ s : List UInt8, xs = [.str s] ∧ True := by
  match n, h with
  | 0, h => exact h.elim
  | n + 1, h =>
    simp only [Dat, hu] at h
    obtain ⟨b, rfl⟩ := h
    exact ⟨b, rfl, trivial⟩
def datT : List TypeId := [9]
theorem datT_ok : datB Tryd.prog datT = true := by kernel_rfl

end Go.Hl

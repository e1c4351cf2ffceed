/-
  Contracts of functions and laws of the layer over the walk.
-/
import Derived.Test.YthgfmobhhdmkpaaGreatVvD
namespace Go.Hl
open Go.Proofs
set_option linter.unusedVariables false
set_option linter.unusedSimpArgs false
def keep114 : List Nat := [0, 1, 2, 3, 5, 6, 8, 11, 12, 13, 14, 23, 24, 25, 26]
def ib114 : List Nat := [1, 33, 40]
def mk114 : Marks := fun id => match id with | 9 => ([1, 2, 3, 5, 7], (.op 0 (.op 1 (.op 2 (.op 3 (.op 4 (.op 5 (.op 6 (.op 7 .nil)))))))), [(1, 3)]) | _ => ([], .nil, [])
set_option maxRecDepth 100000 in
set_option maxHeartbeats 1000000 in
theorem cloneProgram (x : DProgram) (hs : x.s ≤ 1048576) : FnN Tryz.prog 114 [.agg x.c] (QA x.o) := by
  have hs' := x.s_eq
  try simp only [szs_eq] at hs'
  simp only [DProgram.c_eq]
  refine fnNF 45 keep114 ib114 mk114 mix Tryz.func114 rfl (by kernel_rfl) (by simp) fun h => ?_
  try simp (maxSteps := 1000000) -dsimp -implicitDefEqProofs only [go_sem, ↓reduceIte, keep114, ib114, mk114, Tryz.f114, upd_upd, upd_ne]
  intro n2 qn2
  have z_n2 := qn2
  try simp (maxSteps := 1000000) -dsimp -implicitDefEqProofs only [go_sem, ↓reduceIte, keep114, ib114, mk114, Tryz.f114, upd_upd, upd_ne]
  intro n3 qn3
  have dn3_n2 : ¬ n3 = n2 := qn3.1
  have en3_n2 : (n3 = n2) = False := eq_false dn3_n2
  have fn3_n2 : (n2 = n3) = False := eq_false (fun e => dn3_n2 e.symm)
  have dn2_n3 : ¬ n2 = n3 := fun e => dn3_n2 e.symm
  have z_n3 := qn3.2
  try simp (maxSteps := 1000000) -dsimp -implicitDefEqProofs only [go_sem, ↓reduceIte, keep114, ib114, mk114, Tryz.f114, upd_upd, upd_ne, en3_n2, fn3_n2]
  try (with_reducible intro _)
  refine loopW (keep := keep114) (ib := ib114) (mk := mk114) mix (by kernel_rfl) (fun s : Nat × List (List OV) × Heap × Option Nat => [(2, .op n2 1 0 0), (3, .op n3 1 0 0), (11, sls 3 DFunc.c x.fFuncs), (12, I x.fFuncs.length), (13, (I s.1))]) (fun s => (upd (upd (oheap s.2.2.1 (.row 3 (OV.cells s.2.1)) s.2.2.2) n2 (.row 1 [[.v .nilsl]])) n3 (.row 1 [[.v (onil 3 s.2.1.length s.2.2.2)]]))) (fun s => s.1 ≤ x.fFuncs.length ∧ OR DFunc.o (x.fFuncs.take s.1) s.2.1 ∧ New h (OV.rowsRows s.2.1) s.2.2.1 ∧ s.2.2.1 n2 = none ∧ s.2.2.1 n3 = none ∧ gside s.2.2.1 s.2.1 s.2.2.2 ∧ ∀ n : Nat, s.2.2.2 = some n → n ≠ n2 ∧ n ≠ n3) (fun s => x.fFuncs.length - s.1) (0, [], h, none) ?_ ?_
  · exact ⟨by simp [SatL, tget], Heap.wk_of_le (by intro q_; simp only [upd_get, oheap_none, oheap_some, onil_none, onil_some, take_cells, cells_snoc, cells_one, cells_nil, cellv_cons, cellv_nil, OV.val_v, List.nil_append, List.length_append, List.length_cons, List.length_nil, Nat.zero_add]; grind), Nat.zero_le _, trivial, New.nil _, z_n2, z_n3, rfl, by simp⟩
  rintro ⟨ka, esa, ga_, oa_⟩ ⟨hkka, hora, hnewa, z_n2, z_n3, hosa, hona⟩
  simp only at hkka hora hnewa z_n2 z_n3 hosa hona ⊢
  have hlena : esa.length = ka := by have := hora.length; simp at this; omega
  rcases Nat.lt_or_ge ka x.fFuncs.length with hlta | hgea
  · have eaa : x.fFuncs[ka]? = some x.fFuncs[ka] := List.getElem?_eq_getElem hlta
    have hf := sum_mem DFunc.s (List.getElem_mem hlta)
    have hf2 := (x.fFuncs[ka]).s_eq
    simp only [szs_eq] at hf2
    cases oa_ with
    | none =>
      rw [gside_none] at hosa
      subst hosa
      try simp (maxSteps := 1000000) -dsimp -implicitDefEqProofs only [go_sem, ↓reduceIte, keep114, ib114, mk114, Tryz.f114, upd_upd, upd_ne, en3_n2, fn3_n2, eaa, hlta, oheap_none, onil_none, DFunc.c_eq]
      intro n5 qn5
      have dn5_n3 : ¬ n5 = n3 := qn5.1
      have en5_n3 : (n5 = n3) = False := eq_false dn5_n3
      have fn5_n3 : (n3 = n5) = False := eq_false (fun e => dn5_n3 e.symm)
      have dn3_n5 : ¬ n3 = n5 := fun e => dn5_n3 e.symm
      have dn5_n2 : ¬ n5 = n2 := qn5.2.1
      have en5_n2 : (n5 = n2) = False := eq_false dn5_n2
      have fn5_n2 : (n2 = n5) = False := eq_false (fun e => dn5_n2 e.symm)
      have dn2_n5 : ¬ n2 = n5 := fun e => dn5_n2 e.symm
      have z_n5 := qn5.2.2
      try simp (maxSteps := 1000000) -dsimp -implicitDefEqProofs only [go_sem, ↓reduceIte, keep114, ib114, mk114, Tryz.f114, upd_upd, upd_ne, en3_n2, fn3_n2, en5_n3, fn5_n3, en5_n2, fn5_n2, eaa, hlta, oheap_none, onil_none, DFunc.c_eq]
      intro n6 qn6
      have dn6_n5 : ¬ n6 = n5 := qn6.1
      have en6_n5 : (n6 = n5) = False := eq_false dn6_n5
      have fn6_n5 : (n5 = n6) = False := eq_false (fun e => dn6_n5 e.symm)
      have dn5_n6 : ¬ n5 = n6 := fun e => dn6_n5 e.symm
      have dn6_n3 : ¬ n6 = n3 := qn6.2.1
      have en6_n3 : (n6 = n3) = False := eq_false dn6_n3
      have fn6_n3 : (n3 = n6) = False := eq_false (fun e => dn6_n3 e.symm)
      have dn3_n6 : ¬ n3 = n6 := fun e => dn6_n3 e.symm
      have dn6_n2 : ¬ n6 = n2 := qn6.2.2.1
      have en6_n2 : (n6 = n2) = False := eq_false dn6_n2
      have fn6_n2 : (n2 = n6) = False := eq_false (fun e => dn6_n2 e.symm)
      have dn2_n6 : ¬ n2 = n6 := fun e => dn6_n2 e.symm
      have z_n6 := qn6.2.2.2
      try simp (maxSteps := 1000000) -dsimp -implicitDefEqProofs only [go_sem, ↓reduceIte, keep114, ib114, mk114, Tryz.f114, upd_upd, upd_ne, en3_n2, fn3_n2, en5_n3, fn5_n3, en5_n2, fn5_n2, en6_n5, fn6_n5, en6_n3, fn6_n3, en6_n2, fn6_n2, eaa, hlta, oheap_none, onil_none, DFunc.c_eq]
      try (with_reducible intro _)
      refine loopF (keep := keep114) (ib := ib114) (mk := mk114) mix (by kernel_rfl) (fun s : Nat × List (List OV) × Heap × Option Nat => [(2, .op n2 1 0 0), (3, .op n3 1 0 0), (11, sls 3 DFunc.c x.fFuncs), (12, I x.fFuncs.length), (13, (I ka)), (5, .op n5 3 0 0), (6, .op n6 3 0 0), (23, sls 5 DExpr.c x.fFuncs[ka].fOuts), (24, I x.fFuncs[ka].fOuts.length), (25, (I s.1))]) (fun s => (upd (upd (upd (upd (oheap s.2.2.1 (.row 5 (OV.cells s.2.1)) s.2.2.2) n2 (.row 1 [[.v .nilsl]])) n3 (.row 1 [[.v (.nilsl)]])) n5 (.row 3 [[.v (.str x.fFuncs[ka].fName), .v (I x.fFuncs[ka].fParams), .v (sls 5 DExpr.c x.fFuncs[ka].fOuts)]])) n6 (.row 3 [[.v (.str x.fFuncs[ka].fName), .v (I x.fFuncs[ka].fParams), .v (onil 5 s.2.1.length s.2.2.2)]]))) (fun s => s.1 ≤ x.fFuncs[ka].fOuts.length ∧ OR DExpr.o (x.fFuncs[ka].fOuts.take s.1) s.2.1 ∧ New ga_ (OV.rowsRows s.2.1) s.2.2.1 ∧ s.2.2.1 n2 = none ∧ s.2.2.1 n3 = none ∧ s.2.2.1 n5 = none ∧ s.2.2.1 n6 = none ∧ gside s.2.2.1 s.2.1 s.2.2.2 ∧ ∀ n : Nat, s.2.2.2 = some n → n ≠ n2 ∧ n ≠ n3 ∧ n ≠ n5 ∧ n ≠ n6) (fun s => x.fFuncs[ka].fOuts.length - s.1) (0, [], ga_, none) ?_ ?_
      · exact ⟨by simp [SatL, tget], (by intro q_; simp only [upd_get, oheap_none, oheap_some, onil_none, onil_some, take_cells, cells_snoc, cells_one, cells_nil, cellv_cons, cellv_nil, OV.val_v, List.nil_append, List.length_append, List.length_cons, List.length_nil, Nat.zero_add]; grind), Nat.zero_le _, trivial, New.nil _, z_n2, z_n3, z_n5, z_n6, rfl, by simp⟩
      rintro ⟨ki, esi, gi_, oi_⟩ ⟨hkki, hori, hnewi, z_n2, z_n3, z_n5, z_n6, hosi, honi⟩
      simp only at hkki hori hnewi z_n2 z_n3 z_n5 z_n6 hosi honi ⊢
      have hleni : esi.length = ki := by have := hori.length; simp at this; omega
      rcases Nat.lt_or_ge ki x.fFuncs[ka].fOuts.length with hlti | hgei
      · have eai : x.fFuncs[ka].fOuts[ki]? = some x.fFuncs[ka].fOuts[ki] := List.getElem?_eq_getElem hlti
        have hxi := cloneExpr (x.fFuncs[ka].fOuts[ki]) (by have := sum_mem DExpr.s (List.getElem_mem hlti); omega)
        simp only [DExpr.c_eq] at hxi
        cases oi_ with
        | none =>
          rw [gside_none] at hosi
          subst hosi
          try simp (maxSteps := 1000000) -dsimp -implicitDefEqProofs only [go_sem, ↓reduceIte, keep114, ib114, mk114, Tryz.f114, upd_upd, upd_ne, en3_n2, fn3_n2, en5_n3, fn5_n3, en5_n2, fn5_n2, en6_n5, fn6_n5, en6_n3, fn6_n3, en6_n2, fn6_n2, eaa, hlta, oheap_none, onil_none, eai, hlti, oheap_none, onil_none, DExpr.c_eq, DFunc.c_eq]
          intro n8 qn8
          have dn8_n6 : ¬ n8 = n6 := qn8.1
          have en8_n6 : (n8 = n6) = False := eq_false dn8_n6
          have fn8_n6 : (n6 = n8) = False := eq_false (fun e => dn8_n6 e.symm)
          have dn6_n8 : ¬ n6 = n8 := fun e => dn8_n6 e.symm
          have dn8_n5 : ¬ n8 = n5 := qn8.2.1
          have en8_n5 : (n8 = n5) = False := eq_false dn8_n5
          have fn8_n5 : (n5 = n8) = False := eq_false (fun e => dn8_n5 e.symm)
          have dn5_n8 : ¬ n5 = n8 := fun e => dn8_n5 e.symm
          have dn8_n3 : ¬ n8 = n3 := qn8.2.2.1
          have en8_n3 : (n8 = n3) = False := eq_false dn8_n3
          have fn8_n3 : (n3 = n8) = False := eq_false (fun e => dn8_n3 e.symm)
          have dn3_n8 : ¬ n3 = n8 := fun e => dn8_n3 e.symm
          have dn8_n2 : ¬ n8 = n2 := qn8.2.2.2.1
          have en8_n2 : (n8 = n2) = False := eq_false dn8_n2
          have fn8_n2 : (n2 = n8) = False := eq_false (fun e => dn8_n2 e.symm)
          have dn2_n8 : ¬ n2 = n8 := fun e => dn8_n2 e.symm
          have z_n8 := qn8.2.2.2.2
          try simp (maxSteps := 1000000) -dsimp -implicitDefEqProofs only [go_sem, ↓reduceIte, keep114, ib114, mk114, Tryz.f114, upd_upd, upd_ne, en3_n2, fn3_n2, en5_n3, fn5_n3, en5_n2, fn5_n2, en6_n5, fn6_n5, en6_n3, fn6_n3, en6_n2, fn6_n2, en8_n6, fn8_n6, en8_n5, fn8_n5, en8_n3, fn8_n3, en8_n2, fn8_n2, eaa, hlta, oheap_none, onil_none, eai, hlti, oheap_none, onil_none, DExpr.c_eq, DFunc.c_eq]
          refine HFnF.wn5 (hxi) z_n2 ⟨dn3_n2, z_n3⟩ ⟨dn5_n3, dn5_n2, z_n5⟩ ⟨dn6_n5, dn6_n3, dn6_n2, z_n6⟩ ⟨dn8_n6, dn8_n5, dn8_n3, dn8_n2, z_n8⟩ ?_
          rintro r l_ gb ⟨e_b, oeb, rfl, rfl⟩ wb z_n2 z_n3 z_n5 z_n6 z_n8
          have oob := oeb
          rw [DExpr.o_iff] at oob
          obtain ⟨yb_4, rfl, ob_4⟩ := oob
          try simp (maxSteps := 1000000) -dsimp -implicitDefEqProofs only [go_sem, ↓reduceIte, keep114, ib114, mk114, Tryz.f114, upd_upd, upd_ne, en3_n2, fn3_n2, en5_n3, fn5_n3, en5_n2, fn5_n2, en6_n5, fn6_n5, en6_n3, fn6_n3, en6_n2, fn6_n2, en8_n6, fn8_n6, en8_n5, fn8_n5, en8_n3, fn8_n3, en8_n2, fn8_n2, eaa, hlta, oheap_none, onil_none, eai, hlti, oheap_none, onil_none, ob_4.flat, ob_4.one, OV.map_val, OV.map_val_nil, OV.val_v, DExpr.c_eq, DFunc.c_eq]
          repeat' (with_reducible first | refine And.intro (by first | omega | decide | rfl | trivial | exact Nat.le_of_eq (reps_len _ _).symm | exact Nat.le_of_eq (cells_len _).symm) ?_)
          intro mi qmi
          have dmi_n8 : ¬ mi = n8 := qmi.1
          have emi_n8 : (mi = n8) = False := eq_false dmi_n8
          have fmi_n8 : (n8 = mi) = False := eq_false (fun e => dmi_n8 e.symm)
          have dn8_mi : ¬ n8 = mi := fun e => dmi_n8 e.symm
          have dmi_n6 : ¬ mi = n6 := qmi.2.1
          have emi_n6 : (mi = n6) = False := eq_false dmi_n6
          have fmi_n6 : (n6 = mi) = False := eq_false (fun e => dmi_n6 e.symm)
          have dn6_mi : ¬ n6 = mi := fun e => dmi_n6 e.symm
          have dmi_n5 : ¬ mi = n5 := qmi.2.2.1
          have emi_n5 : (mi = n5) = False := eq_false dmi_n5
          have fmi_n5 : (n5 = mi) = False := eq_false (fun e => dmi_n5 e.symm)
          have dn5_mi : ¬ n5 = mi := fun e => dmi_n5 e.symm
          have dmi_n3 : ¬ mi = n3 := qmi.2.2.2.1
          have emi_n3 : (mi = n3) = False := eq_false dmi_n3
          have fmi_n3 : (n3 = mi) = False := eq_false (fun e => dmi_n3 e.symm)
          have dn3_mi : ¬ n3 = mi := fun e => dmi_n3 e.symm
          have dmi_n2 : ¬ mi = n2 := qmi.2.2.2.2.1
          have emi_n2 : (mi = n2) = False := eq_false dmi_n2
          have fmi_n2 : (n2 = mi) = False := eq_false (fun e => dmi_n2 e.symm)
          have dn2_mi : ¬ n2 = mi := fun e => dmi_n2 e.symm
          have z_mi := qmi.2.2.2.2.2
          try simp (maxSteps := 1000000) -dsimp -implicitDefEqProofs only [go_sem, ↓reduceIte, keep114, ib114, mk114, Tryz.f114, upd_upd, upd_ne, en3_n2, fn3_n2, en5_n3, fn5_n3, en5_n2, fn5_n2, en6_n5, fn6_n5, en6_n3, fn6_n3, en6_n2, fn6_n2, en8_n6, fn8_n6, en8_n5, fn8_n5, en8_n3, fn8_n3, en8_n2, fn8_n2, emi_n8, fmi_n8, emi_n6, fmi_n6, emi_n5, fmi_n5, emi_n3, fmi_n3, emi_n2, fmi_n2, eaa, hlta, oheap_none, onil_none, eai, hlti, oheap_none, onil_none, ob_4.flat, ob_4.one, OV.map_val, OV.map_val_nil, OV.val_v]
          refine ⟨(ki + 1, ([] : List (List OV)) ++ [[.v (.int .i64 x.fFuncs[ka].fOuts[ki].fKind), .v (.int .i64 x.fFuncs[ka].fOuts[ki].fNum), .v (.int .i64 x.fFuncs[ka].fOuts[ki].fPick), .v (.int .i64 x.fFuncs[ka].fOuts[ki].fCount), yb_4]], gb, some mi), ?_⟩
          simp only
          refine ⟨?_, (by intro q_; simp only [upd_get, oheap_none, oheap_some, onil_none, onil_some, take_cells, cells_snoc, cells_one, cells_nil, cellv_cons, cellv_nil, OV.val_v, List.nil_append, List.length_append, List.length_cons, List.length_nil, Nat.zero_add]; grind), ⟨by omega, OR.snoc hori hlti oeb, hnewi.snoc wb, z_n2, z_n3, z_n5, z_n6, z_mi, (fun n_ e_ => by obtain rfl := Option.some.inj e_; exact ⟨dmi_n2, dmi_n3, dmi_n5, dmi_n6⟩)⟩, by omega⟩
          all_goals (repeat' (with_reducible refine And.intro ?_ ?_))
          all_goals first | rfl | trivial | (rw [IntWalk.i64_in _ (by omega)]; omega)
        | some ni =>
          rw [gside_some] at hosi
          have z_ni := hosi
          have hni := honi ni rfl
          have dni_n2 : ¬ ni = n2 := hni.1
          have eni_n2 : (ni = n2) = False := eq_false dni_n2
          have fni_n2 : (n2 = ni) = False := eq_false (fun e => dni_n2 e.symm)
          have dn2_ni : ¬ n2 = ni := fun e => dni_n2 e.symm
          have dni_n3 : ¬ ni = n3 := hni.2.1
          have eni_n3 : (ni = n3) = False := eq_false dni_n3
          have fni_n3 : (n3 = ni) = False := eq_false (fun e => dni_n3 e.symm)
          have dn3_ni : ¬ n3 = ni := fun e => dni_n3 e.symm
          have dni_n5 : ¬ ni = n5 := hni.2.2.1
          have eni_n5 : (ni = n5) = False := eq_false dni_n5
          have fni_n5 : (n5 = ni) = False := eq_false (fun e => dni_n5 e.symm)
          have dn5_ni : ¬ n5 = ni := fun e => dni_n5 e.symm
          have dni_n6 : ¬ ni = n6 := hni.2.2.2
          have eni_n6 : (ni = n6) = False := eq_false dni_n6
          have fni_n6 : (n6 = ni) = False := eq_false (fun e => dni_n6 e.symm)
          have dn6_ni : ¬ n6 = ni := fun e => dni_n6 e.symm
          try simp (maxSteps := 1000000) -dsimp -implicitDefEqProofs only [go_sem, ↓reduceIte, keep114, ib114, mk114, Tryz.f114, upd_upd, upd_ne, en3_n2, fn3_n2, en5_n3, fn5_n3, en5_n2, fn5_n2, en6_n5, fn6_n5, en6_n3, fn6_n3, en6_n2, fn6_n2, eni_n2, fni_n2, eni_n3, fni_n3, eni_n5, fni_n5, eni_n6, fni_n6, eaa, hlta, oheap_none, onil_none, eai, hlti, oheap_some, onil_some, DExpr.c_eq, DFunc.c_eq]
          intro n8 qn8
          have dn8_n6 : ¬ n8 = n6 := qn8.1
          have en8_n6 : (n8 = n6) = False := eq_false dn8_n6
          have fn8_n6 : (n6 = n8) = False := eq_false (fun e => dn8_n6 e.symm)
          have dn6_n8 : ¬ n6 = n8 := fun e => dn8_n6 e.symm
          have dn8_n5 : ¬ n8 = n5 := qn8.2.1
          have en8_n5 : (n8 = n5) = False := eq_false dn8_n5
          have fn8_n5 : (n5 = n8) = False := eq_false (fun e => dn8_n5 e.symm)
          have dn5_n8 : ¬ n5 = n8 := fun e => dn8_n5 e.symm
          have dn8_n3 : ¬ n8 = n3 := qn8.2.2.1
          have en8_n3 : (n8 = n3) = False := eq_false dn8_n3
          have fn8_n3 : (n3 = n8) = False := eq_false (fun e => dn8_n3 e.symm)
          have dn3_n8 : ¬ n3 = n8 := fun e => dn8_n3 e.symm
          have dn8_n2 : ¬ n8 = n2 := qn8.2.2.2.1
          have en8_n2 : (n8 = n2) = False := eq_false dn8_n2
          have fn8_n2 : (n2 = n8) = False := eq_false (fun e => dn8_n2 e.symm)
          have dn2_n8 : ¬ n2 = n8 := fun e => dn8_n2 e.symm
          have dn8_ni : ¬ n8 = ni := qn8.2.2.2.2.1
          have en8_ni : (n8 = ni) = False := eq_false dn8_ni
          have fn8_ni : (ni = n8) = False := eq_false (fun e => dn8_ni e.symm)
          have dni_n8 : ¬ ni = n8 := fun e => dn8_ni e.symm
          have z_n8 := qn8.2.2.2.2.2
          try simp (maxSteps := 1000000) -dsimp -implicitDefEqProofs only [go_sem, ↓reduceIte, keep114, ib114, mk114, Tryz.f114, upd_upd, upd_ne, en3_n2, fn3_n2, en5_n3, fn5_n3, en5_n2, fn5_n2, en6_n5, fn6_n5, en6_n3, fn6_n3, en6_n2, fn6_n2, eni_n2, fni_n2, eni_n3, fni_n3, eni_n5, fni_n5, eni_n6, fni_n6, en8_n6, fn8_n6, en8_n5, fn8_n5, en8_n3, fn8_n3, en8_n2, fn8_n2, en8_ni, fn8_ni, eaa, hlta, oheap_none, onil_none, eai, hlti, oheap_some, onil_some, DExpr.c_eq, DFunc.c_eq]
          refine HFnF.wn6 (hxi) z_ni ⟨dn2_ni, z_n2⟩ ⟨dn3_n2, dn3_ni, z_n3⟩ ⟨dn5_n3, dn5_n2, dn5_ni, z_n5⟩ ⟨dn6_n5, dn6_n3, dn6_n2, dn6_ni, z_n6⟩ ⟨dn8_n6, dn8_n5, dn8_n3, dn8_n2, dn8_ni, z_n8⟩ ?_
          rintro r l_ gb ⟨e_b, oeb, rfl, rfl⟩ wb z_ni z_n2 z_n3 z_n5 z_n6 z_n8
          have oob := oeb
          rw [DExpr.o_iff] at oob
          obtain ⟨yb_4, rfl, ob_4⟩ := oob
          try simp (maxSteps := 1000000) -dsimp -implicitDefEqProofs only [go_sem, ↓reduceIte, keep114, ib114, mk114, Tryz.f114, upd_upd, upd_ne, en3_n2, fn3_n2, en5_n3, fn5_n3, en5_n2, fn5_n2, en6_n5, fn6_n5, en6_n3, fn6_n3, en6_n2, fn6_n2, eni_n2, fni_n2, eni_n3, fni_n3, eni_n5, fni_n5, eni_n6, fni_n6, en8_n6, fn8_n6, en8_n5, fn8_n5, en8_n3, fn8_n3, en8_n2, fn8_n2, en8_ni, fn8_ni, eaa, hlta, oheap_none, onil_none, eai, hlti, oheap_some, onil_some, ob_4.flat, ob_4.one, OV.map_val, OV.map_val_nil, OV.val_v, DExpr.c_eq, DFunc.c_eq]
          repeat' (with_reducible first | refine And.intro (by first | omega | decide | rfl | trivial | exact Nat.le_of_eq (reps_len _ _).symm | exact Nat.le_of_eq (cells_len _).symm) ?_)
          intro mi qmi
          have dmi_n8 : ¬ mi = n8 := qmi.1
          have emi_n8 : (mi = n8) = False := eq_false dmi_n8
          have fmi_n8 : (n8 = mi) = False := eq_false (fun e => dmi_n8 e.symm)
          have dn8_mi : ¬ n8 = mi := fun e => dmi_n8 e.symm
          have dmi_n6 : ¬ mi = n6 := qmi.2.1
          have emi_n6 : (mi = n6) = False := eq_false dmi_n6
          have fmi_n6 : (n6 = mi) = False := eq_false (fun e => dmi_n6 e.symm)
          have dn6_mi : ¬ n6 = mi := fun e => dmi_n6 e.symm
          have dmi_n5 : ¬ mi = n5 := qmi.2.2.1
          have emi_n5 : (mi = n5) = False := eq_false dmi_n5
          have fmi_n5 : (n5 = mi) = False := eq_false (fun e => dmi_n5 e.symm)
          have dn5_mi : ¬ n5 = mi := fun e => dmi_n5 e.symm
          have dmi_n3 : ¬ mi = n3 := qmi.2.2.2.1
          have emi_n3 : (mi = n3) = False := eq_false dmi_n3
          have fmi_n3 : (n3 = mi) = False := eq_false (fun e => dmi_n3 e.symm)
          have dn3_mi : ¬ n3 = mi := fun e => dmi_n3 e.symm
          have dmi_n2 : ¬ mi = n2 := qmi.2.2.2.2.1
          have emi_n2 : (mi = n2) = False := eq_false dmi_n2
          have fmi_n2 : (n2 = mi) = False := eq_false (fun e => dmi_n2 e.symm)
          have dn2_mi : ¬ n2 = mi := fun e => dmi_n2 e.symm
          have dmi_ni : ¬ mi = ni := qmi.2.2.2.2.2.1
          have emi_ni : (mi = ni) = False := eq_false dmi_ni
          have fmi_ni : (ni = mi) = False := eq_false (fun e => dmi_ni e.symm)
          have dni_mi : ¬ ni = mi := fun e => dmi_ni e.symm
          have z_mi := qmi.2.2.2.2.2.2
          try simp (maxSteps := 1000000) -dsimp -implicitDefEqProofs only [go_sem, ↓reduceIte, keep114, ib114, mk114, Tryz.f114, upd_upd, upd_ne, en3_n2, fn3_n2, en5_n3, fn5_n3, en5_n2, fn5_n2, en6_n5, fn6_n5, en6_n3, fn6_n3, en6_n2, fn6_n2, eni_n2, fni_n2, eni_n3, fni_n3, eni_n5, fni_n5, eni_n6, fni_n6, en8_n6, fn8_n6, en8_n5, fn8_n5, en8_n3, fn8_n3, en8_n2, fn8_n2, en8_ni, fn8_ni, emi_n8, fmi_n8, emi_n6, fmi_n6, emi_n5, fmi_n5, emi_n3, fmi_n3, emi_n2, fmi_n2, emi_ni, fmi_ni, eaa, hlta, oheap_none, onil_none, eai, hlti, oheap_some, onil_some, ob_4.flat, ob_4.one, OV.map_val, OV.map_val_nil, OV.val_v]
          refine ⟨(ki + 1, esi ++ [[.v (.int .i64 x.fFuncs[ka].fOuts[ki].fKind), .v (.int .i64 x.fFuncs[ka].fOuts[ki].fNum), .v (.int .i64 x.fFuncs[ka].fOuts[ki].fPick), .v (.int .i64 x.fFuncs[ka].fOuts[ki].fCount), yb_4]], gb, some mi), ?_⟩
          simp only
          refine ⟨?_, (by intro q_; simp only [upd_get, oheap_none, oheap_some, onil_none, onil_some, take_cells, cells_snoc, cells_one, cells_nil, cellv_cons, cellv_nil, OV.val_v, List.nil_append, List.length_append, List.length_cons, List.length_nil, Nat.zero_add]; grind), ⟨by omega, OR.snoc hori hlti oeb, hnewi.snoc wb, z_n2, z_n3, z_n5, z_n6, z_mi, (fun n_ e_ => by obtain rfl := Option.some.inj e_; exact ⟨dmi_n2, dmi_n3, dmi_n5, dmi_n6⟩)⟩, by omega⟩
          all_goals (repeat' (with_reducible refine And.intro ?_ ?_))
          all_goals first | rfl | trivial | (rw [IntWalk.i64_in _ (by omega)]; omega)
      · have hk2i : ki = x.fFuncs[ka].fOuts.length := by omega
        subst hk2i
        rw [List.take_length] at hori
        have zzi_n2 : oheap gi_ (.row 5 (OV.cells esi)) oi_ n2 = none := oheap_at z_n2 fun n_ e_ => (honi n_ e_).1
        have zzi_n3 : oheap gi_ (.row 5 (OV.cells esi)) oi_ n3 = none := oheap_at z_n3 fun n_ e_ => (honi n_ e_).2.1
        have zzi_n5 : oheap gi_ (.row 5 (OV.cells esi)) oi_ n5 = none := oheap_at z_n5 fun n_ e_ => (honi n_ e_).2.2.1
        have zzi_n6 : oheap gi_ (.row 5 (OV.cells esi)) oi_ n6 = none := oheap_at z_n6 fun n_ e_ => (honi n_ e_).2.2.2
        try simp (maxSteps := 1000000) -dsimp -implicitDefEqProofs only [go_sem, ↓reduceIte, keep114, ib114, mk114, Tryz.f114, upd_upd, upd_ne, en3_n2, fn3_n2, en5_n3, fn5_n3, en5_n2, fn5_n2, en6_n5, fn6_n5, en6_n3, fn6_n3, en6_n2, fn6_n2, eaa, hlta, oheap_none, onil_none, onil_flat, onil_cells, OV.map_val, OV.map_val_nil, OV.val_v, Nat.lt_irrefl, DFunc.c_eq]
        try (with_reducible intro _)
        repeat' (with_reducible first | refine And.intro (by first | omega | decide | rfl | trivial | exact Nat.le_of_eq (reps_len _ _).symm | exact Nat.le_of_eq (cells_len _).symm) ?_)
        have z_n2 := zzi_n2
        have z_n3 := zzi_n3
        have z_n5 := zzi_n5
        have z_n6 := zzi_n6
        have wf := gov_new (sz := 5) hnewi hosi
        intro ma qma
        have dma_n6 : ¬ ma = n6 := qma.1
        have ema_n6 : (ma = n6) = False := eq_false dma_n6
        have fma_n6 : (n6 = ma) = False := eq_false (fun e => dma_n6 e.symm)
        have dn6_ma : ¬ n6 = ma := fun e => dma_n6 e.symm
        have dma_n5 : ¬ ma = n5 := qma.2.1
        have ema_n5 : (ma = n5) = False := eq_false dma_n5
        have fma_n5 : (n5 = ma) = False := eq_false (fun e => dma_n5 e.symm)
        have dn5_ma : ¬ n5 = ma := fun e => dma_n5 e.symm
        have dma_n3 : ¬ ma = n3 := qma.2.2.1
        have ema_n3 : (ma = n3) = False := eq_false dma_n3
        have fma_n3 : (n3 = ma) = False := eq_false (fun e => dma_n3 e.symm)
        have dn3_ma : ¬ n3 = ma := fun e => dma_n3 e.symm
        have dma_n2 : ¬ ma = n2 := qma.2.2.2.1
        have ema_n2 : (ma = n2) = False := eq_false dma_n2
        have fma_n2 : (n2 = ma) = False := eq_false (fun e => dma_n2 e.symm)
        have dn2_ma : ¬ n2 = ma := fun e => dma_n2 e.symm
        have z_ma := qma.2.2.2.2
        try simp (maxSteps := 1000000) -dsimp -implicitDefEqProofs only [go_sem, ↓reduceIte, keep114, ib114, mk114, Tryz.f114, upd_upd, upd_ne, en3_n2, fn3_n2, en5_n3, fn5_n3, en5_n2, fn5_n2, en6_n5, fn6_n5, en6_n3, fn6_n3, en6_n2, fn6_n2, ema_n6, fma_n6, ema_n5, fma_n5, ema_n3, fma_n3, ema_n2, fma_n2, eaa, hlta, oheap_none, onil_none, onil_flat, onil_cells, OV.map_val, OV.map_val_nil, OV.val_v]
        refine ⟨(ka + 1, ([] : List (List OV)) ++ [[.v (.str x.fFuncs[ka].fName), .v (I x.fFuncs[ka].fParams), (gov 5 esi oi_)]], (oheap gi_ (.row 5 (OV.cells esi)) oi_), some ma), ?_⟩
        simp only
        refine ⟨?_, (Heap.wk.trans (b := (upd (upd (oheap (oheap gi_ (.row 5 (OV.cells esi)) oi_) (.row 3 (OV.cells ([] : List (List OV)) ++ [[Cell.v (.str x.fFuncs[ka].fName), Cell.v (I x.fFuncs[ka].fParams), Cell.v (onil 5 esi.length oi_)]])) (some ma)) n2 (.row 1 [[.v .nilsl]])) n3 (.row 1 [[.v (onil 3 (([] : List (List OV)) ++ [[.v (.str x.fFuncs[ka].fName), .v (I x.fFuncs[ka].fParams), (gov 5 esi oi_)]]).length (some ma))]]))) (Heap.wk_row (m := ma) (sz := 3) (es := (OV.cells ([] : List (List OV)) ++ [[Cell.v (.str x.fFuncs[ka].fName), Cell.v (I x.fFuncs[ka].fParams), Cell.v (onil 5 esi.length oi_)]])) (es' := OV.cells (([] : List (List OV)) ++ [[.v (.str x.fFuncs[ka].fName), .v (I x.fFuncs[ka].fParams), (gov 5 esi oi_)]])) (fun q_ hq_ => by simp only [upd_get, oheap_some, if_neg hq_]) (by simp [upd_get, oheap_some, dma_n2, dma_n3]) (by simp [upd_get, oheap_some, dma_n2, dma_n3]) (by rw [cells_snoc]; exact RowsWk.sub (xs := [(.str x.fFuncs[ka].fName), (I x.fFuncs[ka].fParams), (onil 5 esi.length oi_)]) (ys := [(.str x.fFuncs[ka].fName), (I x.fFuncs[ka].fParams), (gov 5 esi oi_).val]) (SubL.cons (Sub.refl _) (SubL.cons (Sub.refl _) (SubL.cons gov_sub SubL.nil))) _)) (Heap.wk_of_le (by intro q_; simp only [upd_get, oheap_none, oheap_some, onil_none, onil_some, take_cells, cells_snoc, cells_one, cells_nil, cellv_cons, cellv_nil, OV.val_v, List.nil_append, List.length_append, List.length_cons, List.length_nil, Nat.zero_add]; grind))), ⟨by omega, OR.snoc hora hlta ⟨_, rfl, gov_os hori hosi⟩, hnewa.snoc (by simpa only [OV.row_cons, OV.row_nil, OV.v_rows, List.nil_append, List.append_nil] using wf), z_n2, z_n3, z_ma, (fun n_ e_ => by obtain rfl := Option.some.inj e_; exact ⟨dma_n2, dma_n3⟩)⟩, by omega⟩
        all_goals (repeat' (with_reducible refine And.intro ?_ ?_))
        all_goals first | rfl | trivial | (rw [IntWalk.i64_in _ (by omega)]; omega)
    | some na =>
      rw [gside_some] at hosa
      have z_na := hosa
      have hna := hona na rfl
      have dna_n2 : ¬ na = n2 := hna.1
      have ena_n2 : (na = n2) = False := eq_false dna_n2
      have fna_n2 : (n2 = na) = False := eq_false (fun e => dna_n2 e.symm)
      have dn2_na : ¬ n2 = na := fun e => dna_n2 e.symm
      have dna_n3 : ¬ na = n3 := hna.2
      have ena_n3 : (na = n3) = False := eq_false dna_n3
      have fna_n3 : (n3 = na) = False := eq_false (fun e => dna_n3 e.symm)
      have dn3_na : ¬ n3 = na := fun e => dna_n3 e.symm
      try simp (maxSteps := 1000000) -dsimp -implicitDefEqProofs only [go_sem, ↓reduceIte, keep114, ib114, mk114, Tryz.f114, upd_upd, upd_ne, en3_n2, fn3_n2, ena_n2, fna_n2, ena_n3, fna_n3, eaa, hlta, oheap_some, onil_some, DFunc.c_eq]
      intro n5 qn5
      have dn5_n3 : ¬ n5 = n3 := qn5.1
      have en5_n3 : (n5 = n3) = False := eq_false dn5_n3
      have fn5_n3 : (n3 = n5) = False := eq_false (fun e => dn5_n3 e.symm)
      have dn3_n5 : ¬ n3 = n5 := fun e => dn5_n3 e.symm
      have dn5_n2 : ¬ n5 = n2 := qn5.2.1
      have en5_n2 : (n5 = n2) = False := eq_false dn5_n2
      have fn5_n2 : (n2 = n5) = False := eq_false (fun e => dn5_n2 e.symm)
      have dn2_n5 : ¬ n2 = n5 := fun e => dn5_n2 e.symm
      have dn5_na : ¬ n5 = na := qn5.2.2.1
      have en5_na : (n5 = na) = False := eq_false dn5_na
      have fn5_na : (na = n5) = False := eq_false (fun e => dn5_na e.symm)
      have dna_n5 : ¬ na = n5 := fun e => dn5_na e.symm
      have z_n5 := qn5.2.2.2
      try simp (maxSteps := 1000000) -dsimp -implicitDefEqProofs only [go_sem, ↓reduceIte, keep114, ib114, mk114, Tryz.f114, upd_upd, upd_ne, en3_n2, fn3_n2, ena_n2, fna_n2, ena_n3, fna_n3, en5_n3, fn5_n3, en5_n2, fn5_n2, en5_na, fn5_na, eaa, hlta, oheap_some, onil_some, DFunc.c_eq]
      intro n6 qn6
      have dn6_n5 : ¬ n6 = n5 := qn6.1
      have en6_n5 : (n6 = n5) = False := eq_false dn6_n5
      have fn6_n5 : (n5 = n6) = False := eq_false (fun e => dn6_n5 e.symm)
      have dn5_n6 : ¬ n5 = n6 := fun e => dn6_n5 e.symm
      have dn6_n3 : ¬ n6 = n3 := qn6.2.1
      have en6_n3 : (n6 = n3) = False := eq_false dn6_n3
      have fn6_n3 : (n3 = n6) = False := eq_false (fun e => dn6_n3 e.symm)
      have dn3_n6 : ¬ n3 = n6 := fun e => dn6_n3 e.symm
      have dn6_n2 : ¬ n6 = n2 := qn6.2.2.1
      have en6_n2 : (n6 = n2) = False := eq_false dn6_n2
      have fn6_n2 : (n2 = n6) = False := eq_false (fun e => dn6_n2 e.symm)
      have dn2_n6 : ¬ n2 = n6 := fun e => dn6_n2 e.symm
      have dn6_na : ¬ n6 = na := qn6.2.2.2.1
      have en6_na : (n6 = na) = False := eq_false dn6_na
      have fn6_na : (na = n6) = False := eq_false (fun e => dn6_na e.symm)
      have dna_n6 : ¬ na = n6 := fun e => dn6_na e.symm
      have z_n6 := qn6.2.2.2.2
      try simp (maxSteps := 1000000) -dsimp -implicitDefEqProofs only [go_sem, ↓reduceIte, keep114, ib114, mk114, Tryz.f114, upd_upd, upd_ne, en3_n2, fn3_n2, ena_n2, fna_n2, ena_n3, fna_n3, en5_n3, fn5_n3, en5_n2, fn5_n2, en5_na, fn5_na, en6_n5, fn6_n5, en6_n3, fn6_n3, en6_n2, fn6_n2, en6_na, fn6_na, eaa, hlta, oheap_some, onil_some, DFunc.c_eq]
      try (with_reducible intro _)
      refine loopF (keep := keep114) (ib := ib114) (mk := mk114) mix (by kernel_rfl) (fun s : Nat × List (List OV) × Heap × Option Nat => [(2, .op n2 1 0 0), (3, .op n3 1 0 0), (11, sls 3 DFunc.c x.fFuncs), (12, I x.fFuncs.length), (13, (I ka)), (5, .op n5 3 0 0), (6, .op n6 3 0 0), (23, sls 5 DExpr.c x.fFuncs[ka].fOuts), (24, I x.fFuncs[ka].fOuts.length), (25, (I s.1))]) (fun s => (upd (upd (upd (upd (upd (oheap s.2.2.1 (.row 5 (OV.cells s.2.1)) s.2.2.2) na (.row 3 (OV.cells esa))) n2 (.row 1 [[.v .nilsl]])) n3 (.row 1 [[.v (.os na 3 0 esa.length)]])) n5 (.row 3 [[.v (.str x.fFuncs[ka].fName), .v (I x.fFuncs[ka].fParams), .v (sls 5 DExpr.c x.fFuncs[ka].fOuts)]])) n6 (.row 3 [[.v (.str x.fFuncs[ka].fName), .v (I x.fFuncs[ka].fParams), .v (onil 5 s.2.1.length s.2.2.2)]]))) (fun s => s.1 ≤ x.fFuncs[ka].fOuts.length ∧ OR DExpr.o (x.fFuncs[ka].fOuts.take s.1) s.2.1 ∧ New ga_ (OV.rowsRows s.2.1) s.2.2.1 ∧ s.2.2.1 na = none ∧ s.2.2.1 n2 = none ∧ s.2.2.1 n3 = none ∧ s.2.2.1 n5 = none ∧ s.2.2.1 n6 = none ∧ gside s.2.2.1 s.2.1 s.2.2.2 ∧ ∀ n : Nat, s.2.2.2 = some n → n ≠ na ∧ n ≠ n2 ∧ n ≠ n3 ∧ n ≠ n5 ∧ n ≠ n6) (fun s => x.fFuncs[ka].fOuts.length - s.1) (0, [], ga_, none) ?_ ?_
      · exact ⟨by simp [SatL, tget], (by intro q_; simp only [upd_get, oheap_none, oheap_some, onil_none, onil_some, take_cells, cells_snoc, cells_one, cells_nil, cellv_cons, cellv_nil, OV.val_v, List.nil_append, List.length_append, List.length_cons, List.length_nil, Nat.zero_add]; grind), Nat.zero_le _, trivial, New.nil _, z_na, z_n2, z_n3, z_n5, z_n6, rfl, by simp⟩
      rintro ⟨ki, esi, gi_, oi_⟩ ⟨hkki, hori, hnewi, z_na, z_n2, z_n3, z_n5, z_n6, hosi, honi⟩
      simp only at hkki hori hnewi z_na z_n2 z_n3 z_n5 z_n6 hosi honi ⊢
      have hleni : esi.length = ki := by have := hori.length; simp at this; omega
      rcases Nat.lt_or_ge ki x.fFuncs[ka].fOuts.length with hlti | hgei
      · have eai : x.fFuncs[ka].fOuts[ki]? = some x.fFuncs[ka].fOuts[ki] := List.getElem?_eq_getElem hlti
        have hxi := cloneExpr (x.fFuncs[ka].fOuts[ki]) (by have := sum_mem DExpr.s (List.getElem_mem hlti); omega)
        simp only [DExpr.c_eq] at hxi
        cases oi_ with
        | none =>
          rw [gside_none] at hosi
          subst hosi
          try simp (maxSteps := 1000000) -dsimp -implicitDefEqProofs only [go_sem, ↓reduceIte, keep114, ib114, mk114, Tryz.f114, upd_upd, upd_ne, en3_n2, fn3_n2, ena_n2, fna_n2, ena_n3, fna_n3, en5_n3, fn5_n3, en5_n2, fn5_n2, en5_na, fn5_na, en6_n5, fn6_n5, en6_n3, fn6_n3, en6_n2, fn6_n2, en6_na, fn6_na, eaa, hlta, oheap_some, onil_some, eai, hlti, oheap_none, onil_none, DExpr.c_eq, DFunc.c_eq]
          intro n8 qn8
          have dn8_n6 : ¬ n8 = n6 := qn8.1
          have en8_n6 : (n8 = n6) = False := eq_false dn8_n6
          have fn8_n6 : (n6 = n8) = False := eq_false (fun e => dn8_n6 e.symm)
          have dn6_n8 : ¬ n6 = n8 := fun e => dn8_n6 e.symm
          have dn8_n5 : ¬ n8 = n5 := qn8.2.1
          have en8_n5 : (n8 = n5) = False := eq_false dn8_n5
          have fn8_n5 : (n5 = n8) = False := eq_false (fun e => dn8_n5 e.symm)
          have dn5_n8 : ¬ n5 = n8 := fun e => dn8_n5 e.symm
          have dn8_n3 : ¬ n8 = n3 := qn8.2.2.1
          have en8_n3 : (n8 = n3) = False := eq_false dn8_n3
          have fn8_n3 : (n3 = n8) = False := eq_false (fun e => dn8_n3 e.symm)
          have dn3_n8 : ¬ n3 = n8 := fun e => dn8_n3 e.symm
          have dn8_n2 : ¬ n8 = n2 := qn8.2.2.2.1
          have en8_n2 : (n8 = n2) = False := eq_false dn8_n2
          have fn8_n2 : (n2 = n8) = False := eq_false (fun e => dn8_n2 e.symm)
          have dn2_n8 : ¬ n2 = n8 := fun e => dn8_n2 e.symm
          have dn8_na : ¬ n8 = na := qn8.2.2.2.2.1
          have en8_na : (n8 = na) = False := eq_false dn8_na
          have fn8_na : (na = n8) = False := eq_false (fun e => dn8_na e.symm)
          have dna_n8 : ¬ na = n8 := fun e => dn8_na e.symm
          have z_n8 := qn8.2.2.2.2.2
          try simp (maxSteps := 1000000) -dsimp -implicitDefEqProofs only [go_sem, ↓reduceIte, keep114, ib114, mk114, Tryz.f114, upd_upd, upd_ne, en3_n2, fn3_n2, ena_n2, fna_n2, ena_n3, fna_n3, en5_n3, fn5_n3, en5_n2, fn5_n2, en5_na, fn5_na, en6_n5, fn6_n5, en6_n3, fn6_n3, en6_n2, fn6_n2, en6_na, fn6_na, en8_n6, fn8_n6, en8_n5, fn8_n5, en8_n3, fn8_n3, en8_n2, fn8_n2, en8_na, fn8_na, eaa, hlta, oheap_some, onil_some, eai, hlti, oheap_none, onil_none, DExpr.c_eq, DFunc.c_eq]
          refine HFnF.wn6 (hxi) z_na ⟨dn2_na, z_n2⟩ ⟨dn3_n2, dn3_na, z_n3⟩ ⟨dn5_n3, dn5_n2, dn5_na, z_n5⟩ ⟨dn6_n5, dn6_n3, dn6_n2, dn6_na, z_n6⟩ ⟨dn8_n6, dn8_n5, dn8_n3, dn8_n2, dn8_na, z_n8⟩ ?_
          rintro r l_ gb ⟨e_b, oeb, rfl, rfl⟩ wb z_na z_n2 z_n3 z_n5 z_n6 z_n8
          have oob := oeb
          rw [DExpr.o_iff] at oob
          obtain ⟨yb_4, rfl, ob_4⟩ := oob
          try simp (maxSteps := 1000000) -dsimp -implicitDefEqProofs only [go_sem, ↓reduceIte, keep114, ib114, mk114, Tryz.f114, upd_upd, upd_ne, en3_n2, fn3_n2, ena_n2, fna_n2, ena_n3, fna_n3, en5_n3, fn5_n3, en5_n2, fn5_n2, en5_na, fn5_na, en6_n5, fn6_n5, en6_n3, fn6_n3, en6_n2, fn6_n2, en6_na, fn6_na, en8_n6, fn8_n6, en8_n5, fn8_n5, en8_n3, fn8_n3, en8_n2, fn8_n2, en8_na, fn8_na, eaa, hlta, oheap_some, onil_some, eai, hlti, oheap_none, onil_none, ob_4.flat, ob_4.one, OV.map_val, OV.map_val_nil, OV.val_v, DExpr.c_eq, DFunc.c_eq]
          repeat' (with_reducible first | refine And.intro (by first | omega | decide | rfl | trivial | exact Nat.le_of_eq (reps_len _ _).symm | exact Nat.le_of_eq (cells_len _).symm) ?_)
          intro mi qmi
          have dmi_n8 : ¬ mi = n8 := qmi.1
          have emi_n8 : (mi = n8) = False := eq_false dmi_n8
          have fmi_n8 : (n8 = mi) = False := eq_false (fun e => dmi_n8 e.symm)
          have dn8_mi : ¬ n8 = mi := fun e => dmi_n8 e.symm
          have dmi_n6 : ¬ mi = n6 := qmi.2.1
          have emi_n6 : (mi = n6) = False := eq_false dmi_n6
          have fmi_n6 : (n6 = mi) = False := eq_false (fun e => dmi_n6 e.symm)
          have dn6_mi : ¬ n6 = mi := fun e => dmi_n6 e.symm
          have dmi_n5 : ¬ mi = n5 := qmi.2.2.1
          have emi_n5 : (mi = n5) = False := eq_false dmi_n5
          have fmi_n5 : (n5 = mi) = False := eq_false (fun e => dmi_n5 e.symm)
          have dn5_mi : ¬ n5 = mi := fun e => dmi_n5 e.symm
          have dmi_n3 : ¬ mi = n3 := qmi.2.2.2.1
          have emi_n3 : (mi = n3) = False := eq_false dmi_n3
          have fmi_n3 : (n3 = mi) = False := eq_false (fun e => dmi_n3 e.symm)
          have dn3_mi : ¬ n3 = mi := fun e => dmi_n3 e.symm
          have dmi_n2 : ¬ mi = n2 := qmi.2.2.2.2.1
          have emi_n2 : (mi = n2) = False := eq_false dmi_n2
          have fmi_n2 : (n2 = mi) = False := eq_false (fun e => dmi_n2 e.symm)
          have dn2_mi : ¬ n2 = mi := fun e => dmi_n2 e.symm
          have dmi_na : ¬ mi = na := qmi.2.2.2.2.2.1
          have emi_na : (mi = na) = False := eq_false dmi_na
          have fmi_na : (na = mi) = False := eq_false (fun e => dmi_na e.symm)
          have dna_mi : ¬ na = mi := fun e => dmi_na e.symm
          have z_mi := qmi.2.2.2.2.2.2
          try simp (maxSteps := 1000000) -dsimp -implicitDefEqProofs only [go_sem, ↓reduceIte, keep114, ib114, mk114, Tryz.f114, upd_upd, upd_ne, en3_n2, fn3_n2, ena_n2, fna_n2, ena_n3, fna_n3, en5_n3, fn5_n3, en5_n2, fn5_n2, en5_na, fn5_na, en6_n5, fn6_n5, en6_n3, fn6_n3, en6_n2, fn6_n2, en6_na, fn6_na, en8_n6, fn8_n6, en8_n5, fn8_n5, en8_n3, fn8_n3, en8_n2, fn8_n2, en8_na, fn8_na, emi_n8, fmi_n8, emi_n6, fmi_n6, emi_n5, fmi_n5, emi_n3, fmi_n3, emi_n2, fmi_n2, emi_na, fmi_na, eaa, hlta, oheap_some, onil_some, eai, hlti, oheap_none, onil_none, ob_4.flat, ob_4.one, OV.map_val, OV.map_val_nil, OV.val_v]
          refine ⟨(ki + 1, ([] : List (List OV)) ++ [[.v (.int .i64 x.fFuncs[ka].fOuts[ki].fKind), .v (.int .i64 x.fFuncs[ka].fOuts[ki].fNum), .v (.int .i64 x.fFuncs[ka].fOuts[ki].fPick), .v (.int .i64 x.fFuncs[ka].fOuts[ki].fCount), yb_4]], gb, some mi), ?_⟩
          simp only
          refine ⟨?_, (by intro q_; simp only [upd_get, oheap_none, oheap_some, onil_none, onil_some, take_cells, cells_snoc, cells_one, cells_nil, cellv_cons, cellv_nil, OV.val_v, List.nil_append, List.length_append, List.length_cons, List.length_nil, Nat.zero_add]; grind), ⟨by omega, OR.snoc hori hlti oeb, hnewi.snoc wb, z_na, z_n2, z_n3, z_n5, z_n6, z_mi, (fun n_ e_ => by obtain rfl := Option.some.inj e_; exact ⟨dmi_na, dmi_n2, dmi_n3, dmi_n5, dmi_n6⟩)⟩, by omega⟩
          all_goals (repeat' (with_reducible refine And.intro ?_ ?_))
          all_goals first | rfl | trivial | (rw [IntWalk.i64_in _ (by omega)]; omega)
        | some ni =>
          rw [gside_some] at hosi
          have z_ni := hosi
          have hni := honi ni rfl
          have dni_na : ¬ ni = na := hni.1
          have eni_na : (ni = na) = False := eq_false dni_na
          have fni_na : (na = ni) = False := eq_false (fun e => dni_na e.symm)
          have dna_ni : ¬ na = ni := fun e => dni_na e.symm
          have dni_n2 : ¬ ni = n2 := hni.2.1
          have eni_n2 : (ni = n2) = False := eq_false dni_n2
          have fni_n2 : (n2 = ni) = False := eq_false (fun e => dni_n2 e.symm)
          have dn2_ni : ¬ n2 = ni := fun e => dni_n2 e.symm
          have dni_n3 : ¬ ni = n3 := hni.2.2.1
          have eni_n3 : (ni = n3) = False := eq_false dni_n3
          have fni_n3 : (n3 = ni) = False := eq_false (fun e => dni_n3 e.symm)
          have dn3_ni : ¬ n3 = ni := fun e => dni_n3 e.symm
          have dni_n5 : ¬ ni = n5 := hni.2.2.2.1
          have eni_n5 : (ni = n5) = False := eq_false dni_n5
          have fni_n5 : (n5 = ni) = False := eq_false (fun e => dni_n5 e.symm)
          have dn5_ni : ¬ n5 = ni := fun e => dni_n5 e.symm
          have dni_n6 : ¬ ni = n6 := hni.2.2.2.2
          have eni_n6 : (ni = n6) = False := eq_false dni_n6
          have fni_n6 : (n6 = ni) = False := eq_false (fun e => dni_n6 e.symm)
          have dn6_ni : ¬ n6 = ni := fun e => dni_n6 e.symm
          try simp (maxSteps := 1000000) -dsimp -implicitDefEqProofs only [go_sem, ↓reduceIte, keep114, ib114, mk114, Tryz.f114, upd_upd, upd_ne, en3_n2, fn3_n2, ena_n2, fna_n2, ena_n3, fna_n3, en5_n3, fn5_n3, en5_n2, fn5_n2, en5_na, fn5_na, en6_n5, fn6_n5, en6_n3, fn6_n3, en6_n2, fn6_n2, en6_na, fn6_na, eni_na, fni_na, eni_n2, fni_n2, eni_n3, fni_n3, eni_n5, fni_n5, eni_n6, fni_n6, eaa, hlta, oheap_some, onil_some, eai, hlti, oheap_some, onil_some, DExpr.c_eq, DFunc.c_eq]
          intro n8 qn8
          have dn8_n6 : ¬ n8 = n6 := qn8.1
          have en8_n6 : (n8 = n6) = False := eq_false dn8_n6
          have fn8_n6 : (n6 = n8) = False := eq_false (fun e => dn8_n6 e.symm)
          have dn6_n8 : ¬ n6 = n8 := fun e => dn8_n6 e.symm
          have dn8_n5 : ¬ n8 = n5 := qn8.2.1
          have en8_n5 : (n8 = n5) = False := eq_false dn8_n5
          have fn8_n5 : (n5 = n8) = False := eq_false (fun e => dn8_n5 e.symm)
          have dn5_n8 : ¬ n5 = n8 := fun e => dn8_n5 e.symm
          have dn8_n3 : ¬ n8 = n3 := qn8.2.2.1
          have en8_n3 : (n8 = n3) = False := eq_false dn8_n3
          have fn8_n3 : (n3 = n8) = False := eq_false (fun e => dn8_n3 e.symm)
          have dn3_n8 : ¬ n3 = n8 := fun e => dn8_n3 e.symm
          have dn8_n2 : ¬ n8 = n2 := qn8.2.2.2.1
          have en8_n2 : (n8 = n2) = False := eq_false dn8_n2
          have fn8_n2 : (n2 = n8) = False := eq_false (fun e => dn8_n2 e.symm)
          have dn2_n8 : ¬ n2 = n8 := fun e => dn8_n2 e.symm
          have dn8_na : ¬ n8 = na := qn8.2.2.2.2.1
          have en8_na : (n8 = na) = False := eq_false dn8_na
          have fn8_na : (na = n8) = False := eq_false (fun e => dn8_na e.symm)
          have dna_n8 : ¬ na = n8 := fun e => dn8_na e.symm
          have dn8_ni : ¬ n8 = ni := qn8.2.2.2.2.2.1
          have en8_ni : (n8 = ni) = False := eq_false dn8_ni
          have fn8_ni : (ni = n8) = False := eq_false (fun e => dn8_ni e.symm)
          have dni_n8 : ¬ ni = n8 := fun e => dn8_ni e.symm
          have z_n8 := qn8.2.2.2.2.2.2
          try simp (maxSteps := 1000000) -dsimp -implicitDefEqProofs only [go_sem, ↓reduceIte, keep114, ib114, mk114, Tryz.f114, upd_upd, upd_ne, en3_n2, fn3_n2, ena_n2, fna_n2, ena_n3, fna_n3, en5_n3, fn5_n3, en5_n2, fn5_n2, en5_na, fn5_na, en6_n5, fn6_n5, en6_n3, fn6_n3, en6_n2, fn6_n2, en6_na, fn6_na, eni_na, fni_na, eni_n2, fni_n2, eni_n3, fni_n3, eni_n5, fni_n5, eni_n6, fni_n6, en8_n6, fn8_n6, en8_n5, fn8_n5, en8_n3, fn8_n3, en8_n2, fn8_n2, en8_na, fn8_na, en8_ni, fn8_ni, eaa, hlta, oheap_some, onil_some, eai, hlti, oheap_some, onil_some, DExpr.c_eq, DFunc.c_eq]
          refine HFnF.wn7 (hxi) z_ni ⟨dna_ni, z_na⟩ ⟨dn2_na, dn2_ni, z_n2⟩ ⟨dn3_n2, dn3_na, dn3_ni, z_n3⟩ ⟨dn5_n3, dn5_n2, dn5_na, dn5_ni, z_n5⟩ ⟨dn6_n5, dn6_n3, dn6_n2, dn6_na, dn6_ni, z_n6⟩ ⟨dn8_n6, dn8_n5, dn8_n3, dn8_n2, dn8_na, dn8_ni, z_n8⟩ ?_
          rintro r l_ gb ⟨e_b, oeb, rfl, rfl⟩ wb z_ni z_na z_n2 z_n3 z_n5 z_n6 z_n8
          have oob := oeb
          rw [DExpr.o_iff] at oob
          obtain ⟨yb_4, rfl, ob_4⟩ := oob
          try simp (maxSteps := 1000000) -dsimp -implicitDefEqProofs only [go_sem, ↓reduceIte, keep114, ib114, mk114, Tryz.f114, upd_upd, upd_ne, en3_n2, fn3_n2, ena_n2, fna_n2, ena_n3, fna_n3, en5_n3, fn5_n3, en5_n2, fn5_n2, en5_na, fn5_na, en6_n5, fn6_n5, en6_n3, fn6_n3, en6_n2, fn6_n2, en6_na, fn6_na, eni_na, fni_na, eni_n2, fni_n2, eni_n3, fni_n3, eni_n5, fni_n5, eni_n6, fni_n6, en8_n6, fn8_n6, en8_n5, fn8_n5, en8_n3, fn8_n3, en8_n2, fn8_n2, en8_na, fn8_na, en8_ni, fn8_ni, eaa, hlta, oheap_some, onil_some, eai, hlti, oheap_some, onil_some, ob_4.flat, ob_4.one, OV.map_val, OV.map_val_nil, OV.val_v, DExpr.c_eq, DFunc.c_eq]
          repeat' (with_reducible first | refine And.intro (by first | omega | decide | rfl | trivial | exact Nat.le_of_eq (reps_len _ _).symm | exact Nat.le_of_eq (cells_len _).symm) ?_)
          intro mi qmi
          have dmi_n8 : ¬ mi = n8 := qmi.1
          have emi_n8 : (mi = n8) = False := eq_false dmi_n8
          have fmi_n8 : (n8 = mi) = False := eq_false (fun e => dmi_n8 e.symm)
          have dn8_mi : ¬ n8 = mi := fun e => dmi_n8 e.symm
          have dmi_n6 : ¬ mi = n6 := qmi.2.1
          have emi_n6 : (mi = n6) = False := eq_false dmi_n6
          have fmi_n6 : (n6 = mi) = False := eq_false (fun e => dmi_n6 e.symm)
          have dn6_mi : ¬ n6 = mi := fun e => dmi_n6 e.symm
          have dmi_n5 : ¬ mi = n5 := qmi.2.2.1
          have emi_n5 : (mi = n5) = False := eq_false dmi_n5
          have fmi_n5 : (n5 = mi) = False := eq_false (fun e => dmi_n5 e.symm)
          have dn5_mi : ¬ n5 = mi := fun e => dmi_n5 e.symm
          have dmi_n3 : ¬ mi = n3 := qmi.2.2.2.1
          have emi_n3 : (mi = n3) = False := eq_false dmi_n3
          have fmi_n3 : (n3 = mi) = False := eq_false (fun e => dmi_n3 e.symm)
          have dn3_mi : ¬ n3 = mi := fun e => dmi_n3 e.symm
          have dmi_n2 : ¬ mi = n2 := qmi.2.2.2.2.1
          have emi_n2 : (mi = n2) = False := eq_false dmi_n2
          have fmi_n2 : (n2 = mi) = False := eq_false (fun e => dmi_n2 e.symm)
          have dn2_mi : ¬ n2 = mi := fun e => dmi_n2 e.symm
          have dmi_na : ¬ mi = na := qmi.2.2.2.2.2.1
          have emi_na : (mi = na) = False := eq_false dmi_na
          have fmi_na : (na = mi) = False := eq_false (fun e => dmi_na e.symm)
          have dna_mi : ¬ na = mi := fun e => dmi_na e.symm
          have dmi_ni : ¬ mi = ni := qmi.2.2.2.2.2.2.1
          have emi_ni : (mi = ni) = False := eq_false dmi_ni
          have fmi_ni : (ni = mi) = False := eq_false (fun e => dmi_ni e.symm)
          have dni_mi : ¬ ni = mi := fun e => dmi_ni e.symm
          have z_mi := qmi.2.2.2.2.2.2.2
          try simp (maxSteps := 1000000) -dsimp -implicitDefEqProofs only [go_sem, ↓reduceIte, keep114, ib114, mk114, Tryz.f114, upd_upd, upd_ne, en3_n2, fn3_n2, ena_n2, fna_n2, ena_n3, fna_n3, en5_n3, fn5_n3, en5_n2, fn5_n2, en5_na, fn5_na, en6_n5, fn6_n5, en6_n3, fn6_n3, en6_n2, fn6_n2, en6_na, fn6_na, eni_na, fni_na, eni_n2, fni_n2, eni_n3, fni_n3, eni_n5, fni_n5, eni_n6, fni_n6, en8_n6, fn8_n6, en8_n5, fn8_n5, en8_n3, fn8_n3, en8_n2, fn8_n2, en8_na, fn8_na, en8_ni, fn8_ni, emi_n8, fmi_n8, emi_n6, fmi_n6, emi_n5, fmi_n5, emi_n3, fmi_n3, emi_n2, fmi_n2, emi_na, fmi_na, emi_ni, fmi_ni, eaa, hlta, oheap_some, onil_some, eai, hlti, oheap_some, onil_some, ob_4.flat, ob_4.one, OV.map_val, OV.map_val_nil, OV.val_v]
          refine ⟨(ki + 1, esi ++ [[.v (.int .i64 x.fFuncs[ka].fOuts[ki].fKind), .v (.int .i64 x.fFuncs[ka].fOuts[ki].fNum), .v (.int .i64 x.fFuncs[ka].fOuts[ki].fPick), .v (.int .i64 x.fFuncs[ka].fOuts[ki].fCount), yb_4]], gb, some mi), ?_⟩
          simp only
          refine ⟨?_, (by intro q_; simp only [upd_get, oheap_none, oheap_some, onil_none, onil_some, take_cells, cells_snoc, cells_one, cells_nil, cellv_cons, cellv_nil, OV.val_v, List.nil_append, List.length_append, List.length_cons, List.length_nil, Nat.zero_add]; grind), ⟨by omega, OR.snoc hori hlti oeb, hnewi.snoc wb, z_na, z_n2, z_n3, z_n5, z_n6, z_mi, (fun n_ e_ => by obtain rfl := Option.some.inj e_; exact ⟨dmi_na, dmi_n2, dmi_n3, dmi_n5, dmi_n6⟩)⟩, by omega⟩
          all_goals (repeat' (with_reducible refine And.intro ?_ ?_))
          all_goals first | rfl | trivial | (rw [IntWalk.i64_in _ (by omega)]; omega)
      · have hk2i : ki = x.fFuncs[ka].fOuts.length := by omega
        subst hk2i
        rw [List.take_length] at hori
        have zzi_na : oheap gi_ (.row 5 (OV.cells esi)) oi_ na = none := oheap_at z_na fun n_ e_ => (honi n_ e_).1
        have zzi_n2 : oheap gi_ (.row 5 (OV.cells esi)) oi_ n2 = none := oheap_at z_n2 fun n_ e_ => (honi n_ e_).2.1
        have zzi_n3 : oheap gi_ (.row 5 (OV.cells esi)) oi_ n3 = none := oheap_at z_n3 fun n_ e_ => (honi n_ e_).2.2.1
        have zzi_n5 : oheap gi_ (.row 5 (OV.cells esi)) oi_ n5 = none := oheap_at z_n5 fun n_ e_ => (honi n_ e_).2.2.2.1
        have zzi_n6 : oheap gi_ (.row 5 (OV.cells esi)) oi_ n6 = none := oheap_at z_n6 fun n_ e_ => (honi n_ e_).2.2.2.2
        try simp (maxSteps := 1000000) -dsimp -implicitDefEqProofs only [go_sem, ↓reduceIte, keep114, ib114, mk114, Tryz.f114, upd_upd, upd_ne, en3_n2, fn3_n2, ena_n2, fna_n2, ena_n3, fna_n3, en5_n3, fn5_n3, en5_n2, fn5_n2, en5_na, fn5_na, en6_n5, fn6_n5, en6_n3, fn6_n3, en6_n2, fn6_n2, en6_na, fn6_na, eaa, hlta, oheap_some, onil_some, onil_flat, onil_cells, OV.map_val, OV.map_val_nil, OV.val_v, Nat.lt_irrefl, DFunc.c_eq]
        try (with_reducible intro _)
        repeat' (with_reducible first | refine And.intro (by first | omega | decide | rfl | trivial | exact Nat.le_of_eq (reps_len _ _).symm | exact Nat.le_of_eq (cells_len _).symm) ?_)
        have z_na := zzi_na
        have z_n2 := zzi_n2
        have z_n3 := zzi_n3
        have z_n5 := zzi_n5
        have z_n6 := zzi_n6
        have wf := gov_new (sz := 5) hnewi hosi
        intro ma qma
        have dma_n6 : ¬ ma = n6 := qma.1
        have ema_n6 : (ma = n6) = False := eq_false dma_n6
        have fma_n6 : (n6 = ma) = False := eq_false (fun e => dma_n6 e.symm)
        have dn6_ma : ¬ n6 = ma := fun e => dma_n6 e.symm
        have dma_n5 : ¬ ma = n5 := qma.2.1
        have ema_n5 : (ma = n5) = False := eq_false dma_n5
        have fma_n5 : (n5 = ma) = False := eq_false (fun e => dma_n5 e.symm)
        have dn5_ma : ¬ n5 = ma := fun e => dma_n5 e.symm
        have dma_n3 : ¬ ma = n3 := qma.2.2.1
        have ema_n3 : (ma = n3) = False := eq_false dma_n3
        have fma_n3 : (n3 = ma) = False := eq_false (fun e => dma_n3 e.symm)
        have dn3_ma : ¬ n3 = ma := fun e => dma_n3 e.symm
        have dma_n2 : ¬ ma = n2 := qma.2.2.2.1
        have ema_n2 : (ma = n2) = False := eq_false dma_n2
        have fma_n2 : (n2 = ma) = False := eq_false (fun e => dma_n2 e.symm)
        have dn2_ma : ¬ n2 = ma := fun e => dma_n2 e.symm
        have dma_na : ¬ ma = na := qma.2.2.2.2.1
        have ema_na : (ma = na) = False := eq_false dma_na
        have fma_na : (na = ma) = False := eq_false (fun e => dma_na e.symm)
        have dna_ma : ¬ na = ma := fun e => dma_na e.symm
        have z_ma := qma.2.2.2.2.2
        try simp (maxSteps := 1000000) -dsimp -implicitDefEqProofs only [go_sem, ↓reduceIte, keep114, ib114, mk114, Tryz.f114, upd_upd, upd_ne, en3_n2, fn3_n2, ena_n2, fna_n2, ena_n3, fna_n3, en5_n3, fn5_n3, en5_n2, fn5_n2, en5_na, fn5_na, en6_n5, fn6_n5, en6_n3, fn6_n3, en6_n2, fn6_n2, en6_na, fn6_na, ema_n6, fma_n6, ema_n5, fma_n5, ema_n3, fma_n3, ema_n2, fma_n2, ema_na, fma_na, eaa, hlta, oheap_some, onil_some, onil_flat, onil_cells, OV.map_val, OV.map_val_nil, OV.val_v]
        refine ⟨(ka + 1, esa ++ [[.v (.str x.fFuncs[ka].fName), .v (I x.fFuncs[ka].fParams), (gov 5 esi oi_)]], (oheap gi_ (.row 5 (OV.cells esi)) oi_), some ma), ?_⟩
        simp only
        refine ⟨?_, (Heap.wk.trans (b := (upd (upd (oheap (oheap gi_ (.row 5 (OV.cells esi)) oi_) (.row 3 (OV.cells esa ++ [[Cell.v (.str x.fFuncs[ka].fName), Cell.v (I x.fFuncs[ka].fParams), Cell.v (onil 5 esi.length oi_)]])) (some ma)) n2 (.row 1 [[.v .nilsl]])) n3 (.row 1 [[.v (onil 3 (esa ++ [[.v (.str x.fFuncs[ka].fName), .v (I x.fFuncs[ka].fParams), (gov 5 esi oi_)]]).length (some ma))]]))) (Heap.wk_row (m := ma) (sz := 3) (es := (OV.cells esa ++ [[Cell.v (.str x.fFuncs[ka].fName), Cell.v (I x.fFuncs[ka].fParams), Cell.v (onil 5 esi.length oi_)]])) (es' := OV.cells (esa ++ [[.v (.str x.fFuncs[ka].fName), .v (I x.fFuncs[ka].fParams), (gov 5 esi oi_)]])) (fun q_ hq_ => by simp only [upd_get, oheap_some, if_neg hq_]) (by simp [upd_get, oheap_some, dma_n2, dma_n3]) (by simp [upd_get, oheap_some, dma_n2, dma_n3]) (by rw [cells_snoc]; exact RowsWk.sub (xs := [(.str x.fFuncs[ka].fName), (I x.fFuncs[ka].fParams), (onil 5 esi.length oi_)]) (ys := [(.str x.fFuncs[ka].fName), (I x.fFuncs[ka].fParams), (gov 5 esi oi_).val]) (SubL.cons (Sub.refl _) (SubL.cons (Sub.refl _) (SubL.cons gov_sub SubL.nil))) _)) (Heap.wk_of_le (by intro q_; simp only [upd_get, oheap_none, oheap_some, onil_none, onil_some, take_cells, cells_snoc, cells_one, cells_nil, cellv_cons, cellv_nil, OV.val_v, List.nil_append, List.length_append, List.length_cons, List.length_nil, Nat.zero_add]; grind))), ⟨by omega, OR.snoc hora hlta ⟨_, rfl, gov_os hori hosi⟩, hnewa.snoc (by simpa only [OV.row_cons, OV.row_nil, OV.v_rows, List.nil_append, List.append_nil] using wf), z_n2, z_n3, z_ma, (fun n_ e_ => by obtain rfl := Option.some.inj e_; exact ⟨dma_n2, dma_n3⟩)⟩, by omega⟩
        all_goals (repeat' (with_reducible refine And.intro ?_ ?_))
        all_goals first | rfl | trivial | (rw [IntWalk.i64_in _ (by omega)]; omega)
  · have hk2a : ka = x.fFuncs.length := by omega
    subst hk2a
    rw [List.take_length] at hora
    have zza_n2 : oheap ga_ (.row 3 (OV.cells esa)) oa_ n2 = none := oheap_at z_n2 fun n_ e_ => (hona n_ e_).1
    have zza_n3 : oheap ga_ (.row 3 (OV.cells esa)) oa_ n3 = none := oheap_at z_n3 fun n_ e_ => (hona n_ e_).2
    try simp (maxSteps := 1000000) -dsimp -implicitDefEqProofs only [go_sem, ↓reduceIte, keep114, ib114, mk114, Tryz.f114, upd_upd, upd_ne, en3_n2, fn3_n2, onil_flat, onil_cells, Nat.lt_irrefl]
    try (with_reducible intro _)
    refine ⟨_, (oheap ga_ (.row 3 (OV.cells esa)) oa_), _, Shift.of (Sub.agg (SubL.cons gov_sub SubL.nil)) (by intro q_; simp only [upd_get, oheap_none, oheap_some, onil_none, onil_some, take_cells, cells_snoc, cells_one, cells_nil, cellv_cons, cellv_nil, OV.val_v, List.nil_append, List.length_append, List.length_cons, List.length_nil, Nat.zero_add]; grind), ⟨[(gov 3 esa oa_)], ?_, rfl, rfl⟩, ?_⟩
    · exact ⟨(gov 3 esa oa_), rfl, gov_os hora hosa⟩
    · have hq := (gov_new (sz := 3) hnewa hosa)
      simpa only [OV.row_cons, OV.row_nil, OV.v_rows, List.nil_append, List.append_nil, List.append_assoc] using hq

def keep108 : List Nat := [0, 2, 3, 4, 5, 6, 14, 44]
def ib108 : List Nat := [60, 66]
def mk108 : Marks := fun id => match id with | 5 => ([17, 18], (.op 0 (.op 1 (.op 2 (.op 3 (.op 4 (.op 5 (.op 6 (.op 7 (.op 8 (.op 9 (.op 10 (.op 11 (.op 12 (.op 13 (.op 14 (.op 15 (.op 16 (.op 17 (.op 18 .nil))))))))))))))))))), []) | 9 => ([1, 12, 14, 16], (.op 0 (.op 2 (.op 3 (.op 4 (.op 5 (.op 6 (.op 7 (.op 8 (.op 9 (.op 10 (.op 11 (.op 1 (.op 12 (.op 13 (.op 14 (.op 15 (.op 16 .nil))))))))))))))))), [(1, 12)]) | _ => ([], .nil, [])
set_option maxRecDepth 100000 in
set_option maxHeartbeats 1000000 in
theorem l02OwnProgram (x : DProgram) (hs : x.s ≤ 1048576) : FnN Tryz.prog 108 [.ip 1 [x.c] 0 0] (QA x.o) := by
  have hs' := x.s_eq
  try simp only [szs_eq] at hs'
  simp only [DProgram.c_eq]
  refine fnNF 70 keep108 ib108 mk108 mix Tryz.func108 rfl (by kernel_rfl) (by simp) fun h => ?_
  try simp (maxSteps := 1000000) -dsimp -implicitDefEqProofs only [go_sem, ↓reduceIte, keep108, ib108, mk108, Tryz.f108, upd_upd, upd_ne]
  intro n2 qn2
  have z_n2 := qn2
  try simp (maxSteps := 1000000) -dsimp -implicitDefEqProofs only [go_sem, ↓reduceIte, keep108, ib108, mk108, Tryz.f108, upd_upd, upd_ne]
  intro n3 qn3
  have dn3_n2 : ¬ n3 = n2 := qn3.1
  have en3_n2 : (n3 = n2) = False := eq_false dn3_n2
  have fn3_n2 : (n2 = n3) = False := eq_false (fun e => dn3_n2 e.symm)
  have dn2_n3 : ¬ n2 = n3 := fun e => dn3_n2 e.symm
  have z_n3 := qn3.2
  try simp (maxSteps := 1000000) -dsimp -implicitDefEqProofs only [go_sem, ↓reduceIte, keep108, ib108, mk108, Tryz.f108, upd_upd, upd_ne, en3_n2, fn3_n2]
  try (with_reducible intro _)
  refine loopW (keep := keep108) (ib := ib108) (mk := mk108) mix (by kernel_rfl) (fun s : Nat × List (List OV) × Heap × Option Nat => [(0, .ip 1 [[sls 3 DFunc.c x.fFuncs]] 0 0), (2, .op n2 1 0 0), (3, .op n3 1 0 0), (4, (I s.1))]) (fun s => (upd (upd (oheap s.2.2.1 (.row 3 (OV.cells s.2.1)) s.2.2.2) n2 (.row 1 [[.v .nilsl]])) n3 (.row 1 [[.v (onil 3 s.2.1.length s.2.2.2)]]))) (fun s => s.1 ≤ x.fFuncs.length ∧ OR DFunc.o (x.fFuncs.take s.1) s.2.1 ∧ New h (OV.rowsRows s.2.1) s.2.2.1 ∧ s.2.2.1 n2 = none ∧ s.2.2.1 n3 = none ∧ gside s.2.2.1 s.2.1 s.2.2.2 ∧ ∀ n : Nat, s.2.2.2 = some n → n ≠ n2 ∧ n ≠ n3) (fun s => x.fFuncs.length - s.1) (0, [], h, none) ?_ ?_
  · exact ⟨by simp [SatL, tget], Heap.wk_of_le (by intro q_; simp only [upd_get, oheap_none, oheap_some, onil_none, onil_some, take_cells, cells_snoc, cells_one, cells_nil, cellv_cons, cellv_nil, OV.val_v, List.nil_append, List.length_append, List.length_cons, List.length_nil, Nat.zero_add]; grind), Nat.zero_le _, trivial, New.nil _, z_n2, z_n3, rfl, by simp⟩
  rintro ⟨ka, esa, ga_, oa_⟩ ⟨hkka, hora, hnewa, z_n2, z_n3, hosa, hona⟩
  simp only at hkka hora hnewa z_n2 z_n3 hosa hona ⊢
  have hlena : esa.length = ka := by have := hora.length; simp at this; omega
  rcases Nat.lt_or_ge ka x.fFuncs.length with hlta | hgea
  · have eaa : x.fFuncs[ka]? = some x.fFuncs[ka] := List.getElem?_eq_getElem hlta
    have hf := sum_mem DFunc.s (List.getElem_mem hlta)
    have hf2 := (x.fFuncs[ka]).s_eq
    simp only [szs_eq] at hf2
    cases oa_ with
    | none =>
      rw [gside_none] at hosa
      subst hosa
      try simp (maxSteps := 1000000) -dsimp -implicitDefEqProofs only [go_sem, ↓reduceIte, keep108, ib108, mk108, Tryz.f108, upd_upd, upd_ne, en3_n2, fn3_n2, eaa, hlta, oheap_none, onil_none, DFunc.c_eq]
      try (with_reducible intro _)
      intro n5 qn5
      have dn5_n3 : ¬ n5 = n3 := qn5.1
      have en5_n3 : (n5 = n3) = False := eq_false dn5_n3
      have fn5_n3 : (n3 = n5) = False := eq_false (fun e => dn5_n3 e.symm)
      have dn3_n5 : ¬ n3 = n5 := fun e => dn5_n3 e.symm
      have dn5_n2 : ¬ n5 = n2 := qn5.2.1
      have en5_n2 : (n5 = n2) = False := eq_false dn5_n2
      have fn5_n2 : (n2 = n5) = False := eq_false (fun e => dn5_n2 e.symm)
      have dn2_n5 : ¬ n2 = n5 := fun e => dn5_n2 e.symm
      have z_n5 := qn5.2.2
      try simp (maxSteps := 1000000) -dsimp -implicitDefEqProofs only [go_sem, ↓reduceIte, keep108, ib108, mk108, Tryz.f108, upd_upd, upd_ne, en3_n2, fn3_n2, en5_n3, fn5_n3, en5_n2, fn5_n2, eaa, hlta, oheap_none, onil_none, DFunc.c_eq]
      try (with_reducible intro _)
      refine loopF (keep := keep108) (ib := ib108) (mk := mk108) mix (by kernel_rfl) (fun s : Nat × List (List OV) × Heap × Option Nat => [(0, .ip 1 [[sls 3 DFunc.c x.fFuncs]] 0 0), (2, .op n2 1 0 0), (3, .op n3 1 0 0), (4, (I ka)), (5, .op n5 3 0 0), (6, (I s.1))]) (fun s => (upd (upd (upd (oheap s.2.2.1 (.row 5 (OV.cells s.2.1)) s.2.2.2) n2 (.row 1 [[.v .nilsl]])) n3 (.row 1 [[.v (.nilsl)]])) n5 (.row 3 [[.v (.str x.fFuncs[ka].fName), .v (I x.fFuncs[ka].fParams), .v (onil 5 s.2.1.length s.2.2.2)]]))) (fun s => s.1 ≤ x.fFuncs[ka].fOuts.length ∧ OR DExpr.o (x.fFuncs[ka].fOuts.take s.1) s.2.1 ∧ New ga_ (OV.rowsRows s.2.1) s.2.2.1 ∧ s.2.2.1 n2 = none ∧ s.2.2.1 n3 = none ∧ s.2.2.1 n5 = none ∧ gside s.2.2.1 s.2.1 s.2.2.2 ∧ ∀ n : Nat, s.2.2.2 = some n → n ≠ n2 ∧ n ≠ n3 ∧ n ≠ n5) (fun s => x.fFuncs[ka].fOuts.length - s.1) (0, [], ga_, none) ?_ ?_
      · exact ⟨by simp [SatL, tget], (by intro q_; simp only [upd_get, oheap_none, oheap_some, onil_none, onil_some, take_cells, cells_snoc, cells_one, cells_nil, cellv_cons, cellv_nil, OV.val_v, List.nil_append, List.length_append, List.length_cons, List.length_nil, Nat.zero_add]; grind), Nat.zero_le _, trivial, New.nil _, z_n2, z_n3, z_n5, rfl, by simp⟩
      rintro ⟨ki, esi, gi_, oi_⟩ ⟨hkki, hori, hnewi, z_n2, z_n3, z_n5, hosi, honi⟩
      simp only at hkki hori hnewi z_n2 z_n3 z_n5 hosi honi ⊢
      have hleni : esi.length = ki := by have := hori.length; simp at this; omega
      rcases Nat.lt_or_ge ki x.fFuncs[ka].fOuts.length with hlti | hgei
      · have eai : x.fFuncs[ka].fOuts[ki]? = some x.fFuncs[ka].fOuts[ki] := List.getElem?_eq_getElem hlti
        have hxi := l02Own (x.fFuncs[ka].fOuts[ki]) (by have := sum_mem DExpr.s (List.getElem_mem hlti); omega)
        cases oi_ with
        | none =>
          rw [gside_none] at hosi
          subst hosi
          try simp (maxSteps := 1000000) -dsimp -implicitDefEqProofs only [go_sem, ↓reduceIte, keep108, ib108, mk108, Tryz.f108, upd_upd, upd_ne, en3_n2, fn3_n2, en5_n3, fn5_n3, en5_n2, fn5_n2, eaa, hlta, oheap_none, onil_none, eai, hlti, oheap_none, onil_none, DExpr.c_eq, DFunc.c_eq]
          try (with_reducible intro _)
          refine HFnF.wn3 (FnN.sub (by repeat' (first | exact SubL.nil | refine SubL.cons ?_ ?_ | exact Sub.refl _ | (rw [DExpr.c_eq]; exact Sub.refl _) | exact Sub.ipAt rfl rfl rfl | exact Sub.ip (map_get (by omega)) (by simp) | exact Sub.ipAt (map_get (by omega)) rfl rfl | exact Sub.ip (by simp [*]) (by simp) | exact Sub.ipAt (by simp [*]) (by rfl) (by rfl))) hxi) z_n2 ⟨dn3_n2, z_n3⟩ ⟨dn5_n3, dn5_n2, z_n5⟩ ?_
          rintro r l_ gb ⟨e_b, oeb, rfl, rfl⟩ wb z_n2 z_n3 z_n5
          have oob := oeb
          rw [DExpr.o_iff] at oob
          obtain ⟨yb_4, rfl, ob_4⟩ := oob
          try simp (maxSteps := 1000000) -dsimp -implicitDefEqProofs only [go_sem, ↓reduceIte, keep108, ib108, mk108, Tryz.f108, upd_upd, upd_ne, en3_n2, fn3_n2, en5_n3, fn5_n3, en5_n2, fn5_n2, eaa, hlta, oheap_none, onil_none, eai, hlti, oheap_none, onil_none, ob_4.flat, ob_4.one, OV.map_val, OV.map_val_nil, OV.val_v, DExpr.c_eq, DFunc.c_eq]
          repeat' (with_reducible first | refine And.intro (by first | omega | decide | rfl | trivial | exact Nat.le_of_eq (reps_len _ _).symm | exact Nat.le_of_eq (cells_len _).symm) ?_)
          intro mi qmi
          have dmi_n5 : ¬ mi = n5 := qmi.1
          have emi_n5 : (mi = n5) = False := eq_false dmi_n5
          have fmi_n5 : (n5 = mi) = False := eq_false (fun e => dmi_n5 e.symm)
          have dn5_mi : ¬ n5 = mi := fun e => dmi_n5 e.symm
          have dmi_n3 : ¬ mi = n3 := qmi.2.1
          have emi_n3 : (mi = n3) = False := eq_false dmi_n3
          have fmi_n3 : (n3 = mi) = False := eq_false (fun e => dmi_n3 e.symm)
          have dn3_mi : ¬ n3 = mi := fun e => dmi_n3 e.symm
          have dmi_n2 : ¬ mi = n2 := qmi.2.2.1
          have emi_n2 : (mi = n2) = False := eq_false dmi_n2
          have fmi_n2 : (n2 = mi) = False := eq_false (fun e => dmi_n2 e.symm)
          have dn2_mi : ¬ n2 = mi := fun e => dmi_n2 e.symm
          have z_mi := qmi.2.2.2
          try simp (maxSteps := 1000000) -dsimp -implicitDefEqProofs only [go_sem, ↓reduceIte, keep108, ib108, mk108, Tryz.f108, upd_upd, upd_ne, en3_n2, fn3_n2, en5_n3, fn5_n3, en5_n2, fn5_n2, emi_n5, fmi_n5, emi_n3, fmi_n3, emi_n2, fmi_n2, eaa, hlta, oheap_none, onil_none, eai, hlti, oheap_none, onil_none, ob_4.flat, ob_4.one, OV.map_val, OV.map_val_nil, OV.val_v]
          refine ⟨(ki + 1, ([] : List (List OV)) ++ [[.v (.int .i64 x.fFuncs[ka].fOuts[ki].fKind), .v (.int .i64 x.fFuncs[ka].fOuts[ki].fNum), .v (.int .i64 x.fFuncs[ka].fOuts[ki].fPick), .v (.int .i64 x.fFuncs[ka].fOuts[ki].fCount), yb_4]], gb, some mi), ?_⟩
          simp only
          refine ⟨?_, (by intro q_; simp only [upd_get, oheap_none, oheap_some, onil_none, onil_some, take_cells, cells_snoc, cells_one, cells_nil, cellv_cons, cellv_nil, OV.val_v, List.nil_append, List.length_append, List.length_cons, List.length_nil, Nat.zero_add]; grind), ⟨by omega, OR.snoc hori hlti oeb, hnewi.snoc wb, z_n2, z_n3, z_n5, z_mi, (fun n_ e_ => by obtain rfl := Option.some.inj e_; exact ⟨dmi_n2, dmi_n3, dmi_n5⟩)⟩, by omega⟩
          all_goals (repeat' (with_reducible refine And.intro ?_ ?_))
          all_goals first | rfl | trivial | (rw [IntWalk.i64_in _ (by omega)]; omega)
        | some ni =>
          rw [gside_some] at hosi
          have z_ni := hosi
          have hni := honi ni rfl
          have dni_n2 : ¬ ni = n2 := hni.1
          have eni_n2 : (ni = n2) = False := eq_false dni_n2
          have fni_n2 : (n2 = ni) = False := eq_false (fun e => dni_n2 e.symm)
          have dn2_ni : ¬ n2 = ni := fun e => dni_n2 e.symm
          have dni_n3 : ¬ ni = n3 := hni.2.1
          have eni_n3 : (ni = n3) = False := eq_false dni_n3
          have fni_n3 : (n3 = ni) = False := eq_false (fun e => dni_n3 e.symm)
          have dn3_ni : ¬ n3 = ni := fun e => dni_n3 e.symm
          have dni_n5 : ¬ ni = n5 := hni.2.2
          have eni_n5 : (ni = n5) = False := eq_false dni_n5
          have fni_n5 : (n5 = ni) = False := eq_false (fun e => dni_n5 e.symm)
          have dn5_ni : ¬ n5 = ni := fun e => dni_n5 e.symm
          try simp (maxSteps := 1000000) -dsimp -implicitDefEqProofs only [go_sem, ↓reduceIte, keep108, ib108, mk108, Tryz.f108, upd_upd, upd_ne, en3_n2, fn3_n2, en5_n3, fn5_n3, en5_n2, fn5_n2, eni_n2, fni_n2, eni_n3, fni_n3, eni_n5, fni_n5, eaa, hlta, oheap_none, onil_none, eai, hlti, oheap_some, onil_some, DExpr.c_eq, DFunc.c_eq]
          try (with_reducible intro _)
          refine HFnF.wn4 (FnN.sub (by repeat' (first | exact SubL.nil | refine SubL.cons ?_ ?_ | exact Sub.refl _ | (rw [DExpr.c_eq]; exact Sub.refl _) | exact Sub.ipAt rfl rfl rfl | exact Sub.ip (map_get (by omega)) (by simp) | exact Sub.ipAt (map_get (by omega)) rfl rfl | exact Sub.ip (by simp [*]) (by simp) | exact Sub.ipAt (by simp [*]) (by rfl) (by rfl))) hxi) z_ni ⟨dn2_ni, z_n2⟩ ⟨dn3_n2, dn3_ni, z_n3⟩ ⟨dn5_n3, dn5_n2, dn5_ni, z_n5⟩ ?_
          rintro r l_ gb ⟨e_b, oeb, rfl, rfl⟩ wb z_ni z_n2 z_n3 z_n5
          have oob := oeb
          rw [DExpr.o_iff] at oob
          obtain ⟨yb_4, rfl, ob_4⟩ := oob
          try simp (maxSteps := 1000000) -dsimp -implicitDefEqProofs only [go_sem, ↓reduceIte, keep108, ib108, mk108, Tryz.f108, upd_upd, upd_ne, en3_n2, fn3_n2, en5_n3, fn5_n3, en5_n2, fn5_n2, eni_n2, fni_n2, eni_n3, fni_n3, eni_n5, fni_n5, eaa, hlta, oheap_none, onil_none, eai, hlti, oheap_some, onil_some, ob_4.flat, ob_4.one, OV.map_val, OV.map_val_nil, OV.val_v, DExpr.c_eq, DFunc.c_eq]
          repeat' (with_reducible first | refine And.intro (by first | omega | decide | rfl | trivial | exact Nat.le_of_eq (reps_len _ _).symm | exact Nat.le_of_eq (cells_len _).symm) ?_)
          intro mi qmi
          have dmi_n5 : ¬ mi = n5 := qmi.1
          have emi_n5 : (mi = n5) = False := eq_false dmi_n5
          have fmi_n5 : (n5 = mi) = False := eq_false (fun e => dmi_n5 e.symm)
          have dn5_mi : ¬ n5 = mi := fun e => dmi_n5 e.symm
          have dmi_n3 : ¬ mi = n3 := qmi.2.1
          have emi_n3 : (mi = n3) = False := eq_false dmi_n3
          have fmi_n3 : (n3 = mi) = False := eq_false (fun e => dmi_n3 e.symm)
          have dn3_mi : ¬ n3 = mi := fun e => dmi_n3 e.symm
          have dmi_n2 : ¬ mi = n2 := qmi.2.2.1
          have emi_n2 : (mi = n2) = False := eq_false dmi_n2
          have fmi_n2 : (n2 = mi) = False := eq_false (fun e => dmi_n2 e.symm)
          have dn2_mi : ¬ n2 = mi := fun e => dmi_n2 e.symm
          have dmi_ni : ¬ mi = ni := qmi.2.2.2.1
          have emi_ni : (mi = ni) = False := eq_false dmi_ni
          have fmi_ni : (ni = mi) = False := eq_false (fun e => dmi_ni e.symm)
          have dni_mi : ¬ ni = mi := fun e => dmi_ni e.symm
          have z_mi := qmi.2.2.2.2
          try simp (maxSteps := 1000000) -dsimp -implicitDefEqProofs only [go_sem, ↓reduceIte, keep108, ib108, mk108, Tryz.f108, upd_upd, upd_ne, en3_n2, fn3_n2, en5_n3, fn5_n3, en5_n2, fn5_n2, eni_n2, fni_n2, eni_n3, fni_n3, eni_n5, fni_n5, emi_n5, fmi_n5, emi_n3, fmi_n3, emi_n2, fmi_n2, emi_ni, fmi_ni, eaa, hlta, oheap_none, onil_none, eai, hlti, oheap_some, onil_some, ob_4.flat, ob_4.one, OV.map_val, OV.map_val_nil, OV.val_v]
          refine ⟨(ki + 1, esi ++ [[.v (.int .i64 x.fFuncs[ka].fOuts[ki].fKind), .v (.int .i64 x.fFuncs[ka].fOuts[ki].fNum), .v (.int .i64 x.fFuncs[ka].fOuts[ki].fPick), .v (.int .i64 x.fFuncs[ka].fOuts[ki].fCount), yb_4]], gb, some mi), ?_⟩
          simp only
          refine ⟨?_, (by intro q_; simp only [upd_get, oheap_none, oheap_some, onil_none, onil_some, take_cells, cells_snoc, cells_one, cells_nil, cellv_cons, cellv_nil, OV.val_v, List.nil_append, List.length_append, List.length_cons, List.length_nil, Nat.zero_add]; grind), ⟨by omega, OR.snoc hori hlti oeb, hnewi.snoc wb, z_n2, z_n3, z_n5, z_mi, (fun n_ e_ => by obtain rfl := Option.some.inj e_; exact ⟨dmi_n2, dmi_n3, dmi_n5⟩)⟩, by omega⟩
          all_goals (repeat' (with_reducible refine And.intro ?_ ?_))
          all_goals first | rfl | trivial | (rw [IntWalk.i64_in _ (by omega)]; omega)
      · have hk2i : ki = x.fFuncs[ka].fOuts.length := by omega
        subst hk2i
        rw [List.take_length] at hori
        have zzi_n2 : oheap gi_ (.row 5 (OV.cells esi)) oi_ n2 = none := oheap_at z_n2 fun n_ e_ => (honi n_ e_).1
        have zzi_n3 : oheap gi_ (.row 5 (OV.cells esi)) oi_ n3 = none := oheap_at z_n3 fun n_ e_ => (honi n_ e_).2.1
        have zzi_n5 : oheap gi_ (.row 5 (OV.cells esi)) oi_ n5 = none := oheap_at z_n5 fun n_ e_ => (honi n_ e_).2.2
        try simp (maxSteps := 1000000) -dsimp -implicitDefEqProofs only [go_sem, ↓reduceIte, keep108, ib108, mk108, Tryz.f108, upd_upd, upd_ne, en3_n2, fn3_n2, en5_n3, fn5_n3, en5_n2, fn5_n2, eaa, hlta, oheap_none, onil_none, onil_flat, onil_cells, OV.map_val, OV.map_val_nil, OV.val_v, Nat.lt_irrefl, DFunc.c_eq]
        try (with_reducible intro _)
        repeat' (with_reducible first | refine And.intro (by first | omega | decide | rfl | trivial | exact Nat.le_of_eq (reps_len _ _).symm | exact Nat.le_of_eq (cells_len _).symm) ?_)
        have z_n2 := zzi_n2
        have z_n3 := zzi_n3
        have z_n5 := zzi_n5
        have wf := gov_new (sz := 5) hnewi hosi
        intro ma qma
        have dma_n5 : ¬ ma = n5 := qma.1
        have ema_n5 : (ma = n5) = False := eq_false dma_n5
        have fma_n5 : (n5 = ma) = False := eq_false (fun e => dma_n5 e.symm)
        have dn5_ma : ¬ n5 = ma := fun e => dma_n5 e.symm
        have dma_n3 : ¬ ma = n3 := qma.2.1
        have ema_n3 : (ma = n3) = False := eq_false dma_n3
        have fma_n3 : (n3 = ma) = False := eq_false (fun e => dma_n3 e.symm)
        have dn3_ma : ¬ n3 = ma := fun e => dma_n3 e.symm
        have dma_n2 : ¬ ma = n2 := qma.2.2.1
        have ema_n2 : (ma = n2) = False := eq_false dma_n2
        have fma_n2 : (n2 = ma) = False := eq_false (fun e => dma_n2 e.symm)
        have dn2_ma : ¬ n2 = ma := fun e => dma_n2 e.symm
        have z_ma := qma.2.2.2
        try simp (maxSteps := 1000000) -dsimp -implicitDefEqProofs only [go_sem, ↓reduceIte, keep108, ib108, mk108, Tryz.f108, upd_upd, upd_ne, en3_n2, fn3_n2, en5_n3, fn5_n3, en5_n2, fn5_n2, ema_n5, fma_n5, ema_n3, fma_n3, ema_n2, fma_n2, eaa, hlta, oheap_none, onil_none, onil_flat, onil_cells, OV.map_val, OV.map_val_nil, OV.val_v]
        refine ⟨(ka + 1, ([] : List (List OV)) ++ [[.v (.str x.fFuncs[ka].fName), .v (I x.fFuncs[ka].fParams), (gov 5 esi oi_)]], (oheap gi_ (.row 5 (OV.cells esi)) oi_), some ma), ?_⟩
        simp only
        refine ⟨?_, (Heap.wk.trans (b := (upd (upd (oheap (oheap gi_ (.row 5 (OV.cells esi)) oi_) (.row 3 (OV.cells ([] : List (List OV)) ++ [[Cell.v (.str x.fFuncs[ka].fName), Cell.v (I x.fFuncs[ka].fParams), Cell.v (onil 5 esi.length oi_)]])) (some ma)) n2 (.row 1 [[.v .nilsl]])) n3 (.row 1 [[.v (onil 3 (([] : List (List OV)) ++ [[.v (.str x.fFuncs[ka].fName), .v (I x.fFuncs[ka].fParams), (gov 5 esi oi_)]]).length (some ma))]]))) (Heap.wk_row (m := ma) (sz := 3) (es := (OV.cells ([] : List (List OV)) ++ [[Cell.v (.str x.fFuncs[ka].fName), Cell.v (I x.fFuncs[ka].fParams), Cell.v (onil 5 esi.length oi_)]])) (es' := OV.cells (([] : List (List OV)) ++ [[.v (.str x.fFuncs[ka].fName), .v (I x.fFuncs[ka].fParams), (gov 5 esi oi_)]])) (fun q_ hq_ => by simp only [upd_get, oheap_some, if_neg hq_]) (by simp [upd_get, oheap_some, dma_n2, dma_n3]) (by simp [upd_get, oheap_some, dma_n2, dma_n3]) (by rw [cells_snoc]; exact RowsWk.sub (xs := [(.str x.fFuncs[ka].fName), (I x.fFuncs[ka].fParams), (onil 5 esi.length oi_)]) (ys := [(.str x.fFuncs[ka].fName), (I x.fFuncs[ka].fParams), (gov 5 esi oi_).val]) (SubL.cons (Sub.refl _) (SubL.cons (Sub.refl _) (SubL.cons gov_sub SubL.nil))) _)) (Heap.wk_of_le (by intro q_; simp only [upd_get, oheap_none, oheap_some, onil_none, onil_some, take_cells, cells_snoc, cells_one, cells_nil, cellv_cons, cellv_nil, OV.val_v, List.nil_append, List.length_append, List.length_cons, List.length_nil, Nat.zero_add]; grind))), ⟨by omega, OR.snoc hora hlta ⟨_, rfl, gov_os hori hosi⟩, hnewa.snoc (by simpa only [OV.row_cons, OV.row_nil, OV.v_rows, List.nil_append, List.append_nil] using wf), z_n2, z_n3, z_ma, (fun n_ e_ => by obtain rfl := Option.some.inj e_; exact ⟨dma_n2, dma_n3⟩)⟩, by omega⟩
        all_goals (repeat' (with_reducible refine And.intro ?_ ?_))
        all_goals first | rfl | trivial | (rw [IntWalk.i64_in _ (by omega)]; omega)
    | some na =>
      rw [gside_some] at hosa
      have z_na := hosa
      have hna := hona na rfl
      have dna_n2 : ¬ na = n2 := hna.1
      have ena_n2 : (na = n2) = False := eq_false dna_n2
      have fna_n2 : (n2 = na) = False := eq_false (fun e => dna_n2 e.symm)
      have dn2_na : ¬ n2 = na := fun e => dna_n2 e.symm
      have dna_n3 : ¬ na = n3 := hna.2
      have ena_n3 : (na = n3) = False := eq_false dna_n3
      have fna_n3 : (n3 = na) = False := eq_false (fun e => dna_n3 e.symm)
      have dn3_na : ¬ n3 = na := fun e => dna_n3 e.symm
      try simp (maxSteps := 1000000) -dsimp -implicitDefEqProofs only [go_sem, ↓reduceIte, keep108, ib108, mk108, Tryz.f108, upd_upd, upd_ne, en3_n2, fn3_n2, ena_n2, fna_n2, ena_n3, fna_n3, eaa, hlta, oheap_some, onil_some, DFunc.c_eq]
      try (with_reducible intro _)
      intro n5 qn5
      have dn5_n3 : ¬ n5 = n3 := qn5.1
      have en5_n3 : (n5 = n3) = False := eq_false dn5_n3
      have fn5_n3 : (n3 = n5) = False := eq_false (fun e => dn5_n3 e.symm)
      have dn3_n5 : ¬ n3 = n5 := fun e => dn5_n3 e.symm
      have dn5_n2 : ¬ n5 = n2 := qn5.2.1
      have en5_n2 : (n5 = n2) = False := eq_false dn5_n2
      have fn5_n2 : (n2 = n5) = False := eq_false (fun e => dn5_n2 e.symm)
      have dn2_n5 : ¬ n2 = n5 := fun e => dn5_n2 e.symm
      have dn5_na : ¬ n5 = na := qn5.2.2.1
      have en5_na : (n5 = na) = False := eq_false dn5_na
      have fn5_na : (na = n5) = False := eq_false (fun e => dn5_na e.symm)
      have dna_n5 : ¬ na = n5 := fun e => dn5_na e.symm
      have z_n5 := qn5.2.2.2
      try simp (maxSteps := 1000000) -dsimp -implicitDefEqProofs only [go_sem, ↓reduceIte, keep108, ib108, mk108, Tryz.f108, upd_upd, upd_ne, en3_n2, fn3_n2, ena_n2, fna_n2, ena_n3, fna_n3, en5_n3, fn5_n3, en5_n2, fn5_n2, en5_na, fn5_na, eaa, hlta, oheap_some, onil_some, DFunc.c_eq]
      try (with_reducible intro _)
      refine loopF (keep := keep108) (ib := ib108) (mk := mk108) mix (by kernel_rfl) (fun s : Nat × List (List OV) × Heap × Option Nat => [(0, .ip 1 [[sls 3 DFunc.c x.fFuncs]] 0 0), (2, .op n2 1 0 0), (3, .op n3 1 0 0), (4, (I ka)), (5, .op n5 3 0 0), (6, (I s.1))]) (fun s => (upd (upd (upd (upd (oheap s.2.2.1 (.row 5 (OV.cells s.2.1)) s.2.2.2) na (.row 3 (OV.cells esa))) n2 (.row 1 [[.v .nilsl]])) n3 (.row 1 [[.v (.os na 3 0 esa.length)]])) n5 (.row 3 [[.v (.str x.fFuncs[ka].fName), .v (I x.fFuncs[ka].fParams), .v (onil 5 s.2.1.length s.2.2.2)]]))) (fun s => s.1 ≤ x.fFuncs[ka].fOuts.length ∧ OR DExpr.o (x.fFuncs[ka].fOuts.take s.1) s.2.1 ∧ New ga_ (OV.rowsRows s.2.1) s.2.2.1 ∧ s.2.2.1 na = none ∧ s.2.2.1 n2 = none ∧ s.2.2.1 n3 = none ∧ s.2.2.1 n5 = none ∧ gside s.2.2.1 s.2.1 s.2.2.2 ∧ ∀ n : Nat, s.2.2.2 = some n → n ≠ na ∧ n ≠ n2 ∧ n ≠ n3 ∧ n ≠ n5) (fun s => x.fFuncs[ka].fOuts.length - s.1) (0, [], ga_, none) ?_ ?_
      · exact ⟨by simp [SatL, tget], (by intro q_; simp only [upd_get, oheap_none, oheap_some, onil_none, onil_some, take_cells, cells_snoc, cells_one, cells_nil, cellv_cons, cellv_nil, OV.val_v, List.nil_append, List.length_append, List.length_cons, List.length_nil, Nat.zero_add]; grind), Nat.zero_le _, trivial, New.nil _, z_na, z_n2, z_n3, z_n5, rfl, by simp⟩
      rintro ⟨ki, esi, gi_, oi_⟩ ⟨hkki, hori, hnewi, z_na, z_n2, z_n3, z_n5, hosi, honi⟩
      simp only at hkki hori hnewi z_na z_n2 z_n3 z_n5 hosi honi ⊢
      have hleni : esi.length = ki := by have := hori.length; simp at this; omega
      rcases Nat.lt_or_ge ki x.fFuncs[ka].fOuts.length with hlti | hgei
      · have eai : x.fFuncs[ka].fOuts[ki]? = some x.fFuncs[ka].fOuts[ki] := List.getElem?_eq_getElem hlti
        have hxi := l02Own (x.fFuncs[ka].fOuts[ki]) (by have := sum_mem DExpr.s (List.getElem_mem hlti); omega)
        cases oi_ with
        | none =>
          rw [gside_none] at hosi
          subst hosi
          try simp (maxSteps := 1000000) -dsimp -implicitDefEqProofs only [go_sem, ↓reduceIte, keep108, ib108, mk108, Tryz.f108, upd_upd, upd_ne, en3_n2, fn3_n2, ena_n2, fna_n2, ena_n3, fna_n3, en5_n3, fn5_n3, en5_n2, fn5_n2, en5_na, fn5_na, eaa, hlta, oheap_some, onil_some, eai, hlti, oheap_none, onil_none, DExpr.c_eq, DFunc.c_eq]
          try (with_reducible intro _)
          refine HFnF.wn4 (FnN.sub (by repeat' (first | exact SubL.nil | refine SubL.cons ?_ ?_ | exact Sub.refl _ | (rw [DExpr.c_eq]; exact Sub.refl _) | exact Sub.ipAt rfl rfl rfl | exact Sub.ip (map_get (by omega)) (by simp) | exact Sub.ipAt (map_get (by omega)) rfl rfl | exact Sub.ip (by simp [*]) (by simp) | exact Sub.ipAt (by simp [*]) (by rfl) (by rfl))) hxi) z_na ⟨dn2_na, z_n2⟩ ⟨dn3_n2, dn3_na, z_n3⟩ ⟨dn5_n3, dn5_n2, dn5_na, z_n5⟩ ?_
          rintro r l_ gb ⟨e_b, oeb, rfl, rfl⟩ wb z_na z_n2 z_n3 z_n5
          have oob := oeb
          rw [DExpr.o_iff] at oob
          obtain ⟨yb_4, rfl, ob_4⟩ := oob
          try simp (maxSteps := 1000000) -dsimp -implicitDefEqProofs only [go_sem, ↓reduceIte, keep108, ib108, mk108, Tryz.f108, upd_upd, upd_ne, en3_n2, fn3_n2, ena_n2, fna_n2, ena_n3, fna_n3, en5_n3, fn5_n3, en5_n2, fn5_n2, en5_na, fn5_na, eaa, hlta, oheap_some, onil_some, eai, hlti, oheap_none, onil_none, ob_4.flat, ob_4.one, OV.map_val, OV.map_val_nil, OV.val_v, DExpr.c_eq, DFunc.c_eq]
          repeat' (with_reducible first | refine And.intro (by first | omega | decide | rfl | trivial | exact Nat.le_of_eq (reps_len _ _).symm | exact Nat.le_of_eq (cells_len _).symm) ?_)
          intro mi qmi
          have dmi_n5 : ¬ mi = n5 := qmi.1
          have emi_n5 : (mi = n5) = False := eq_false dmi_n5
          have fmi_n5 : (n5 = mi) = False := eq_false (fun e => dmi_n5 e.symm)
          have dn5_mi : ¬ n5 = mi := fun e => dmi_n5 e.symm
          have dmi_n3 : ¬ mi = n3 := qmi.2.1
          have emi_n3 : (mi = n3) = False := eq_false dmi_n3
          have fmi_n3 : (n3 = mi) = False := eq_false (fun e => dmi_n3 e.symm)
          have dn3_mi : ¬ n3 = mi := fun e => dmi_n3 e.symm
          have dmi_n2 : ¬ mi = n2 := qmi.2.2.1
          have emi_n2 : (mi = n2) = False := eq_false dmi_n2
          have fmi_n2 : (n2 = mi) = False := eq_false (fun e => dmi_n2 e.symm)
          have dn2_mi : ¬ n2 = mi := fun e => dmi_n2 e.symm
          have dmi_na : ¬ mi = na := qmi.2.2.2.1
          have emi_na : (mi = na) = False := eq_false dmi_na
          have fmi_na : (na = mi) = False := eq_false (fun e => dmi_na e.symm)
          have dna_mi : ¬ na = mi := fun e => dmi_na e.symm
          have z_mi := qmi.2.2.2.2
          try simp (maxSteps := 1000000) -dsimp -implicitDefEqProofs only [go_sem, ↓reduceIte, keep108, ib108, mk108, Tryz.f108, upd_upd, upd_ne, en3_n2, fn3_n2, ena_n2, fna_n2, ena_n3, fna_n3, en5_n3, fn5_n3, en5_n2, fn5_n2, en5_na, fn5_na, emi_n5, fmi_n5, emi_n3, fmi_n3, emi_n2, fmi_n2, emi_na, fmi_na, eaa, hlta, oheap_some, onil_some, eai, hlti, oheap_none, onil_none, ob_4.flat, ob_4.one, OV.map_val, OV.map_val_nil, OV.val_v]
          refine ⟨(ki + 1, ([] : List (List OV)) ++ [[.v (.int .i64 x.fFuncs[ka].fOuts[ki].fKind), .v (.int .i64 x.fFuncs[ka].fOuts[ki].fNum), .v (.int .i64 x.fFuncs[ka].fOuts[ki].fPick), .v (.int .i64 x.fFuncs[ka].fOuts[ki].fCount), yb_4]], gb, some mi), ?_⟩
          simp only
          refine ⟨?_, (by intro q_; simp only [upd_get, oheap_none, oheap_some, onil_none, onil_some, take_cells, cells_snoc, cells_one, cells_nil, cellv_cons, cellv_nil, OV.val_v, List.nil_append, List.length_append, List.length_cons, List.length_nil, Nat.zero_add]; grind), ⟨by omega, OR.snoc hori hlti oeb, hnewi.snoc wb, z_na, z_n2, z_n3, z_n5, z_mi, (fun n_ e_ => by obtain rfl := Option.some.inj e_; exact ⟨dmi_na, dmi_n2, dmi_n3, dmi_n5⟩)⟩, by omega⟩
          all_goals (repeat' (with_reducible refine And.intro ?_ ?_))
          all_goals first | rfl | trivial | (rw [IntWalk.i64_in _ (by omega)]; omega)
        | some ni =>
          rw [gside_some] at hosi
          have z_ni := hosi
          have hni := honi ni rfl
          have dni_na : ¬ ni = na := hni.1
          have eni_na : (ni = na) = False := eq_false dni_na
          have fni_na : (na = ni) = False := eq_false (fun e => dni_na e.symm)
          have dna_ni : ¬ na = ni := fun e => dni_na e.symm
          have dni_n2 : ¬ ni = n2 := hni.2.1
          have eni_n2 : (ni = n2) = False := eq_false dni_n2
          have fni_n2 : (n2 = ni) = False := eq_false (fun e => dni_n2 e.symm)
          have dn2_ni : ¬ n2 = ni := fun e => dni_n2 e.symm
          have dni_n3 : ¬ ni = n3 := hni.2.2.1
          have eni_n3 : (ni = n3) = False := eq_false dni_n3
          have fni_n3 : (n3 = ni) = False := eq_false (fun e => dni_n3 e.symm)
          have dn3_ni : ¬ n3 = ni := fun e => dni_n3 e.symm
          have dni_n5 : ¬ ni = n5 := hni.2.2.2
          have eni_n5 : (ni = n5) = False := eq_false dni_n5
          have fni_n5 : (n5 = ni) = False := eq_false (fun e => dni_n5 e.symm)
          have dn5_ni : ¬ n5 = ni := fun e => dni_n5 e.symm
          try simp (maxSteps := 1000000) -dsimp -implicitDefEqProofs only [go_sem, ↓reduceIte, keep108, ib108, mk108, Tryz.f108, upd_upd, upd_ne, en3_n2, fn3_n2, ena_n2, fna_n2, ena_n3, fna_n3, en5_n3, fn5_n3, en5_n2, fn5_n2, en5_na, fn5_na, eni_na, fni_na, eni_n2, fni_n2, eni_n3, fni_n3, eni_n5, fni_n5, eaa, hlta, oheap_some, onil_some, eai, hlti, oheap_some, onil_some, DExpr.c_eq, DFunc.c_eq]
          try (with_reducible intro _)
          refine HFnF.wn5 (FnN.sub (by repeat' (first | exact SubL.nil | refine SubL.cons ?_ ?_ | exact Sub.refl _ | (rw [DExpr.c_eq]; exact Sub.refl _) | exact Sub.ipAt rfl rfl rfl | exact Sub.ip (map_get (by omega)) (by simp) | exact Sub.ipAt (map_get (by omega)) rfl rfl | exact Sub.ip (by simp [*]) (by simp) | exact Sub.ipAt (by simp [*]) (by rfl) (by rfl))) hxi) z_ni ⟨dna_ni, z_na⟩ ⟨dn2_na, dn2_ni, z_n2⟩ ⟨dn3_n2, dn3_na, dn3_ni, z_n3⟩ ⟨dn5_n3, dn5_n2, dn5_na, dn5_ni, z_n5⟩ ?_
          rintro r l_ gb ⟨e_b, oeb, rfl, rfl⟩ wb z_ni z_na z_n2 z_n3 z_n5
          have oob := oeb
          rw [DExpr.o_iff] at oob
          obtain ⟨yb_4, rfl, ob_4⟩ := oob
          try simp (maxSteps := 1000000) -dsimp -implicitDefEqProofs only [go_sem, ↓reduceIte, keep108, ib108, mk108, Tryz.f108, upd_upd, upd_ne, en3_n2, fn3_n2, ena_n2, fna_n2, ena_n3, fna_n3, en5_n3, fn5_n3, en5_n2, fn5_n2, en5_na, fn5_na, eni_na, fni_na, eni_n2, fni_n2, eni_n3, fni_n3, eni_n5, fni_n5, eaa, hlta, oheap_some, onil_some, eai, hlti, oheap_some, onil_some, ob_4.flat, ob_4.one, OV.map_val, OV.map_val_nil, OV.val_v, DExpr.c_eq, DFunc.c_eq]
          repeat' (with_reducible first | refine And.intro (by first | omega | decide | rfl | trivial | exact Nat.le_of_eq (reps_len _ _).symm | exact Nat.le_of_eq (cells_len _).symm) ?_)
          intro mi qmi
          have dmi_n5 : ¬ mi = n5 := qmi.1
          have emi_n5 : (mi = n5) = False := eq_false dmi_n5
          have fmi_n5 : (n5 = mi) = False := eq_false (fun e => dmi_n5 e.symm)
          have dn5_mi : ¬ n5 = mi := fun e => dmi_n5 e.symm
          have dmi_n3 : ¬ mi = n3 := qmi.2.1
          have emi_n3 : (mi = n3) = False := eq_false dmi_n3
          have fmi_n3 : (n3 = mi) = False := eq_false (fun e => dmi_n3 e.symm)
          have dn3_mi : ¬ n3 = mi := fun e => dmi_n3 e.symm
          have dmi_n2 : ¬ mi = n2 := qmi.2.2.1
          have emi_n2 : (mi = n2) = False := eq_false dmi_n2
          have fmi_n2 : (n2 = mi) = False := eq_false (fun e => dmi_n2 e.symm)
          have dn2_mi : ¬ n2 = mi := fun e => dmi_n2 e.symm
          have dmi_na : ¬ mi = na := qmi.2.2.2.1
          have emi_na : (mi = na) = False := eq_false dmi_na
          have fmi_na : (na = mi) = False := eq_false (fun e => dmi_na e.symm)
          have dna_mi : ¬ na = mi := fun e => dmi_na e.symm
          have dmi_ni : ¬ mi = ni := qmi.2.2.2.2.1
          have emi_ni : (mi = ni) = False := eq_false dmi_ni
          have fmi_ni : (ni = mi) = False := eq_false (fun e => dmi_ni e.symm)
          have dni_mi : ¬ ni = mi := fun e => dmi_ni e.symm
          have z_mi := qmi.2.2.2.2.2
          try simp (maxSteps := 1000000) -dsimp -implicitDefEqProofs only [go_sem, ↓reduceIte, keep108, ib108, mk108, Tryz.f108, upd_upd, upd_ne, en3_n2, fn3_n2, ena_n2, fna_n2, ena_n3, fna_n3, en5_n3, fn5_n3, en5_n2, fn5_n2, en5_na, fn5_na, eni_na, fni_na, eni_n2, fni_n2, eni_n3, fni_n3, eni_n5, fni_n5, emi_n5, fmi_n5, emi_n3, fmi_n3, emi_n2, fmi_n2, emi_na, fmi_na, emi_ni, fmi_ni, eaa, hlta, oheap_some, onil_some, eai, hlti, oheap_some, onil_some, ob_4.flat, ob_4.one, OV.map_val, OV.map_val_nil, OV.val_v]
          refine ⟨(ki + 1, esi ++ [[.v (.int .i64 x.fFuncs[ka].fOuts[ki].fKind), .v (.int .i64 x.fFuncs[ka].fOuts[ki].fNum), .v (.int .i64 x.fFuncs[ka].fOuts[ki].fPick), .v (.int .i64 x.fFuncs[ka].fOuts[ki].fCount), yb_4]], gb, some mi), ?_⟩
          simp only
          refine ⟨?_, (by intro q_; simp only [upd_get, oheap_none, oheap_some, onil_none, onil_some, take_cells, cells_snoc, cells_one, cells_nil, cellv_cons, cellv_nil, OV.val_v, List.nil_append, List.length_append, List.length_cons, List.length_nil, Nat.zero_add]; grind), ⟨by omega, OR.snoc hori hlti oeb, hnewi.snoc wb, z_na, z_n2, z_n3, z_n5, z_mi, (fun n_ e_ => by obtain rfl := Option.some.inj e_; exact ⟨dmi_na, dmi_n2, dmi_n3, dmi_n5⟩)⟩, by omega⟩
          all_goals (repeat' (with_reducible refine And.intro ?_ ?_))
          all_goals first | rfl | trivial | (rw [IntWalk.i64_in _ (by omega)]; omega)
      · have hk2i : ki = x.fFuncs[ka].fOuts.length := by omega
        subst hk2i
        rw [List.take_length] at hori
        have zzi_na : oheap gi_ (.row 5 (OV.cells esi)) oi_ na = none := oheap_at z_na fun n_ e_ => (honi n_ e_).1
        have zzi_n2 : oheap gi_ (.row 5 (OV.cells esi)) oi_ n2 = none := oheap_at z_n2 fun n_ e_ => (honi n_ e_).2.1
        have zzi_n3 : oheap gi_ (.row 5 (OV.cells esi)) oi_ n3 = none := oheap_at z_n3 fun n_ e_ => (honi n_ e_).2.2.1
        have zzi_n5 : oheap gi_ (.row 5 (OV.cells esi)) oi_ n5 = none := oheap_at z_n5 fun n_ e_ => (honi n_ e_).2.2.2
        try simp (maxSteps := 1000000) -dsimp -implicitDefEqProofs only [go_sem, ↓reduceIte, keep108, ib108, mk108, Tryz.f108, upd_upd, upd_ne, en3_n2, fn3_n2, ena_n2, fna_n2, ena_n3, fna_n3, en5_n3, fn5_n3, en5_n2, fn5_n2, en5_na, fn5_na, eaa, hlta, oheap_some, onil_some, onil_flat, onil_cells, OV.map_val, OV.map_val_nil, OV.val_v, Nat.lt_irrefl, DFunc.c_eq]
        try (with_reducible intro _)
        repeat' (with_reducible first | refine And.intro (by first | omega | decide | rfl | trivial | exact Nat.le_of_eq (reps_len _ _).symm | exact Nat.le_of_eq (cells_len _).symm) ?_)
        have z_na := zzi_na
        have z_n2 := zzi_n2
        have z_n3 := zzi_n3
        have z_n5 := zzi_n5
        have wf := gov_new (sz := 5) hnewi hosi
        intro ma qma
        have dma_n5 : ¬ ma = n5 := qma.1
        have ema_n5 : (ma = n5) = False := eq_false dma_n5
        have fma_n5 : (n5 = ma) = False := eq_false (fun e => dma_n5 e.symm)
        have dn5_ma : ¬ n5 = ma := fun e => dma_n5 e.symm
        have dma_n3 : ¬ ma = n3 := qma.2.1
        have ema_n3 : (ma = n3) = False := eq_false dma_n3
        have fma_n3 : (n3 = ma) = False := eq_false (fun e => dma_n3 e.symm)
        have dn3_ma : ¬ n3 = ma := fun e => dma_n3 e.symm
        have dma_n2 : ¬ ma = n2 := qma.2.2.1
        have ema_n2 : (ma = n2) = False := eq_false dma_n2
        have fma_n2 : (n2 = ma) = False := eq_false (fun e => dma_n2 e.symm)
        have dn2_ma : ¬ n2 = ma := fun e => dma_n2 e.symm
        have dma_na : ¬ ma = na := qma.2.2.2.1
        have ema_na : (ma = na) = False := eq_false dma_na
        have fma_na : (na = ma) = False := eq_false (fun e => dma_na e.symm)
        have dna_ma : ¬ na = ma := fun e => dma_na e.symm
        have z_ma := qma.2.2.2.2
        try simp (maxSteps := 1000000) -dsimp -implicitDefEqProofs only [go_sem, ↓reduceIte, keep108, ib108, mk108, Tryz.f108, upd_upd, upd_ne, en3_n2, fn3_n2, ena_n2, fna_n2, ena_n3, fna_n3, en5_n3, fn5_n3, en5_n2, fn5_n2, en5_na, fn5_na, ema_n5, fma_n5, ema_n3, fma_n3, ema_n2, fma_n2, ema_na, fma_na, eaa, hlta, oheap_some, onil_some, onil_flat, onil_cells, OV.map_val, OV.map_val_nil, OV.val_v]
        refine ⟨(ka + 1, esa ++ [[.v (.str x.fFuncs[ka].fName), .v (I x.fFuncs[ka].fParams), (gov 5 esi oi_)]], (oheap gi_ (.row 5 (OV.cells esi)) oi_), some ma), ?_⟩
        simp only
        refine ⟨?_, (Heap.wk.trans (b := (upd (upd (oheap (oheap gi_ (.row 5 (OV.cells esi)) oi_) (.row 3 (OV.cells esa ++ [[Cell.v (.str x.fFuncs[ka].fName), Cell.v (I x.fFuncs[ka].fParams), Cell.v (onil 5 esi.length oi_)]])) (some ma)) n2 (.row 1 [[.v .nilsl]])) n3 (.row 1 [[.v (onil 3 (esa ++ [[.v (.str x.fFuncs[ka].fName), .v (I x.fFuncs[ka].fParams), (gov 5 esi oi_)]]).length (some ma))]]))) (Heap.wk_row (m := ma) (sz := 3) (es := (OV.cells esa ++ [[Cell.v (.str x.fFuncs[ka].fName), Cell.v (I x.fFuncs[ka].fParams), Cell.v (onil 5 esi.length oi_)]])) (es' := OV.cells (esa ++ [[.v (.str x.fFuncs[ka].fName), .v (I x.fFuncs[ka].fParams), (gov 5 esi oi_)]])) (fun q_ hq_ => by simp only [upd_get, oheap_some, if_neg hq_]) (by simp [upd_get, oheap_some, dma_n2, dma_n3]) (by simp [upd_get, oheap_some, dma_n2, dma_n3]) (by rw [cells_snoc]; exact RowsWk.sub (xs := [(.str x.fFuncs[ka].fName), (I x.fFuncs[ka].fParams), (onil 5 esi.length oi_)]) (ys := [(.str x.fFuncs[ka].fName), (I x.fFuncs[ka].fParams), (gov 5 esi oi_).val]) (SubL.cons (Sub.refl _) (SubL.cons (Sub.refl _) (SubL.cons gov_sub SubL.nil))) _)) (Heap.wk_of_le (by intro q_; simp only [upd_get, oheap_none, oheap_some, onil_none, onil_some, take_cells, cells_snoc, cells_one, cells_nil, cellv_cons, cellv_nil, OV.val_v, List.nil_append, List.length_append, List.length_cons, List.length_nil, Nat.zero_add]; grind))), ⟨by omega, OR.snoc hora hlta ⟨_, rfl, gov_os hori hosi⟩, hnewa.snoc (by simpa only [OV.row_cons, OV.row_nil, OV.v_rows, List.nil_append, List.append_nil] using wf), z_n2, z_n3, z_ma, (fun n_ e_ => by obtain rfl := Option.some.inj e_; exact ⟨dma_n2, dma_n3⟩)⟩, by omega⟩
        all_goals (repeat' (with_reducible refine And.intro ?_ ?_))
        all_goals first | rfl | trivial | (rw [IntWalk.i64_in _ (by omega)]; omega)
  · have hk2a : ka = x.fFuncs.length := by omega
    subst hk2a
    rw [List.take_length] at hora
    have zza_n2 : oheap ga_ (.row 3 (OV.cells esa)) oa_ n2 = none := oheap_at z_n2 fun n_ e_ => (hona n_ e_).1
    have zza_n3 : oheap ga_ (.row 3 (OV.cells esa)) oa_ n3 = none := oheap_at z_n3 fun n_ e_ => (hona n_ e_).2
    try simp (maxSteps := 1000000) -dsimp -implicitDefEqProofs only [go_sem, ↓reduceIte, keep108, ib108, mk108, Tryz.f108, upd_upd, upd_ne, en3_n2, fn3_n2, onil_flat, onil_cells, Nat.lt_irrefl]
    try (with_reducible intro _)
    refine ⟨_, (oheap ga_ (.row 3 (OV.cells esa)) oa_), _, Shift.of (Sub.agg (SubL.cons gov_sub SubL.nil)) (by intro q_; simp only [upd_get, oheap_none, oheap_some, onil_none, onil_some, take_cells, cells_snoc, cells_one, cells_nil, cellv_cons, cellv_nil, OV.val_v, List.nil_append, List.length_append, List.length_cons, List.length_nil, Nat.zero_add]; grind), ⟨[(gov 3 esa oa_)], ?_, rfl, rfl⟩, ?_⟩
    · exact ⟨(gov 3 esa oa_), rfl, gov_os hora hosa⟩
    · have hq := (gov_new (sz := 3) hnewa hosa)
      simpa only [OV.row_cons, OV.row_nil, OV.v_rows, List.nil_append, List.append_nil, List.append_assoc] using hq

end Go.Hl

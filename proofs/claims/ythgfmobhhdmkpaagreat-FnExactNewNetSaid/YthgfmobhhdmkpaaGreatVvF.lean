/-
  Contracts of functions and laws of the layer over the walk.
-/
import Derived.Test.YthgfmobhhdmkpaaGreatVvE
namespace Go.Hl
open Go.Proofs
set_option linter.unusedVariables false
set_option linter.unusedSimpArgs false
def keep65 : List Nat := [0, 1, 2, 3, 5, 18, 19, 20, 21]
def ib65 : List Nat := [1, 28]
def mk65 : Marks := fun id => match id with | 1 => ([2, 9, 11, 12], (.op 0 (.op 1 (.op 3 (.op 4 (.op 5 (.op 6 (.op 7 (.op 8 (.alt 2 (.alt 9 (.op 10 (.op 11 (.op 12 .nil))) 11 (.op 9 (.op 10 (.op 12 .nil)))) 11 (.op 2 (.op 9 (.op 10 (.op 12 .nil))))))))))))), []) | 5 => ([1, 3, 5, 7], (.op 0 (.op 2 (.op 1 (.op 3 (.op 4 (.op 5 (.op 6 (.op 7 .nil)))))))), [(1, 3)]) | _ => ([], .nil, [])
set_option maxRecDepth 100000 in
set_option maxHeartbeats 1000000 in
theorem cloneJob (x : DJob) (hs : x.s ≤ 1048576) : FnN Tryz.prog 65 [.agg x.c] (QA x.o) := by
  have hs' := x.s_eq
  have hs2 := x.fProgram.s_eq
  try simp only [szs_eq] at hs'
  simp only [DJob.c_eq]
  refine fnNF 33 keep65 ib65 mk65 mix Tryz.func65 rfl (by kernel_rfl) (by simp) fun h => ?_
  try simp (maxSteps := 1000000) -dsimp -implicitDefEqProofs only [go_sem, ↓reduceIte, keep65, ib65, mk65, Tryz.f65, upd_upd, upd_ne]
  intro n2 qn2
  have z_n2 := qn2
  try simp (maxSteps := 1000000) -dsimp -implicitDefEqProofs only [go_sem, ↓reduceIte, keep65, ib65, mk65, Tryz.f65, upd_upd, upd_ne]
  try (with_reducible refine And.intro Nat.zero_lt_one ?_)
  refine ⟨?_, ?_⟩
  ·
    refine HFnF.wn1 ((cloneProgram x.fProgram (by omega))) z_n2 ?_
    rintro r l_ gc0 ⟨e_c0, oec0, rfl, rfl⟩ wc0 z_n2
    have ooc0 := oec0
    obtain ⟨yc0_0, rfl, oc0_0⟩ := ooc0
    try simp (maxSteps := 1000000) -dsimp -implicitDefEqProofs only [go_sem, ↓reduceIte, keep65, ib65, mk65, Tryz.f65, upd_upd, upd_ne, oc0_0.flat, oc0_0.one, OV.map_val, OV.map_val_nil, OV.val_v]
    try (with_reducible refine And.intro Nat.zero_lt_one ?_)
    refine ⟨?_, ?_⟩
    ·
      refine HFnF.wn1 (cloneI x.fPoint (by omega)) z_n2 ?_
      rintro r l_ gc1 ⟨yc1_0, oc1_0, rfl, rfl⟩ wc1 z_n2
      try simp (maxSteps := 1000000) -dsimp -implicitDefEqProofs only [go_sem, ↓reduceIte, keep65, ib65, mk65, Tryz.f65, upd_upd, upd_ne, oc0_0.flat, oc0_0.one, oc1_0.flat, oc1_0.one, OV.map_val, OV.map_val_nil, OV.val_v]
      repeat' (with_reducible first | refine And.intro (by first | omega | decide | rfl | trivial | exact Nat.le_of_eq (reps_len _ _).symm | exact Nat.le_of_eq (cells_len _).symm) ?_)
      intro n3 qn3
      have dn3_n2 : ¬ n3 = n2 := qn3.1
      have en3_n2 : (n3 = n2) = False := eq_false dn3_n2
      have fn3_n2 : (n2 = n3) = False := eq_false (fun e => dn3_n2 e.symm)
      have dn2_n3 : ¬ n2 = n3 := fun e => dn3_n2 e.symm
      have z_n3 := qn3.2
      try simp (maxSteps := 1000000) -dsimp -implicitDefEqProofs only [go_sem, ↓reduceIte, keep65, ib65, mk65, Tryz.f65, upd_upd, upd_ne, en3_n2, fn3_n2, oc0_0.flat, oc0_0.one, oc1_0.flat, oc1_0.one, OV.map_val, OV.map_val_nil, OV.val_v]
      try (with_reducible intro _)
      refine loopF (keep := keep65) (ib := ib65) (mk := mk65) mix (by kernel_rfl) (fun s : Nat × List (List OV) × Heap × Option Nat => [(2, .op n2 5 0 0), (3, .op n3 5 0 0), (18, sls 1 (fun l => [sls 1 (fun n => [I n]) l]) x.fTerms), (19, I x.fTerms.length), (20, (I s.1))]) (fun s => (upd (upd (oheap s.2.2.1 (.row 1 (OV.cells s.2.1)) s.2.2.2) n2 (.row 5 [[.v (.nilsl), .v (.int .i64 0), .v (.int .i64 0), .v (.nilsl), .v (.nilsl)]])) n3 (.row 5 [[.v (yc0_0.val), .v (I x.fFunc), .v (I x.fShared), .v (yc1_0.val), .v (onil 1 s.2.1.length s.2.2.2)]]))) (fun s => s.1 ≤ x.fTerms.length ∧ OR (oS (oP I) 1) (x.fTerms.take s.1) s.2.1 ∧ New gc1 (OV.rowsRows s.2.1) s.2.2.1 ∧ s.2.2.1 n2 = none ∧ s.2.2.1 n3 = none ∧ gside s.2.2.1 s.2.1 s.2.2.2 ∧ ∀ n : Nat, s.2.2.2 = some n → n ≠ n2 ∧ n ≠ n3) (fun s => x.fTerms.length - s.1) (0, [], gc1, none) ?_ ?_
      · exact ⟨by simp [SatL, tget], (by intro q_; simp only [upd_get, oheap_none, oheap_some, onil_none, onil_some, take_cells, cells_snoc, cells_one, cells_nil, cellv_cons, cellv_nil, OV.val_v, List.nil_append, List.length_append, List.length_cons, List.length_nil, Nat.zero_add]; grind), Nat.zero_le _, trivial, New.nil _, z_n2, z_n3, rfl, by simp⟩
      rintro ⟨k, es, g_, o_⟩ ⟨hkk, hor, hnew, z_n2, z_n3, hos, hon⟩
      simp only at hkk hor hnew z_n2 z_n3 hos hon ⊢
      have hlen : es.length = k := by have := hor.length; simp at this; omega
      rcases Nat.lt_or_ge k x.fTerms.length with hlt | hge
      · have ea : x.fTerms[k]? = some x.fTerms[k] := List.getElem?_eq_getElem hlt
        have hx := cloneI x.fTerms[k] (by have := sum_mem (fun x : List Int => x.length) (List.getElem_mem hlt); (try simp only at this); omega)
        cases o_ with
        | none =>
          rw [gside_none] at hos
          subst hos
          try simp (maxSteps := 1000000) -dsimp -implicitDefEqProofs only [go_sem, ↓reduceIte, keep65, ib65, mk65, Tryz.f65, upd_upd, upd_ne, en3_n2, fn3_n2, ea, hlt, oheap_none, onil_none, oc0_0.flat, oc0_0.one, oc1_0.flat, oc1_0.one]
          try (with_reducible intro _)
          refine HFnF.wn2 (hx) z_n2 ⟨dn3_n2, z_n3⟩ ?_
          rintro r l_ gc ⟨yc_0, oc_0, rfl, rfl⟩ wc z_n2 z_n3
          try simp (maxSteps := 1000000) -dsimp -implicitDefEqProofs only [go_sem, ↓reduceIte, keep65, ib65, mk65, Tryz.f65, upd_upd, upd_ne, en3_n2, fn3_n2, ea, hlt, oheap_none, onil_none, oc0_0.flat, oc0_0.one, oc1_0.flat, oc1_0.one, oc_0.flat, oc_0.one, OV.map_val, OV.map_val_nil, OV.val_v]
          repeat' (with_reducible first | refine And.intro (by first | omega | decide | rfl | trivial | exact Nat.le_of_eq (reps_len _ _).symm | exact Nat.le_of_eq (cells_len _).symm) ?_)
          intro m qm
          have dm_n3 : ¬ m = n3 := qm.1
          have em_n3 : (m = n3) = False := eq_false dm_n3
          have fm_n3 : (n3 = m) = False := eq_false (fun e => dm_n3 e.symm)
          have dn3_m : ¬ n3 = m := fun e => dm_n3 e.symm
          have dm_n2 : ¬ m = n2 := qm.2.1
          have em_n2 : (m = n2) = False := eq_false dm_n2
          have fm_n2 : (n2 = m) = False := eq_false (fun e => dm_n2 e.symm)
          have dn2_m : ¬ n2 = m := fun e => dm_n2 e.symm
          have z_m := qm.2.2
          try simp (maxSteps := 1000000) -dsimp -implicitDefEqProofs only [go_sem, ↓reduceIte, keep65, ib65, mk65, Tryz.f65, upd_upd, upd_ne, en3_n2, fn3_n2, em_n3, fm_n3, em_n2, fm_n2, ea, hlt, oheap_none, onil_none, oc0_0.flat, oc0_0.one, oc1_0.flat, oc1_0.one, oc_0.flat, oc_0.one, OV.map_val, OV.map_val_nil, OV.val_v]
          refine ⟨(k + 1, ([] : List (List OV)) ++ [[yc_0]], gc, some m), ?_⟩
          simp only
          refine ⟨?_, (by intro q_; simp only [upd_get, oheap_none, oheap_some, onil_none, onil_some, take_cells, cells_snoc, cells_one, cells_nil, cellv_cons, cellv_nil, OV.val_v, List.nil_append, List.length_append, List.length_cons, List.length_nil, Nat.zero_add]; grind), ⟨by omega, OR.snoc hor hlt ⟨yc_0, rfl, oc_0⟩, hnew.snoc (by simpa only [OV.row_cons, OV.row_nil, List.append_nil] using wc), z_n2, z_n3, z_m, (fun n_ e_ => by obtain rfl := Option.some.inj e_; exact ⟨dm_n2, dm_n3⟩)⟩, by omega⟩
          all_goals (repeat' (with_reducible refine And.intro ?_ ?_))
          all_goals first | rfl | trivial | (rw [IntWalk.i64_in _ (by omega)]; omega)
        | some n =>
          rw [gside_some] at hos
          have z_n := hos
          have hn := hon n rfl
          have dn_n2 : ¬ n = n2 := hn.1
          have en_n2 : (n = n2) = False := eq_false dn_n2
          have fn_n2 : (n2 = n) = False := eq_false (fun e => dn_n2 e.symm)
          have dn2_n : ¬ n2 = n := fun e => dn_n2 e.symm
          have dn_n3 : ¬ n = n3 := hn.2
          have en_n3 : (n = n3) = False := eq_false dn_n3
          have fn_n3 : (n3 = n) = False := eq_false (fun e => dn_n3 e.symm)
          have dn3_n : ¬ n3 = n := fun e => dn_n3 e.symm
          try simp (maxSteps := 1000000) -dsimp -implicitDefEqProofs only [go_sem, ↓reduceIte, keep65, ib65, mk65, Tryz.f65, upd_upd, upd_ne, en3_n2, fn3_n2, en_n2, fn_n2, en_n3, fn_n3, ea, hlt, oheap_some, onil_some, oc0_0.flat, oc0_0.one, oc1_0.flat, oc1_0.one]
          try (with_reducible intro _)
          refine HFnF.wn3 (hx) z_n ⟨dn2_n, z_n2⟩ ⟨dn3_n2, dn3_n, z_n3⟩ ?_
          rintro r l_ gc ⟨yc_0, oc_0, rfl, rfl⟩ wc z_n z_n2 z_n3
          try simp (maxSteps := 1000000) -dsimp -implicitDefEqProofs only [go_sem, ↓reduceIte, keep65, ib65, mk65, Tryz.f65, upd_upd, upd_ne, en3_n2, fn3_n2, en_n2, fn_n2, en_n3, fn_n3, ea, hlt, oheap_some, onil_some, oc0_0.flat, oc0_0.one, oc1_0.flat, oc1_0.one, oc_0.flat, oc_0.one, OV.map_val, OV.map_val_nil, OV.val_v]
          repeat' (with_reducible first | refine And.intro (by first | omega | decide | rfl | trivial | exact Nat.le_of_eq (reps_len _ _).symm | exact Nat.le_of_eq (cells_len _).symm) ?_)
          intro m qm
          have dm_n3 : ¬ m = n3 := qm.1
          have em_n3 : (m = n3) = False := eq_false dm_n3
          have fm_n3 : (n3 = m) = False := eq_false (fun e => dm_n3 e.symm)
          have dn3_m : ¬ n3 = m := fun e => dm_n3 e.symm
          have dm_n2 : ¬ m = n2 := qm.2.1
          have em_n2 : (m = n2) = False := eq_false dm_n2
          have fm_n2 : (n2 = m) = False := eq_false (fun e => dm_n2 e.symm)
          have dn2_m : ¬ n2 = m := fun e => dm_n2 e.symm
          have dm_n : ¬ m = n := qm.2.2.1
          have em_n : (m = n) = False := eq_false dm_n
          have fm_n : (n = m) = False := eq_false (fun e => dm_n e.symm)
          have dn_m : ¬ n = m := fun e => dm_n e.symm
          have z_m := qm.2.2.2
          try simp (maxSteps := 1000000) -dsimp -implicitDefEqProofs only [go_sem, ↓reduceIte, keep65, ib65, mk65, Tryz.f65, upd_upd, upd_ne, en3_n2, fn3_n2, en_n2, fn_n2, en_n3, fn_n3, em_n3, fm_n3, em_n2, fm_n2, em_n, fm_n, ea, hlt, oheap_some, onil_some, oc0_0.flat, oc0_0.one, oc1_0.flat, oc1_0.one, oc_0.flat, oc_0.one, OV.map_val, OV.map_val_nil, OV.val_v]
          refine ⟨(k + 1, es ++ [[yc_0]], gc, some m), ?_⟩
          simp only
          refine ⟨?_, (by intro q_; simp only [upd_get, oheap_none, oheap_some, onil_none, onil_some, take_cells, cells_snoc, cells_one, cells_nil, cellv_cons, cellv_nil, OV.val_v, List.nil_append, List.length_append, List.length_cons, List.length_nil, Nat.zero_add]; grind), ⟨by omega, OR.snoc hor hlt ⟨yc_0, rfl, oc_0⟩, hnew.snoc (by simpa only [OV.row_cons, OV.row_nil, List.append_nil] using wc), z_n2, z_n3, z_m, (fun n_ e_ => by obtain rfl := Option.some.inj e_; exact ⟨dm_n2, dm_n3⟩)⟩, by omega⟩
          all_goals (repeat' (with_reducible refine And.intro ?_ ?_))
          all_goals first | rfl | trivial | (rw [IntWalk.i64_in _ (by omega)]; omega)
      · have hk2 : k = x.fTerms.length := by omega
        subst hk2
        rw [List.take_length] at hor
        have zz_n2 : oheap g_ (.row 1 (OV.cells es)) o_ n2 = none := oheap_at z_n2 fun n_ e_ => (hon n_ e_).1
        have zz_n3 : oheap g_ (.row 1 (OV.cells es)) o_ n3 = none := oheap_at z_n3 fun n_ e_ => (hon n_ e_).2
        try simp (maxSteps := 1000000) -dsimp -implicitDefEqProofs only [go_sem, ↓reduceIte, keep65, ib65, mk65, Tryz.f65, upd_upd, upd_ne, en3_n2, fn3_n2, onil_flat, onil_cells, oc0_0.flat, oc0_0.one, oc1_0.flat, oc1_0.one, Nat.lt_irrefl]
        try (with_reducible intro _)
        refine ⟨_, (oheap g_ (.row 1 (OV.cells es)) o_), _, Shift.of (Sub.agg (SubL.cons (Sub.refl _) (SubL.cons (Sub.refl _) (SubL.cons (Sub.refl _) (SubL.cons (Sub.refl _) (SubL.cons gov_sub SubL.nil)))))) (by intro q_; simp only [upd_get, oheap_none, oheap_some, onil_none, onil_some, take_cells, cells_snoc, cells_one, cells_nil, cellv_cons, cellv_nil, OV.val_v, List.nil_append, List.length_append, List.length_cons, List.length_nil, Nat.zero_add]; grind), ⟨[yc0_0, .v (I x.fFunc), .v (I x.fShared), yc1_0, (gov 1 es o_)], ?_, rfl, rfl⟩, ?_⟩
        · exact ⟨yc0_0, yc1_0, (gov 1 es o_), rfl, oc0_0, oc1_0, gov_os hor hos⟩
        · have hq := (New.append (New.append wc0 wc1) (gov_new (sz := 1) hnew hos))
          simpa only [OV.row_cons, OV.row_nil, OV.v_rows, List.nil_append, List.append_nil, List.append_assoc] using hq
    ·
      intro n3 qn3
      have dn3_n2 : ¬ n3 = n2 := qn3.1
      have en3_n2 : (n3 = n2) = False := eq_false dn3_n2
      have fn3_n2 : (n2 = n3) = False := eq_false (fun e => dn3_n2 e.symm)
      have dn2_n3 : ¬ n2 = n3 := fun e => dn3_n2 e.symm
      have z_n3 := qn3.2
      try simp (maxSteps := 1000000) -dsimp -implicitDefEqProofs only [go_sem, ↓reduceIte, keep65, ib65, mk65, Tryz.f65, upd_upd, upd_ne, en3_n2, fn3_n2, oc0_0.flat, oc0_0.one, OV.map_val, OV.map_val_nil, OV.val_v]
      refine HFnF.wn2 (cloneI x.fPoint (by omega)) z_n2 ⟨dn3_n2, z_n3⟩ ?_
      rintro r l_ gc1 ⟨yc1_0, oc1_0, rfl, rfl⟩ wc1 z_n2 z_n3
      try simp (maxSteps := 1000000) -dsimp -implicitDefEqProofs only [go_sem, ↓reduceIte, keep65, ib65, mk65, Tryz.f65, upd_upd, upd_ne, en3_n2, fn3_n2, oc0_0.flat, oc0_0.one, oc1_0.flat, oc1_0.one, OV.map_val, OV.map_val_nil, OV.val_v]
      repeat' (with_reducible first | refine And.intro (by first | omega | decide | rfl | trivial | exact Nat.le_of_eq (reps_len _ _).symm | exact Nat.le_of_eq (cells_len _).symm) ?_)
      try (with_reducible intro _)
      refine loopF (keep := keep65) (ib := ib65) (mk := mk65) mix (by kernel_rfl) (fun s : Nat × List (List OV) × Heap × Option Nat => [(2, .op n2 5 0 0), (3, .op n3 5 0 0), (18, sls 1 (fun l => [sls 1 (fun n => [I n]) l]) x.fTerms), (19, I x.fTerms.length), (20, (I s.1))]) (fun s => (upd (upd (oheap s.2.2.1 (.row 1 (OV.cells s.2.1)) s.2.2.2) n2 (.row 5 [[.v (.nilsl), .v (.int .i64 0), .v (.int .i64 0), .v (.nilsl), .v (.nilsl)]])) n3 (.row 5 [[.v (yc0_0.val), .v (I x.fFunc), .v (I x.fShared), .v (yc1_0.val), .v (onil 1 s.2.1.length s.2.2.2)]]))) (fun s => s.1 ≤ x.fTerms.length ∧ OR (oS (oP I) 1) (x.fTerms.take s.1) s.2.1 ∧ New gc1 (OV.rowsRows s.2.1) s.2.2.1 ∧ s.2.2.1 n2 = none ∧ s.2.2.1 n3 = none ∧ gside s.2.2.1 s.2.1 s.2.2.2 ∧ ∀ n : Nat, s.2.2.2 = some n → n ≠ n2 ∧ n ≠ n3) (fun s => x.fTerms.length - s.1) (0, [], gc1, none) ?_ ?_
      · exact ⟨by simp [SatL, tget], (by intro q_; simp only [upd_get, oheap_none, oheap_some, onil_none, onil_some, take_cells, cells_snoc, cells_one, cells_nil, cellv_cons, cellv_nil, OV.val_v, List.nil_append, List.length_append, List.length_cons, List.length_nil, Nat.zero_add]; grind), Nat.zero_le _, trivial, New.nil _, z_n2, z_n3, rfl, by simp⟩
      rintro ⟨k, es, g_, o_⟩ ⟨hkk, hor, hnew, z_n2, z_n3, hos, hon⟩
      simp only at hkk hor hnew z_n2 z_n3 hos hon ⊢
      have hlen : es.length = k := by have := hor.length; simp at this; omega
      rcases Nat.lt_or_ge k x.fTerms.length with hlt | hge
      · have ea : x.fTerms[k]? = some x.fTerms[k] := List.getElem?_eq_getElem hlt
        have hx := cloneI x.fTerms[k] (by have := sum_mem (fun x : List Int => x.length) (List.getElem_mem hlt); (try simp only at this); omega)
        cases o_ with
        | none =>
          rw [gside_none] at hos
          subst hos
          try simp (maxSteps := 1000000) -dsimp -implicitDefEqProofs only [go_sem, ↓reduceIte, keep65, ib65, mk65, Tryz.f65, upd_upd, upd_ne, en3_n2, fn3_n2, ea, hlt, oheap_none, onil_none, oc0_0.flat, oc0_0.one, oc1_0.flat, oc1_0.one]
          try (with_reducible intro _)
          refine HFnF.wn2 (hx) z_n2 ⟨dn3_n2, z_n3⟩ ?_
          rintro r l_ gc ⟨yc_0, oc_0, rfl, rfl⟩ wc z_n2 z_n3
          try simp (maxSteps := 1000000) -dsimp -implicitDefEqProofs only [go_sem, ↓reduceIte, keep65, ib65, mk65, Tryz.f65, upd_upd, upd_ne, en3_n2, fn3_n2, ea, hlt, oheap_none, onil_none, oc0_0.flat, oc0_0.one, oc1_0.flat, oc1_0.one, oc_0.flat, oc_0.one, OV.map_val, OV.map_val_nil, OV.val_v]
          repeat' (with_reducible first | refine And.intro (by first | omega | decide | rfl | trivial | exact Nat.le_of_eq (reps_len _ _).symm | exact Nat.le_of_eq (cells_len _).symm) ?_)
          intro m qm
          have dm_n3 : ¬ m = n3 := qm.1
          have em_n3 : (m = n3) = False := eq_false dm_n3
          have fm_n3 : (n3 = m) = False := eq_false (fun e => dm_n3 e.symm)
          have dn3_m : ¬ n3 = m := fun e => dm_n3 e.symm
          have dm_n2 : ¬ m = n2 := qm.2.1
          have em_n2 : (m = n2) = False := eq_false dm_n2
          have fm_n2 : (n2 = m) = False := eq_false (fun e => dm_n2 e.symm)
          have dn2_m : ¬ n2 = m := fun e => dm_n2 e.symm
          have z_m := qm.2.2
          try simp (maxSteps := 1000000) -dsimp -implicitDefEqProofs only [go_sem, ↓reduceIte, keep65, ib65, mk65, Tryz.f65, upd_upd, upd_ne, en3_n2, fn3_n2, em_n3, fm_n3, em_n2, fm_n2, ea, hlt, oheap_none, onil_none, oc0_0.flat, oc0_0.one, oc1_0.flat, oc1_0.one, oc_0.flat, oc_0.one, OV.map_val, OV.map_val_nil, OV.val_v]
          refine ⟨(k + 1, ([] : List (List OV)) ++ [[yc_0]], gc, some m), ?_⟩
          simp only
          refine ⟨?_, (by intro q_; simp only [upd_get, oheap_none, oheap_some, onil_none, onil_some, take_cells, cells_snoc, cells_one, cells_nil, cellv_cons, cellv_nil, OV.val_v, List.nil_append, List.length_append, List.length_cons, List.length_nil, Nat.zero_add]; grind), ⟨by omega, OR.snoc hor hlt ⟨yc_0, rfl, oc_0⟩, hnew.snoc (by simpa only [OV.row_cons, OV.row_nil, List.append_nil] using wc), z_n2, z_n3, z_m, (fun n_ e_ => by obtain rfl := Option.some.inj e_; exact ⟨dm_n2, dm_n3⟩)⟩, by omega⟩
          all_goals (repeat' (with_reducible refine And.intro ?_ ?_))
          all_goals first | rfl | trivial | (rw [IntWalk.i64_in _ (by omega)]; omega)
        | some n =>
          rw [gside_some] at hos
          have z_n := hos
          have hn := hon n rfl
          have dn_n2 : ¬ n = n2 := hn.1
          have en_n2 : (n = n2) = False := eq_false dn_n2
          have fn_n2 : (n2 = n) = False := eq_false (fun e => dn_n2 e.symm)
          have dn2_n : ¬ n2 = n := fun e => dn_n2 e.symm
          have dn_n3 : ¬ n = n3 := hn.2
          have en_n3 : (n = n3) = False := eq_false dn_n3
          have fn_n3 : (n3 = n) = False := eq_false (fun e => dn_n3 e.symm)
          have dn3_n : ¬ n3 = n := fun e => dn_n3 e.symm
          try simp (maxSteps := 1000000) -dsimp -implicitDefEqProofs only [go_sem, ↓reduceIte, keep65, ib65, mk65, Tryz.f65, upd_upd, upd_ne, en3_n2, fn3_n2, en_n2, fn_n2, en_n3, fn_n3, ea, hlt, oheap_some, onil_some, oc0_0.flat, oc0_0.one, oc1_0.flat, oc1_0.one]
          try (with_reducible intro _)
          refine HFnF.wn3 (hx) z_n ⟨dn2_n, z_n2⟩ ⟨dn3_n2, dn3_n, z_n3⟩ ?_
          rintro r l_ gc ⟨yc_0, oc_0, rfl, rfl⟩ wc z_n z_n2 z_n3
          try simp (maxSteps := 1000000) -dsimp -implicitDefEqProofs only [go_sem, ↓reduceIte, keep65, ib65, mk65, Tryz.f65, upd_upd, upd_ne, en3_n2, fn3_n2, en_n2, fn_n2, en_n3, fn_n3, ea, hlt, oheap_some, onil_some, oc0_0.flat, oc0_0.one, oc1_0.flat, oc1_0.one, oc_0.flat, oc_0.one, OV.map_val, OV.map_val_nil, OV.val_v]
          repeat' (with_reducible first | refine And.intro (by first | omega | decide | rfl | trivial | exact Nat.le_of_eq (reps_len _ _).symm | exact Nat.le_of_eq (cells_len _).symm) ?_)
          intro m qm
          have dm_n3 : ¬ m = n3 := qm.1
          have em_n3 : (m = n3) = False := eq_false dm_n3
          have fm_n3 : (n3 = m) = False := eq_false (fun e => dm_n3 e.symm)
          have dn3_m : ¬ n3 = m := fun e => dm_n3 e.symm
          have dm_n2 : ¬ m = n2 := qm.2.1
          have em_n2 : (m = n2) = False := eq_false dm_n2
          have fm_n2 : (n2 = m) = False := eq_false (fun e => dm_n2 e.symm)
          have dn2_m : ¬ n2 = m := fun e => dm_n2 e.symm
          have dm_n : ¬ m = n := qm.2.2.1
          have em_n : (m = n) = False := eq_false dm_n
          have fm_n : (n = m) = False := eq_false (fun e => dm_n e.symm)
          have dn_m : ¬ n = m := fun e => dm_n e.symm
          have z_m := qm.2.2.2
          try simp (maxSteps := 1000000) -dsimp -implicitDefEqProofs only [go_sem, ↓reduceIte, keep65, ib65, mk65, Tryz.f65, upd_upd, upd_ne, en3_n2, fn3_n2, en_n2, fn_n2, en_n3, fn_n3, em_n3, fm_n3, em_n2, fm_n2, em_n, fm_n, ea, hlt, oheap_some, onil_some, oc0_0.flat, oc0_0.one, oc1_0.flat, oc1_0.one, oc_0.flat, oc_0.one, OV.map_val, OV.map_val_nil, OV.val_v]
          refine ⟨(k + 1, es ++ [[yc_0]], gc, some m), ?_⟩
          simp only
          refine ⟨?_, (by intro q_; simp only [upd_get, oheap_none, oheap_some, onil_none, onil_some, take_cells, cells_snoc, cells_one, cells_nil, cellv_cons, cellv_nil, OV.val_v, List.nil_append, List.length_append, List.length_cons, List.length_nil, Nat.zero_add]; grind), ⟨by omega, OR.snoc hor hlt ⟨yc_0, rfl, oc_0⟩, hnew.snoc (by simpa only [OV.row_cons, OV.row_nil, List.append_nil] using wc), z_n2, z_n3, z_m, (fun n_ e_ => by obtain rfl := Option.some.inj e_; exact ⟨dm_n2, dm_n3⟩)⟩, by omega⟩
          all_goals (repeat' (with_reducible refine And.intro ?_ ?_))
          all_goals first | rfl | trivial | (rw [IntWalk.i64_in _ (by omega)]; omega)
      · have hk2 : k = x.fTerms.length := by omega
        subst hk2
        rw [List.take_length] at hor
        have zz_n2 : oheap g_ (.row 1 (OV.cells es)) o_ n2 = none := oheap_at z_n2 fun n_ e_ => (hon n_ e_).1
        have zz_n3 : oheap g_ (.row 1 (OV.cells es)) o_ n3 = none := oheap_at z_n3 fun n_ e_ => (hon n_ e_).2
        try simp (maxSteps := 1000000) -dsimp -implicitDefEqProofs only [go_sem, ↓reduceIte, keep65, ib65, mk65, Tryz.f65, upd_upd, upd_ne, en3_n2, fn3_n2, onil_flat, onil_cells, oc0_0.flat, oc0_0.one, oc1_0.flat, oc1_0.one, Nat.lt_irrefl]
        try (with_reducible intro _)
        refine ⟨_, (oheap g_ (.row 1 (OV.cells es)) o_), _, Shift.of (Sub.agg (SubL.cons (Sub.refl _) (SubL.cons (Sub.refl _) (SubL.cons (Sub.refl _) (SubL.cons (Sub.refl _) (SubL.cons gov_sub SubL.nil)))))) (by intro q_; simp only [upd_get, oheap_none, oheap_some, onil_none, onil_some, take_cells, cells_snoc, cells_one, cells_nil, cellv_cons, cellv_nil, OV.val_v, List.nil_append, List.length_append, List.length_cons, List.length_nil, Nat.zero_add]; grind), ⟨[yc0_0, .v (I x.fFunc), .v (I x.fShared), yc1_0, (gov 1 es o_)], ?_, rfl, rfl⟩, ?_⟩
        · exact ⟨yc0_0, yc1_0, (gov 1 es o_), rfl, oc0_0, oc1_0, gov_os hor hos⟩
        · have hq := (New.append (New.append wc0 wc1) (gov_new (sz := 1) hnew hos))
          simpa only [OV.row_cons, OV.row_nil, OV.v_rows, List.nil_append, List.append_nil, List.append_assoc] using hq
  ·
    intro n3 qn3
    have dn3_n2 : ¬ n3 = n2 := qn3.1
    have en3_n2 : (n3 = n2) = False := eq_false dn3_n2
    have fn3_n2 : (n2 = n3) = False := eq_false (fun e => dn3_n2 e.symm)
    have dn2_n3 : ¬ n2 = n3 := fun e => dn3_n2 e.symm
    have z_n3 := qn3.2
    try simp (maxSteps := 1000000) -dsimp -implicitDefEqProofs only [go_sem, ↓reduceIte, keep65, ib65, mk65, Tryz.f65, upd_upd, upd_ne, en3_n2, fn3_n2, OV.map_val, OV.map_val_nil, OV.val_v]
    refine HFnF.wn2 ((cloneProgram x.fProgram (by omega))) z_n2 ⟨dn3_n2, z_n3⟩ ?_
    rintro r l_ gc0 ⟨e_c0, oec0, rfl, rfl⟩ wc0 z_n2 z_n3
    have ooc0 := oec0
    obtain ⟨yc0_0, rfl, oc0_0⟩ := ooc0
    try simp (maxSteps := 1000000) -dsimp -implicitDefEqProofs only [go_sem, ↓reduceIte, keep65, ib65, mk65, Tryz.f65, upd_upd, upd_ne, en3_n2, fn3_n2, oc0_0.flat, oc0_0.one, OV.map_val, OV.map_val_nil, OV.val_v]
    refine HFnF.wn2 (cloneI x.fPoint (by omega)) z_n2 ⟨dn3_n2, z_n3⟩ ?_
    rintro r l_ gc1 ⟨yc1_0, oc1_0, rfl, rfl⟩ wc1 z_n2 z_n3
    try simp (maxSteps := 1000000) -dsimp -implicitDefEqProofs only [go_sem, ↓reduceIte, keep65, ib65, mk65, Tryz.f65, upd_upd, upd_ne, en3_n2, fn3_n2, oc0_0.flat, oc0_0.one, oc1_0.flat, oc1_0.one, OV.map_val, OV.map_val_nil, OV.val_v]
    repeat' (with_reducible first | refine And.intro (by first | omega | decide | rfl | trivial | exact Nat.le_of_eq (reps_len _ _).symm | exact Nat.le_of_eq (cells_len _).symm) ?_)
    try (with_reducible intro _)
    refine loopF (keep := keep65) (ib := ib65) (mk := mk65) mix (by kernel_rfl) (fun s : Nat × List (List OV) × Heap × Option Nat => [(2, .op n2 5 0 0), (3, .op n3 5 0 0), (18, sls 1 (fun l => [sls 1 (fun n => [I n]) l]) x.fTerms), (19, I x.fTerms.length), (20, (I s.1))]) (fun s => (upd (upd (oheap s.2.2.1 (.row 1 (OV.cells s.2.1)) s.2.2.2) n2 (.row 5 [[.v (.nilsl), .v (.int .i64 0), .v (.int .i64 0), .v (.nilsl), .v (.nilsl)]])) n3 (.row 5 [[.v (yc0_0.val), .v (I x.fFunc), .v (I x.fShared), .v (yc1_0.val), .v (onil 1 s.2.1.length s.2.2.2)]]))) (fun s => s.1 ≤ x.fTerms.length ∧ OR (oS (oP I) 1) (x.fTerms.take s.1) s.2.1 ∧ New gc1 (OV.rowsRows s.2.1) s.2.2.1 ∧ s.2.2.1 n2 = none ∧ s.2.2.1 n3 = none ∧ gside s.2.2.1 s.2.1 s.2.2.2 ∧ ∀ n : Nat, s.2.2.2 = some n → n ≠ n2 ∧ n ≠ n3) (fun s => x.fTerms.length - s.1) (0, [], gc1, none) ?_ ?_
    · exact ⟨by simp [SatL, tget], (by intro q_; simp only [upd_get, oheap_none, oheap_some, onil_none, onil_some, take_cells, cells_snoc, cells_one, cells_nil, cellv_cons, cellv_nil, OV.val_v, List.nil_append, List.length_append, List.length_cons, List.length_nil, Nat.zero_add]; grind), Nat.zero_le _, trivial, New.nil _, z_n2, z_n3, rfl, by simp⟩
    rintro ⟨k, es, g_, o_⟩ ⟨hkk, hor, hnew, z_n2, z_n3, hos, hon⟩
    simp only at hkk hor hnew z_n2 z_n3 hos hon ⊢
    have hlen : es.length = k := by have := hor.length; simp at this; omega
    rcases Nat.lt_or_ge k x.fTerms.length with hlt | hge
    · have ea : x.fTerms[k]? = some x.fTerms[k] := List.getElem?_eq_getElem hlt
      have hx := cloneI x.fTerms[k] (by have := sum_mem (fun x : List Int => x.length) (List.getElem_mem hlt); (try simp only at this); omega)
      cases o_ with
      | none =>
        rw [gside_none] at hos
        subst hos
        try simp (maxSteps := 1000000) -dsimp -implicitDefEqProofs only [go_sem, ↓reduceIte, keep65, ib65, mk65, Tryz.f65, upd_upd, upd_ne, en3_n2, fn3_n2, ea, hlt, oheap_none, onil_none, oc0_0.flat, oc0_0.one, oc1_0.flat, oc1_0.one]
        try (with_reducible intro _)
        refine HFnF.wn2 (hx) z_n2 ⟨dn3_n2, z_n3⟩ ?_
        rintro r l_ gc ⟨yc_0, oc_0, rfl, rfl⟩ wc z_n2 z_n3
        try simp (maxSteps := 1000000) -dsimp -implicitDefEqProofs only [go_sem, ↓reduceIte, keep65, ib65, mk65, Tryz.f65, upd_upd, upd_ne, en3_n2, fn3_n2, ea, hlt, oheap_none, onil_none, oc0_0.flat, oc0_0.one, oc1_0.flat, oc1_0.one, oc_0.flat, oc_0.one, OV.map_val, OV.map_val_nil, OV.val_v]
        repeat' (with_reducible first | refine And.intro (by first | omega | decide | rfl | trivial | exact Nat.le_of_eq (reps_len _ _).symm | exact Nat.le_of_eq (cells_len _).symm) ?_)
        intro m qm
        have dm_n3 : ¬ m = n3 := qm.1
        have em_n3 : (m = n3) = False := eq_false dm_n3
        have fm_n3 : (n3 = m) = False := eq_false (fun e => dm_n3 e.symm)
        have dn3_m : ¬ n3 = m := fun e => dm_n3 e.symm
        have dm_n2 : ¬ m = n2 := qm.2.1
        have em_n2 : (m = n2) = False := eq_false dm_n2
        have fm_n2 : (n2 = m) = False := eq_false (fun e => dm_n2 e.symm)
        have dn2_m : ¬ n2 = m := fun e => dm_n2 e.symm
        have z_m := qm.2.2
        try simp (maxSteps := 1000000) -dsimp -implicitDefEqProofs only [go_sem, ↓reduceIte, keep65, ib65, mk65, Tryz.f65, upd_upd, upd_ne, en3_n2, fn3_n2, em_n3, fm_n3, em_n2, fm_n2, ea, hlt, oheap_none, onil_none, oc0_0.flat, oc0_0.one, oc1_0.flat, oc1_0.one, oc_0.flat, oc_0.one, OV.map_val, OV.map_val_nil, OV.val_v]
        refine ⟨(k + 1, ([] : List (List OV)) ++ [[yc_0]], gc, some m), ?_⟩
        simp only
        refine ⟨?_, (by intro q_; simp only [upd_get, oheap_none, oheap_some, onil_none, onil_some, take_cells, cells_snoc, cells_one, cells_nil, cellv_cons, cellv_nil, OV.val_v, List.nil_append, List.length_append, List.length_cons, List.length_nil, Nat.zero_add]; grind), ⟨by omega, OR.snoc hor hlt ⟨yc_0, rfl, oc_0⟩, hnew.snoc (by simpa only [OV.row_cons, OV.row_nil, List.append_nil] using wc), z_n2, z_n3, z_m, (fun n_ e_ => by obtain rfl := Option.some.inj e_; exact ⟨dm_n2, dm_n3⟩)⟩, by omega⟩
        all_goals (repeat' (with_reducible refine And.intro ?_ ?_))
        all_goals first | rfl | trivial | (rw [IntWalk.i64_in _ (by omega)]; omega)
      | some n =>
        rw [gside_some] at hos
        have z_n := hos
        have hn := hon n rfl
        have dn_n2 : ¬ n = n2 := hn.1
        have en_n2 : (n = n2) = False := eq_false dn_n2
        have fn_n2 : (n2 = n) = False := eq_false (fun e => dn_n2 e.symm)
        have dn2_n : ¬ n2 = n := fun e => dn_n2 e.symm
        have dn_n3 : ¬ n = n3 := hn.2
        have en_n3 : (n = n3) = False := eq_false dn_n3
        have fn_n3 : (n3 = n) = False := eq_false (fun e => dn_n3 e.symm)
        have dn3_n : ¬ n3 = n := fun e => dn_n3 e.symm
        try simp (maxSteps := 1000000) -dsimp -implicitDefEqProofs only [go_sem, ↓reduceIte, keep65, ib65, mk65, Tryz.f65, upd_upd, upd_ne, en3_n2, fn3_n2, en_n2, fn_n2, en_n3, fn_n3, ea, hlt, oheap_some, onil_some, oc0_0.flat, oc0_0.one, oc1_0.flat, oc1_0.one]
        try (with_reducible intro _)
        refine HFnF.wn3 (hx) z_n ⟨dn2_n, z_n2⟩ ⟨dn3_n2, dn3_n, z_n3⟩ ?_
        rintro r l_ gc ⟨yc_0, oc_0, rfl, rfl⟩ wc z_n z_n2 z_n3
        try simp (maxSteps := 1000000) -dsimp -implicitDefEqProofs only [go_sem, ↓reduceIte, keep65, ib65, mk65, Tryz.f65, upd_upd, upd_ne, en3_n2, fn3_n2, en_n2, fn_n2, en_n3, fn_n3, ea, hlt, oheap_some, onil_some, oc0_0.flat, oc0_0.one, oc1_0.flat, oc1_0.one, oc_0.flat, oc_0.one, OV.map_val, OV.map_val_nil, OV.val_v]
        repeat' (with_reducible first | refine And.intro (by first | omega | decide | rfl | trivial | exact Nat.le_of_eq (reps_len _ _).symm | exact Nat.le_of_eq (cells_len _).symm) ?_)
        intro m qm
        have dm_n3 : ¬ m = n3 := qm.1
        have em_n3 : (m = n3) = False := eq_false dm_n3
        have fm_n3 : (n3 = m) = False := eq_false (fun e => dm_n3 e.symm)
        have dn3_m : ¬ n3 = m := fun e => dm_n3 e.symm
        have dm_n2 : ¬ m = n2 := qm.2.1
        have em_n2 : (m = n2) = False := eq_false dm_n2
        have fm_n2 : (n2 = m) = False := eq_false (fun e => dm_n2 e.symm)
        have dn2_m : ¬ n2 = m := fun e => dm_n2 e.symm
        have dm_n : ¬ m = n := qm.2.2.1
        have em_n : (m = n) = False := eq_false dm_n
        have fm_n : (n = m) = False := eq_false (fun e => dm_n e.symm)
        have dn_m : ¬ n = m := fun e => dm_n e.symm
        have z_m := qm.2.2.2
        try simp (maxSteps := 1000000) -dsimp -implicitDefEqProofs only [go_sem, ↓reduceIte, keep65, ib65, mk65, Tryz.f65, upd_upd, upd_ne, en3_n2, fn3_n2, en_n2, fn_n2, en_n3, fn_n3, em_n3, fm_n3, em_n2, fm_n2, em_n, fm_n, ea, hlt, oheap_some, onil_some, oc0_0.flat, oc0_0.one, oc1_0.flat, oc1_0.one, oc_0.flat, oc_0.one, OV.map_val, OV.map_val_nil, OV.val_v]
        refine ⟨(k + 1, es ++ [[yc_0]], gc, some m), ?_⟩
        simp only
        refine ⟨?_, (by intro q_; simp only [upd_get, oheap_none, oheap_some, onil_none, onil_some, take_cells, cells_snoc, cells_one, cells_nil, cellv_cons, cellv_nil, OV.val_v, List.nil_append, List.length_append, List.length_cons, List.length_nil, Nat.zero_add]; grind), ⟨by omega, OR.snoc hor hlt ⟨yc_0, rfl, oc_0⟩, hnew.snoc (by simpa only [OV.row_cons, OV.row_nil, List.append_nil] using wc), z_n2, z_n3, z_m, (fun n_ e_ => by obtain rfl := Option.some.inj e_; exact ⟨dm_n2, dm_n3⟩)⟩, by omega⟩
        all_goals (repeat' (with_reducible refine And.intro ?_ ?_))
        all_goals first | rfl | trivial | (rw [IntWalk.i64_in _ (by omega)]; omega)
    · have hk2 : k = x.fTerms.length := by omega
      subst hk2
      rw [List.take_length] at hor
      have zz_n2 : oheap g_ (.row 1 (OV.cells es)) o_ n2 = none := oheap_at z_n2 fun n_ e_ => (hon n_ e_).1
      have zz_n3 : oheap g_ (.row 1 (OV.cells es)) o_ n3 = none := oheap_at z_n3 fun n_ e_ => (hon n_ e_).2
      try simp (maxSteps := 1000000) -dsimp -implicitDefEqProofs only [go_sem, ↓reduceIte, keep65, ib65, mk65, Tryz.f65, upd_upd, upd_ne, en3_n2, fn3_n2, onil_flat, onil_cells, oc0_0.flat, oc0_0.one, oc1_0.flat, oc1_0.one, Nat.lt_irrefl]
      try (with_reducible intro _)
      refine ⟨_, (oheap g_ (.row 1 (OV.cells es)) o_), _, Shift.of (Sub.agg (SubL.cons (Sub.refl _) (SubL.cons (Sub.refl _) (SubL.cons (Sub.refl _) (SubL.cons (Sub.refl _) (SubL.cons gov_sub SubL.nil)))))) (by intro q_; simp only [upd_get, oheap_none, oheap_some, onil_none, onil_some, take_cells, cells_snoc, cells_one, cells_nil, cellv_cons, cellv_nil, OV.val_v, List.nil_append, List.length_append, List.length_cons, List.length_nil, Nat.zero_add]; grind), ⟨[yc0_0, .v (I x.fFunc), .v (I x.fShared), yc1_0, (gov 1 es o_)], ?_, rfl, rfl⟩, ?_⟩
      · exact ⟨yc0_0, yc1_0, (gov 1 es o_), rfl, oc0_0, oc1_0, gov_os hor hos⟩
      · have hq := (New.append (New.append wc0 wc1) (gov_new (sz := 1) hnew hos))
        simpa only [OV.row_cons, OV.row_nil, OV.v_rows, List.nil_append, List.append_nil, List.append_assoc] using hq

def keep59 : List Nat := [0, 2, 3, 4, 29]
def ib59 : List Nat := [42]
def mk59 : Marks := fun id => match id with | 1 => ([3, 16, 18, 19], (.op 0 (.op 1 (.op 2 (.op 4 (.op 5 (.op 6 (.op 7 (.op 8 (.op 9 (.op 10 (.op 11 (.op 12 (.op 13 (.op 14 (.op 15 (.alt 3 (.alt 16 (.op 17 (.op 18 (.op 19 .nil))) 18 (.op 16 (.op 17 (.op 19 .nil)))) 18 (.op 3 (.op 16 (.op 17 (.op 19 .nil)))))))))))))))))))), []) | 5 => ([1, 9, 11, 13], (.op 0 (.op 2 (.op 3 (.op 4 (.op 5 (.op 6 (.op 7 (.op 8 (.op 1 (.op 9 (.op 10 (.op 11 (.op 12 (.op 13 .nil)))))))))))))), [(1, 9)]) | _ => ([], .nil, [])
set_option maxRecDepth 100000 in
set_option maxHeartbeats 1000000 in
theorem l08OwnJob (x : DJob) (hs : x.s ≤ 1048576) : FnN Tryz.prog 59 [.ip 5 [x.c] 0 0] (QA x.o) := by
  have hs' := x.s_eq
  have hs2 := x.fProgram.s_eq
  try simp only [szs_eq] at hs'
  simp only [DJob.c_eq]
  refine fnNF 46 keep59 ib59 mk59 mix Tryz.func59 rfl (by kernel_rfl) (by simp) fun h => ?_
  try simp (maxSteps := 1000000) -dsimp -implicitDefEqProofs only [go_sem, ↓reduceIte, keep59, ib59, mk59, Tryz.f59, upd_upd, upd_ne]
  intro n2 qn2
  have z_n2 := qn2
  try simp (maxSteps := 1000000) -dsimp -implicitDefEqProofs only [go_sem, ↓reduceIte, keep59, ib59, mk59, Tryz.f59, upd_upd, upd_ne]
  try (with_reducible refine And.intro Nat.zero_lt_one ?_)
  refine ⟨?_, ?_⟩
  ·
    refine HFnF.wn1 (FnN.sub (by repeat' (first | exact SubL.nil | refine SubL.cons ?_ ?_ | exact Sub.refl _ | (rw [DExpr.c_eq]; exact Sub.refl _) | exact Sub.ipAt rfl rfl rfl | exact Sub.ip (map_get (by omega)) (by simp) | exact Sub.ipAt (map_get (by omega)) rfl rfl | exact Sub.ip (by simp [*]) (by simp) | exact Sub.ipAt (by simp [*]) (by rfl) (by rfl))) (l02OwnProgram x.fProgram (by omega))) z_n2 ?_
    rintro r l_ gc0 ⟨e_c0, oec0, rfl, rfl⟩ wc0 z_n2
    have ooc0 := oec0
    obtain ⟨yc0_0, rfl, oc0_0⟩ := ooc0
    try simp (maxSteps := 1000000) -dsimp -implicitDefEqProofs only [go_sem, ↓reduceIte, keep59, ib59, mk59, Tryz.f59, upd_upd, upd_ne, oc0_0.flat, oc0_0.one, OV.map_val, OV.map_val_nil, OV.val_v]
    try (with_reducible refine And.intro Nat.zero_lt_one ?_)
    refine ⟨?_, ?_⟩
    ·
      refine HFnF.wn1 (l00Own x.fPoint (by omega)) z_n2 ?_
      rintro r l_ gc1 ⟨yc1_0, oc1_0, rfl, rfl⟩ wc1 z_n2
      try simp (maxSteps := 1000000) -dsimp -implicitDefEqProofs only [go_sem, ↓reduceIte, keep59, ib59, mk59, Tryz.f59, upd_upd, upd_ne, oc0_0.flat, oc0_0.one, oc1_0.flat, oc1_0.one, OV.map_val, OV.map_val_nil, OV.val_v]
      repeat' (with_reducible first | refine And.intro (by first | omega | decide | rfl | trivial | exact Nat.le_of_eq (reps_len _ _).symm | exact Nat.le_of_eq (cells_len _).symm) ?_)
      intro n3 qn3
      have dn3_n2 : ¬ n3 = n2 := qn3.1
      have en3_n2 : (n3 = n2) = False := eq_false dn3_n2
      have fn3_n2 : (n2 = n3) = False := eq_false (fun e => dn3_n2 e.symm)
      have dn2_n3 : ¬ n2 = n3 := fun e => dn3_n2 e.symm
      have z_n3 := qn3.2
      try simp (maxSteps := 1000000) -dsimp -implicitDefEqProofs only [go_sem, ↓reduceIte, keep59, ib59, mk59, Tryz.f59, upd_upd, upd_ne, en3_n2, fn3_n2, oc0_0.flat, oc0_0.one, oc1_0.flat, oc1_0.one, OV.map_val, OV.map_val_nil, OV.val_v]
      try (with_reducible intro _)
      refine loopF (keep := keep59) (ib := ib59) (mk := mk59) mix (by kernel_rfl) (fun s : Nat × List (List OV) × Heap × Option Nat => [(0, .ip 5 [[sls 3 DFunc.c x.fProgram.fFuncs, I x.fFunc, I x.fShared, sls 1 (fun n => [I n]) x.fPoint, sls 1 (fun l => [sls 1 (fun n => [I n]) l]) x.fTerms]] 0 0), (2, .op n2 5 0 0), (3, .op n3 5 0 0), (4, (I s.1))]) (fun s => (upd (upd (oheap s.2.2.1 (.row 1 (OV.cells s.2.1)) s.2.2.2) n2 (.row 5 [[.v (.nilsl), .v (.int .i64 0), .v (.int .i64 0), .v (.nilsl), .v (.nilsl)]])) n3 (.row 5 [[.v (yc0_0.val), .v (I x.fFunc), .v (I x.fShared), .v (yc1_0.val), .v (onil 1 s.2.1.length s.2.2.2)]]))) (fun s => s.1 ≤ x.fTerms.length ∧ OR (oS (oP I) 1) (x.fTerms.take s.1) s.2.1 ∧ New gc1 (OV.rowsRows s.2.1) s.2.2.1 ∧ s.2.2.1 n2 = none ∧ s.2.2.1 n3 = none ∧ gside s.2.2.1 s.2.1 s.2.2.2 ∧ ∀ n : Nat, s.2.2.2 = some n → n ≠ n2 ∧ n ≠ n3) (fun s => x.fTerms.length - s.1) (0, [], gc1, none) ?_ ?_
      · exact ⟨by simp [SatL, tget], (by intro q_; simp only [upd_get, oheap_none, oheap_some, onil_none, onil_some, take_cells, cells_snoc, cells_one, cells_nil, cellv_cons, cellv_nil, OV.val_v, List.nil_append, List.length_append, List.length_cons, List.length_nil, Nat.zero_add]; grind), Nat.zero_le _, trivial, New.nil _, z_n2, z_n3, rfl, by simp⟩
      rintro ⟨k, es, g_, o_⟩ ⟨hkk, hor, hnew, z_n2, z_n3, hos, hon⟩
      simp only at hkk hor hnew z_n2 z_n3 hos hon ⊢
      have hlen : es.length = k := by have := hor.length; simp at this; omega
      rcases Nat.lt_or_ge k x.fTerms.length with hlt | hge
      · have ea : x.fTerms[k]? = some x.fTerms[k] := List.getElem?_eq_getElem hlt
        have hx := l00Own x.fTerms[k] (by have := sum_mem (fun x : List Int => x.length) (List.getElem_mem hlt); (try simp only at this); omega)
        cases o_ with
        | none =>
          rw [gside_none] at hos
          subst hos
          try simp (maxSteps := 1000000) -dsimp -implicitDefEqProofs only [go_sem, ↓reduceIte, keep59, ib59, mk59, Tryz.f59, upd_upd, upd_ne, en3_n2, fn3_n2, ea, hlt, oheap_none, onil_none, oc0_0.flat, oc0_0.one, oc1_0.flat, oc1_0.one]
          try (with_reducible intro _)
          refine HFnF.wn2 (hx) z_n2 ⟨dn3_n2, z_n3⟩ ?_
          rintro r l_ gc ⟨yc_0, oc_0, rfl, rfl⟩ wc z_n2 z_n3
          try simp (maxSteps := 1000000) -dsimp -implicitDefEqProofs only [go_sem, ↓reduceIte, keep59, ib59, mk59, Tryz.f59, upd_upd, upd_ne, en3_n2, fn3_n2, ea, hlt, oheap_none, onil_none, oc0_0.flat, oc0_0.one, oc1_0.flat, oc1_0.one, oc_0.flat, oc_0.one, OV.map_val, OV.map_val_nil, OV.val_v]
          repeat' (with_reducible first | refine And.intro (by first | omega | decide | rfl | trivial | exact Nat.le_of_eq (reps_len _ _).symm | exact Nat.le_of_eq (cells_len _).symm) ?_)
          intro m qm
          have dm_n3 : ¬ m = n3 := qm.1
          have em_n3 : (m = n3) = False := eq_false dm_n3
          have fm_n3 : (n3 = m) = False := eq_false (fun e => dm_n3 e.symm)
          have dn3_m : ¬ n3 = m := fun e => dm_n3 e.symm
          have dm_n2 : ¬ m = n2 := qm.2.1
          have em_n2 : (m = n2) = False := eq_false dm_n2
          have fm_n2 : (n2 = m) = False := eq_false (fun e => dm_n2 e.symm)
          have dn2_m : ¬ n2 = m := fun e => dm_n2 e.symm
          have z_m := qm.2.2
          try simp (maxSteps := 1000000) -dsimp -implicitDefEqProofs only [go_sem, ↓reduceIte, keep59, ib59, mk59, Tryz.f59, upd_upd, upd_ne, en3_n2, fn3_n2, em_n3, fm_n3, em_n2, fm_n2, ea, hlt, oheap_none, onil_none, oc0_0.flat, oc0_0.one, oc1_0.flat, oc1_0.one, oc_0.flat, oc_0.one, OV.map_val, OV.map_val_nil, OV.val_v]
          refine ⟨(k + 1, ([] : List (List OV)) ++ [[yc_0]], gc, some m), ?_⟩
          simp only
          refine ⟨?_, (by intro q_; simp only [upd_get, oheap_none, oheap_some, onil_none, onil_some, take_cells, cells_snoc, cells_one, cells_nil, cellv_cons, cellv_nil, OV.val_v, List.nil_append, List.length_append, List.length_cons, List.length_nil, Nat.zero_add]; grind), ⟨by omega, OR.snoc hor hlt ⟨yc_0, rfl, oc_0⟩, hnew.snoc (by simpa only [OV.row_cons, OV.row_nil, List.append_nil] using wc), z_n2, z_n3, z_m, (fun n_ e_ => by obtain rfl := Option.some.inj e_; exact ⟨dm_n2, dm_n3⟩)⟩, by omega⟩
          all_goals (repeat' (with_reducible refine And.intro ?_ ?_))
          all_goals first | rfl | trivial | (rw [IntWalk.i64_in _ (by omega)]; omega)
        | some n =>
          rw [gside_some] at hos
          have z_n := hos
          have hn := hon n rfl
          have dn_n2 : ¬ n = n2 := hn.1
          have en_n2 : (n = n2) = False := eq_false dn_n2
          have fn_n2 : (n2 = n) = False := eq_false (fun e => dn_n2 e.symm)
          have dn2_n : ¬ n2 = n := fun e => dn_n2 e.symm
          have dn_n3 : ¬ n = n3 := hn.2
          have en_n3 : (n = n3) = False := eq_false dn_n3
          have fn_n3 : (n3 = n) = False := eq_false (fun e => dn_n3 e.symm)
          have dn3_n : ¬ n3 = n := fun e => dn_n3 e.symm
          try simp (maxSteps := 1000000) -dsimp -implicitDefEqProofs only [go_sem, ↓reduceIte, keep59, ib59, mk59, Tryz.f59, upd_upd, upd_ne, en3_n2, fn3_n2, en_n2, fn_n2, en_n3, fn_n3, ea, hlt, oheap_some, onil_some, oc0_0.flat, oc0_0.one, oc1_0.flat, oc1_0.one]
          try (with_reducible intro _)
          refine HFnF.wn3 (hx) z_n ⟨dn2_n, z_n2⟩ ⟨dn3_n2, dn3_n, z_n3⟩ ?_
          rintro r l_ gc ⟨yc_0, oc_0, rfl, rfl⟩ wc z_n z_n2 z_n3
          try simp (maxSteps := 1000000) -dsimp -implicitDefEqProofs only [go_sem, ↓reduceIte, keep59, ib59, mk59, Tryz.f59, upd_upd, upd_ne, en3_n2, fn3_n2, en_n2, fn_n2, en_n3, fn_n3, ea, hlt, oheap_some, onil_some, oc0_0.flat, oc0_0.one, oc1_0.flat, oc1_0.one, oc_0.flat, oc_0.one, OV.map_val, OV.map_val_nil, OV.val_v]
          repeat' (with_reducible first | refine And.intro (by first | omega | decide | rfl | trivial | exact Nat.le_of_eq (reps_len _ _).symm | exact Nat.le_of_eq (cells_len _).symm) ?_)
          intro m qm
          have dm_n3 : ¬ m = n3 := qm.1
          have em_n3 : (m = n3) = False := eq_false dm_n3
          have fm_n3 : (n3 = m) = False := eq_false (fun e => dm_n3 e.symm)
          have dn3_m : ¬ n3 = m := fun e => dm_n3 e.symm
          have dm_n2 : ¬ m = n2 := qm.2.1
          have em_n2 : (m = n2) = False := eq_false dm_n2
          have fm_n2 : (n2 = m) = False := eq_false (fun e => dm_n2 e.symm)
          have dn2_m : ¬ n2 = m := fun e => dm_n2 e.symm
          have dm_n : ¬ m = n := qm.2.2.1
          have em_n : (m = n) = False := eq_false dm_n
          have fm_n : (n = m) = False := eq_false (fun e => dm_n e.symm)
          have dn_m : ¬ n = m := fun e => dm_n e.symm
          have z_m := qm.2.2.2
          try simp (maxSteps := 1000000) -dsimp -implicitDefEqProofs only [go_sem, ↓reduceIte, keep59, ib59, mk59, Tryz.f59, upd_upd, upd_ne, en3_n2, fn3_n2, en_n2, fn_n2, en_n3, fn_n3, em_n3, fm_n3, em_n2, fm_n2, em_n, fm_n, ea, hlt, oheap_some, onil_some, oc0_0.flat, oc0_0.one, oc1_0.flat, oc1_0.one, oc_0.flat, oc_0.one, OV.map_val, OV.map_val_nil, OV.val_v]
          refine ⟨(k + 1, es ++ [[yc_0]], gc, some m), ?_⟩
          simp only
          refine ⟨?_, (by intro q_; simp only [upd_get, oheap_none, oheap_some, onil_none, onil_some, take_cells, cells_snoc, cells_one, cells_nil, cellv_cons, cellv_nil, OV.val_v, List.nil_append, List.length_append, List.length_cons, List.length_nil, Nat.zero_add]; grind), ⟨by omega, OR.snoc hor hlt ⟨yc_0, rfl, oc_0⟩, hnew.snoc (by simpa only [OV.row_cons, OV.row_nil, List.append_nil] using wc), z_n2, z_n3, z_m, (fun n_ e_ => by obtain rfl := Option.some.inj e_; exact ⟨dm_n2, dm_n3⟩)⟩, by omega⟩
          all_goals (repeat' (with_reducible refine And.intro ?_ ?_))
          all_goals first | rfl | trivial | (rw [IntWalk.i64_in _ (by omega)]; omega)
      · have hk2 : k = x.fTerms.length := by omega
        subst hk2
        rw [List.take_length] at hor
        have zz_n2 : oheap g_ (.row 1 (OV.cells es)) o_ n2 = none := oheap_at z_n2 fun n_ e_ => (hon n_ e_).1
        have zz_n3 : oheap g_ (.row 1 (OV.cells es)) o_ n3 = none := oheap_at z_n3 fun n_ e_ => (hon n_ e_).2
        try simp (maxSteps := 1000000) -dsimp -implicitDefEqProofs only [go_sem, ↓reduceIte, keep59, ib59, mk59, Tryz.f59, upd_upd, upd_ne, en3_n2, fn3_n2, onil_flat, onil_cells, oc0_0.flat, oc0_0.one, oc1_0.flat, oc1_0.one, Nat.lt_irrefl]
        try (with_reducible intro _)
        refine ⟨_, (oheap g_ (.row 1 (OV.cells es)) o_), _, Shift.of (Sub.agg (SubL.cons (Sub.refl _) (SubL.cons (Sub.refl _) (SubL.cons (Sub.refl _) (SubL.cons (Sub.refl _) (SubL.cons gov_sub SubL.nil)))))) (by intro q_; simp only [upd_get, oheap_none, oheap_some, onil_none, onil_some, take_cells, cells_snoc, cells_one, cells_nil, cellv_cons, cellv_nil, OV.val_v, List.nil_append, List.length_append, List.length_cons, List.length_nil, Nat.zero_add]; grind), ⟨[yc0_0, .v (I x.fFunc), .v (I x.fShared), yc1_0, (gov 1 es o_)], ?_, rfl, rfl⟩, ?_⟩
        · exact ⟨yc0_0, yc1_0, (gov 1 es o_), rfl, oc0_0, oc1_0, gov_os hor hos⟩
        · have hq := (New.append (New.append wc0 wc1) (gov_new (sz := 1) hnew hos))
          simpa only [OV.row_cons, OV.row_nil, OV.v_rows, List.nil_append, List.append_nil, List.append_assoc] using hq
    ·
      intro n3 qn3
      have dn3_n2 : ¬ n3 = n2 := qn3.1
      have en3_n2 : (n3 = n2) = False := eq_false dn3_n2
      have fn3_n2 : (n2 = n3) = False := eq_false (fun e => dn3_n2 e.symm)
      have dn2_n3 : ¬ n2 = n3 := fun e => dn3_n2 e.symm
      have z_n3 := qn3.2
      try simp (maxSteps := 1000000) -dsimp -implicitDefEqProofs only [go_sem, ↓reduceIte, keep59, ib59, mk59, Tryz.f59, upd_upd, upd_ne, en3_n2, fn3_n2, oc0_0.flat, oc0_0.one, OV.map_val, OV.map_val_nil, OV.val_v]
      refine HFnF.wn2 (l00Own x.fPoint (by omega)) z_n2 ⟨dn3_n2, z_n3⟩ ?_
      rintro r l_ gc1 ⟨yc1_0, oc1_0, rfl, rfl⟩ wc1 z_n2 z_n3
      try simp (maxSteps := 1000000) -dsimp -implicitDefEqProofs only [go_sem, ↓reduceIte, keep59, ib59, mk59, Tryz.f59, upd_upd, upd_ne, en3_n2, fn3_n2, oc0_0.flat, oc0_0.one, oc1_0.flat, oc1_0.one, OV.map_val, OV.map_val_nil, OV.val_v]
      repeat' (with_reducible first | refine And.intro (by first | omega | decide | rfl | trivial | exact Nat.le_of_eq (reps_len _ _).symm | exact Nat.le_of_eq (cells_len _).symm) ?_)
      try (with_reducible intro _)
      refine loopF (keep := keep59) (ib := ib59) (mk := mk59) mix (by kernel_rfl) (fun s : Nat × List (List OV) × Heap × Option Nat => [(0, .ip 5 [[sls 3 DFunc.c x.fProgram.fFuncs, I x.fFunc, I x.fShared, sls 1 (fun n => [I n]) x.fPoint, sls 1 (fun l => [sls 1 (fun n => [I n]) l]) x.fTerms]] 0 0), (2, .op n2 5 0 0), (3, .op n3 5 0 0), (4, (I s.1))]) (fun s => (upd (upd (oheap s.2.2.1 (.row 1 (OV.cells s.2.1)) s.2.2.2) n2 (.row 5 [[.v (.nilsl), .v (.int .i64 0), .v (.int .i64 0), .v (.nilsl), .v (.nilsl)]])) n3 (.row 5 [[.v (yc0_0.val), .v (I x.fFunc), .v (I x.fShared), .v (yc1_0.val), .v (onil 1 s.2.1.length s.2.2.2)]]))) (fun s => s.1 ≤ x.fTerms.length ∧ OR (oS (oP I) 1) (x.fTerms.take s.1) s.2.1 ∧ New gc1 (OV.rowsRows s.2.1) s.2.2.1 ∧ s.2.2.1 n2 = none ∧ s.2.2.1 n3 = none ∧ gside s.2.2.1 s.2.1 s.2.2.2 ∧ ∀ n : Nat, s.2.2.2 = some n → n ≠ n2 ∧ n ≠ n3) (fun s => x.fTerms.length - s.1) (0, [], gc1, none) ?_ ?_
      · exact ⟨by simp [SatL, tget], (by intro q_; simp only [upd_get, oheap_none, oheap_some, onil_none, onil_some, take_cells, cells_snoc, cells_one, cells_nil, cellv_cons, cellv_nil, OV.val_v, List.nil_append, List.length_append, List.length_cons, List.length_nil, Nat.zero_add]; grind), Nat.zero_le _, trivial, New.nil _, z_n2, z_n3, rfl, by simp⟩
      rintro ⟨k, es, g_, o_⟩ ⟨hkk, hor, hnew, z_n2, z_n3, hos, hon⟩
      simp only at hkk hor hnew z_n2 z_n3 hos hon ⊢
      have hlen : es.length = k := by have := hor.length; simp at this; omega
      rcases Nat.lt_or_ge k x.fTerms.length with hlt | hge
      · have ea : x.fTerms[k]? = some x.fTerms[k] := List.getElem?_eq_getElem hlt
        have hx := l00Own x.fTerms[k] (by have := sum_mem (fun x : List Int => x.length) (List.getElem_mem hlt); (try simp only at this); omega)
        cases o_ with
        | none =>
          rw [gside_none] at hos
          subst hos
          try simp (maxSteps := 1000000) -dsimp -implicitDefEqProofs only [go_sem, ↓reduceIte, keep59, ib59, mk59, Tryz.f59, upd_upd, upd_ne, en3_n2, fn3_n2, ea, hlt, oheap_none, onil_none, oc0_0.flat, oc0_0.one, oc1_0.flat, oc1_0.one]
          try (with_reducible intro _)
          refine HFnF.wn2 (hx) z_n2 ⟨dn3_n2, z_n3⟩ ?_
          rintro r l_ gc ⟨yc_0, oc_0, rfl, rfl⟩ wc z_n2 z_n3
          try simp (maxSteps := 1000000) -dsimp -implicitDefEqProofs only [go_sem, ↓reduceIte, keep59, ib59, mk59, Tryz.f59, upd_upd, upd_ne, en3_n2, fn3_n2, ea, hlt, oheap_none, onil_none, oc0_0.flat, oc0_0.one, oc1_0.flat, oc1_0.one, oc_0.flat, oc_0.one, OV.map_val, OV.map_val_nil, OV.val_v]
          repeat' (with_reducible first | refine And.intro (by first | omega | decide | rfl | trivial | exact Nat.le_of_eq (reps_len _ _).symm | exact Nat.le_of_eq (cells_len _).symm) ?_)
          intro m qm
          have dm_n3 : ¬ m = n3 := qm.1
          have em_n3 : (m = n3) = False := eq_false dm_n3
          have fm_n3 : (n3 = m) = False := eq_false (fun e => dm_n3 e.symm)
          have dn3_m : ¬ n3 = m := fun e => dm_n3 e.symm
          have dm_n2 : ¬ m = n2 := qm.2.1
          have em_n2 : (m = n2) = False := eq_false dm_n2
          have fm_n2 : (n2 = m) = False := eq_false (fun e => dm_n2 e.symm)
          have dn2_m : ¬ n2 = m := fun e => dm_n2 e.symm
          have z_m := qm.2.2
          try simp (maxSteps := 1000000) -dsimp -implicitDefEqProofs only [go_sem, ↓reduceIte, keep59, ib59, mk59, Tryz.f59, upd_upd, upd_ne, en3_n2, fn3_n2, em_n3, fm_n3, em_n2, fm_n2, ea, hlt, oheap_none, onil_none, oc0_0.flat, oc0_0.one, oc1_0.flat, oc1_0.one, oc_0.flat, oc_0.one, OV.map_val, OV.map_val_nil, OV.val_v]
          refine ⟨(k + 1, ([] : List (List OV)) ++ [[yc_0]], gc, some m), ?_⟩
          simp only
          refine ⟨?_, (by intro q_; simp only [upd_get, oheap_none, oheap_some, onil_none, onil_some, take_cells, cells_snoc, cells_one, cells_nil, cellv_cons, cellv_nil, OV.val_v, List.nil_append, List.length_append, List.length_cons, List.length_nil, Nat.zero_add]; grind), ⟨by omega, OR.snoc hor hlt ⟨yc_0, rfl, oc_0⟩, hnew.snoc (by simpa only [OV.row_cons, OV.row_nil, List.append_nil] using wc), z_n2, z_n3, z_m, (fun n_ e_ => by obtain rfl := Option.some.inj e_; exact ⟨dm_n2, dm_n3⟩)⟩, by omega⟩
          all_goals (repeat' (with_reducible refine And.intro ?_ ?_))
          all_goals first | rfl | trivial | (rw [IntWalk.i64_in _ (by omega)]; omega)
        | some n =>
          rw [gside_some] at hos
          have z_n := hos
          have hn := hon n rfl
          have dn_n2 : ¬ n = n2 := hn.1
          have en_n2 : (n = n2) = False := eq_false dn_n2
          have fn_n2 : (n2 = n) = False := eq_false (fun e => dn_n2 e.symm)
          have dn2_n : ¬ n2 = n := fun e => dn_n2 e.symm
          have dn_n3 : ¬ n = n3 := hn.2
          have en_n3 : (n = n3) = False := eq_false dn_n3
          have fn_n3 : (n3 = n) = False := eq_false (fun e => dn_n3 e.symm)
          have dn3_n : ¬ n3 = n := fun e => dn_n3 e.symm
          try simp (maxSteps := 1000000) -dsimp -implicitDefEqProofs only [go_sem, ↓reduceIte, keep59, ib59, mk59, Tryz.f59, upd_upd, upd_ne, en3_n2, fn3_n2, en_n2, fn_n2, en_n3, fn_n3, ea, hlt, oheap_some, onil_some, oc0_0.flat, oc0_0.one, oc1_0.flat, oc1_0.one]
          try (with_reducible intro _)
          refine HFnF.wn3 (hx) z_n ⟨dn2_n, z_n2⟩ ⟨dn3_n2, dn3_n, z_n3⟩ ?_
          rintro r l_ gc ⟨yc_0, oc_0, rfl, rfl⟩ wc z_n z_n2 z_n3
          try simp (maxSteps := 1000000) -dsimp -implicitDefEqProofs only [go_sem, ↓reduceIte, keep59, ib59, mk59, Tryz.f59, upd_upd, upd_ne, en3_n2, fn3_n2, en_n2, fn_n2, en_n3, fn_n3, ea, hlt, oheap_some, onil_some, oc0_0.flat, oc0_0.one, oc1_0.flat, oc1_0.one, oc_0.flat, oc_0.one, OV.map_val, OV.map_val_nil, OV.val_v]
          repeat' (with_reducible first | refine And.intro (by first | omega | decide | rfl | trivial | exact Nat.le_of_eq (reps_len _ _).symm | exact Nat.le_of_eq (cells_len _).symm) ?_)
          intro m qm
          have dm_n3 : ¬ m = n3 := qm.1
          have em_n3 : (m = n3) = False := eq_false dm_n3
          have fm_n3 : (n3 = m) = False := eq_false (fun e => dm_n3 e.symm)
          have dn3_m : ¬ n3 = m := fun e => dm_n3 e.symm
          have dm_n2 : ¬ m = n2 := qm.2.1
          have em_n2 : (m = n2) = False := eq_false dm_n2
          have fm_n2 : (n2 = m) = False := eq_false (fun e => dm_n2 e.symm)
          have dn2_m : ¬ n2 = m := fun e => dm_n2 e.symm
          have dm_n : ¬ m = n := qm.2.2.1
          have em_n : (m = n) = False := eq_false dm_n
          have fm_n : (n = m) = False := eq_false (fun e => dm_n e.symm)
          have dn_m : ¬ n = m := fun e => dm_n e.symm
          have z_m := qm.2.2.2
          try simp (maxSteps := 1000000) -dsimp -implicitDefEqProofs only [go_sem, ↓reduceIte, keep59, ib59, mk59, Tryz.f59, upd_upd, upd_ne, en3_n2, fn3_n2, en_n2, fn_n2, en_n3, fn_n3, em_n3, fm_n3, em_n2, fm_n2, em_n, fm_n, ea, hlt, oheap_some, onil_some, oc0_0.flat, oc0_0.one, oc1_0.flat, oc1_0.one, oc_0.flat, oc_0.one, OV.map_val, OV.map_val_nil, OV.val_v]
          refine ⟨(k + 1, es ++ [[yc_0]], gc, some m), ?_⟩
          simp only
          refine ⟨?_, (by intro q_; simp only [upd_get, oheap_none, oheap_some, onil_none, onil_some, take_cells, cells_snoc, cells_one, cells_nil, cellv_cons, cellv_nil, OV.val_v, List.nil_append, List.length_append, List.length_cons, List.length_nil, Nat.zero_add]; grind), ⟨by omega, OR.snoc hor hlt ⟨yc_0, rfl, oc_0⟩, hnew.snoc (by simpa only [OV.row_cons, OV.row_nil, List.append_nil] using wc), z_n2, z_n3, z_m, (fun n_ e_ => by obtain rfl := Option.some.inj e_; exact ⟨dm_n2, dm_n3⟩)⟩, by omega⟩
          all_goals (repeat' (with_reducible refine And.intro ?_ ?_))
          all_goals first | rfl | trivial | (rw [IntWalk.i64_in _ (by omega)]; omega)
      · have hk2 : k = x.fTerms.length := by omega
        subst hk2
        rw [List.take_length] at hor
        have zz_n2 : oheap g_ (.row 1 (OV.cells es)) o_ n2 = none := oheap_at z_n2 fun n_ e_ => (hon n_ e_).1
        have zz_n3 : oheap g_ (.row 1 (OV.cells es)) o_ n3 = none := oheap_at z_n3 fun n_ e_ => (hon n_ e_).2
        try simp (maxSteps := 1000000) -dsimp -implicitDefEqProofs only [go_sem, ↓reduceIte, keep59, ib59, mk59, Tryz.f59, upd_upd, upd_ne, en3_n2, fn3_n2, onil_flat, onil_cells, oc0_0.flat, oc0_0.one, oc1_0.flat, oc1_0.one, Nat.lt_irrefl]
        try (with_reducible intro _)
        refine ⟨_, (oheap g_ (.row 1 (OV.cells es)) o_), _, Shift.of (Sub.agg (SubL.cons (Sub.refl _) (SubL.cons (Sub.refl _) (SubL.cons (Sub.refl _) (SubL.cons (Sub.refl _) (SubL.cons gov_sub SubL.nil)))))) (by intro q_; simp only [upd_get, oheap_none, oheap_some, onil_none, onil_some, take_cells, cells_snoc, cells_one, cells_nil, cellv_cons, cellv_nil, OV.val_v, List.nil_append, List.length_append, List.length_cons, List.length_nil, Nat.zero_add]; grind), ⟨[yc0_0, .v (I x.fFunc), .v (I x.fShared), yc1_0, (gov 1 es o_)], ?_, rfl, rfl⟩, ?_⟩
        · exact ⟨yc0_0, yc1_0, (gov 1 es o_), rfl, oc0_0, oc1_0, gov_os hor hos⟩
        · have hq := (New.append (New.append wc0 wc1) (gov_new (sz := 1) hnew hos))
          simpa only [OV.row_cons, OV.row_nil, OV.v_rows, List.nil_append, List.append_nil, List.append_assoc] using hq
  ·
    intro n3 qn3
    have dn3_n2 : ¬ n3 = n2 := qn3.1
    have en3_n2 : (n3 = n2) = False := eq_false dn3_n2
    have fn3_n2 : (n2 = n3) = False := eq_false (fun e => dn3_n2 e.symm)
    have dn2_n3 : ¬ n2 = n3 := fun e => dn3_n2 e.symm
    have z_n3 := qn3.2
    try simp (maxSteps := 1000000) -dsimp -implicitDefEqProofs only [go_sem, ↓reduceIte, keep59, ib59, mk59, Tryz.f59, upd_upd, upd_ne, en3_n2, fn3_n2, OV.map_val, OV.map_val_nil, OV.val_v]
    refine HFnF.wn2 (FnN.sub (by repeat' (first | exact SubL.nil | refine SubL.cons ?_ ?_ | exact Sub.refl _ | (rw [DExpr.c_eq]; exact Sub.refl _) | exact Sub.ipAt rfl rfl rfl | exact Sub.ip (map_get (by omega)) (by simp) | exact Sub.ipAt (map_get (by omega)) rfl rfl | exact Sub.ip (by simp [*]) (by simp) | exact Sub.ipAt (by simp [*]) (by rfl) (by rfl))) (l02OwnProgram x.fProgram (by omega))) z_n2 ⟨dn3_n2, z_n3⟩ ?_
    rintro r l_ gc0 ⟨e_c0, oec0, rfl, rfl⟩ wc0 z_n2 z_n3
    have ooc0 := oec0
    obtain ⟨yc0_0, rfl, oc0_0⟩ := ooc0
    try simp (maxSteps := 1000000) -dsimp -implicitDefEqProofs only [go_sem, ↓reduceIte, keep59, ib59, mk59, Tryz.f59, upd_upd, upd_ne, en3_n2, fn3_n2, oc0_0.flat, oc0_0.one, OV.map_val, OV.map_val_nil, OV.val_v]
    refine HFnF.wn2 (l00Own x.fPoint (by omega)) z_n2 ⟨dn3_n2, z_n3⟩ ?_
    rintro r l_ gc1 ⟨yc1_0, oc1_0, rfl, rfl⟩ wc1 z_n2 z_n3
    try simp (maxSteps := 1000000) -dsimp -implicitDefEqProofs only [go_sem, ↓reduceIte, keep59, ib59, mk59, Tryz.f59, upd_upd, upd_ne, en3_n2, fn3_n2, oc0_0.flat, oc0_0.one, oc1_0.flat, oc1_0.one, OV.map_val, OV.map_val_nil, OV.val_v]
    repeat' (with_reducible first | refine And.intro (by first | omega | decide | rfl | trivial | exact Nat.le_of_eq (reps_len _ _).symm | exact Nat.le_of_eq (cells_len _).symm) ?_)
    try (with_reducible intro _)
    refine loopF (keep := keep59) (ib := ib59) (mk := mk59) mix (by kernel_rfl) (fun s : Nat × List (List OV) × Heap × Option Nat => [(0, .ip 5 [[sls 3 DFunc.c x.fProgram.fFuncs, I x.fFunc, I x.fShared, sls 1 (fun n => [I n]) x.fPoint, sls 1 (fun l => [sls 1 (fun n => [I n]) l]) x.fTerms]] 0 0), (2, .op n2 5 0 0), (3, .op n3 5 0 0), (4, (I s.1))]) (fun s => (upd (upd (oheap s.2.2.1 (.row 1 (OV.cells s.2.1)) s.2.2.2) n2 (.row 5 [[.v (.nilsl), .v (.int .i64 0), .v (.int .i64 0), .v (.nilsl), .v (.nilsl)]])) n3 (.row 5 [[.v (yc0_0.val), .v (I x.fFunc), .v (I x.fShared), .v (yc1_0.val), .v (onil 1 s.2.1.length s.2.2.2)]]))) (fun s => s.1 ≤ x.fTerms.length ∧ OR (oS (oP I) 1) (x.fTerms.take s.1) s.2.1 ∧ New gc1 (OV.rowsRows s.2.1) s.2.2.1 ∧ s.2.2.1 n2 = none ∧ s.2.2.1 n3 = none ∧ gside s.2.2.1 s.2.1 s.2.2.2 ∧ ∀ n : Nat, s.2.2.2 = some n → n ≠ n2 ∧ n ≠ n3) (fun s => x.fTerms.length - s.1) (0, [], gc1, none) ?_ ?_
    · exact ⟨by simp [SatL, tget], (by intro q_; simp only [upd_get, oheap_none, oheap_some, onil_none, onil_some, take_cells, cells_snoc, cells_one, cells_nil, cellv_cons, cellv_nil, OV.val_v, List.nil_append, List.length_append, List.length_cons, List.length_nil, Nat.zero_add]; grind), Nat.zero_le _, trivial, New.nil _, z_n2, z_n3, rfl, by simp⟩
    rintro ⟨k, es, g_, o_⟩ ⟨hkk, hor, hnew, z_n2, z_n3, hos, hon⟩
    simp only at hkk hor hnew z_n2 z_n3 hos hon ⊢
    have hlen : es.length = k := by have := hor.length; simp at this; omega
    rcases Nat.lt_or_ge k x.fTerms.length with hlt | hge
    · have ea : x.fTerms[k]? = some x.fTerms[k] := List.getElem?_eq_getElem hlt
      have hx := l00Own x.fTerms[k] (by have := sum_mem (fun x : List Int => x.length) (List.getElem_mem hlt); (try simp only at this); omega)
      cases o_ with
      | none =>
        rw [gside_none] at hos
        subst hos
        try simp (maxSteps := 1000000) -dsimp -implicitDefEqProofs only [go_sem, ↓reduceIte, keep59, ib59, mk59, Tryz.f59, upd_upd, upd_ne, en3_n2, fn3_n2, ea, hlt, oheap_none, onil_none, oc0_0.flat, oc0_0.one, oc1_0.flat, oc1_0.one]
        try (with_reducible intro _)
        refine HFnF.wn2 (hx) z_n2 ⟨dn3_n2, z_n3⟩ ?_
        rintro r l_ gc ⟨yc_0, oc_0, rfl, rfl⟩ wc z_n2 z_n3
        try simp (maxSteps := 1000000) -dsimp -implicitDefEqProofs only [go_sem, ↓reduceIte, keep59, ib59, mk59, Tryz.f59, upd_upd, upd_ne, en3_n2, fn3_n2, ea, hlt, oheap_none, onil_none, oc0_0.flat, oc0_0.one, oc1_0.flat, oc1_0.one, oc_0.flat, oc_0.one, OV.map_val, OV.map_val_nil, OV.val_v]
        repeat' (with_reducible first | refine And.intro (by first | omega | decide | rfl | trivial | exact Nat.le_of_eq (reps_len _ _).symm | exact Nat.le_of_eq (cells_len _).symm) ?_)
        intro m qm
        have dm_n3 : ¬ m = n3 := qm.1
        have em_n3 : (m = n3) = False := eq_false dm_n3
        have fm_n3 : (n3 = m) = False := eq_false (fun e => dm_n3 e.symm)
        have dn3_m : ¬ n3 = m := fun e => dm_n3 e.symm
        have dm_n2 : ¬ m = n2 := qm.2.1
        have em_n2 : (m = n2) = False := eq_false dm_n2
        have fm_n2 : (n2 = m) = False := eq_false (fun e => dm_n2 e.symm)
        have dn2_m : ¬ n2 = m := fun e => dm_n2 e.symm
        have z_m := qm.2.2
        try simp (maxSteps := 1000000) -dsimp -implicitDefEqProofs only [go_sem, ↓reduceIte, keep59, ib59, mk59, Tryz.f59, upd_upd, upd_ne, en3_n2, fn3_n2, em_n3, fm_n3, em_n2, fm_n2, ea, hlt, oheap_none, onil_none, oc0_0.flat, oc0_0.one, oc1_0.flat, oc1_0.one, oc_0.flat, oc_0.one, OV.map_val, OV.map_val_nil, OV.val_v]
        refine ⟨(k + 1, ([] : List (List OV)) ++ [[yc_0]], gc, some m), ?_⟩
        simp only
        refine ⟨?_, (by intro q_; simp only [upd_get, oheap_none, oheap_some, onil_none, onil_some, take_cells, cells_snoc, cells_one, cells_nil, cellv_cons, cellv_nil, OV.val_v, List.nil_append, List.length_append, List.length_cons, List.length_nil, Nat.zero_add]; grind), ⟨by omega, OR.snoc hor hlt ⟨yc_0, rfl, oc_0⟩, hnew.snoc (by simpa only [OV.row_cons, OV.row_nil, List.append_nil] using wc), z_n2, z_n3, z_m, (fun n_ e_ => by obtain rfl := Option.some.inj e_; exact ⟨dm_n2, dm_n3⟩)⟩, by omega⟩
        all_goals (repeat' (with_reducible refine And.intro ?_ ?_))
        all_goals first | rfl | trivial | (rw [IntWalk.i64_in _ (by omega)]; omega)
      | some n =>
        rw [gside_some] at hos
        have z_n := hos
        have hn := hon n rfl
        have dn_n2 : ¬ n = n2 := hn.1
        have en_n2 : (n = n2) = False := eq_false dn_n2
        have fn_n2 : (n2 = n) = False := eq_false (fun e => dn_n2 e.symm)
        have dn2_n : ¬ n2 = n := fun e => dn_n2 e.symm
        have dn_n3 : ¬ n = n3 := hn.2
        have en_n3 : (n = n3) = False := eq_false dn_n3
        have fn_n3 : (n3 = n) = False := eq_false (fun e => dn_n3 e.symm)
        have dn3_n : ¬ n3 = n := fun e => dn_n3 e.symm
        try simp (maxSteps := 1000000) -dsimp -implicitDefEqProofs only [go_sem, ↓reduceIte, keep59, ib59, mk59, Tryz.f59, upd_upd, upd_ne, en3_n2, fn3_n2, en_n2, fn_n2, en_n3, fn_n3, ea, hlt, oheap_some, onil_some, oc0_0.flat, oc0_0.one, oc1_0.flat, oc1_0.one]
        try (with_reducible intro _)
        refine HFnF.wn3 (hx) z_n ⟨dn2_n, z_n2⟩ ⟨dn3_n2, dn3_n, z_n3⟩ ?_
        rintro r l_ gc ⟨yc_0, oc_0, rfl, rfl⟩ wc z_n z_n2 z_n3
        try simp (maxSteps := 1000000) -dsimp -implicitDefEqProofs only [go_sem, ↓reduceIte, keep59, ib59, mk59, Tryz.f59, upd_upd, upd_ne, en3_n2, fn3_n2, en_n2, fn_n2, en_n3, fn_n3, ea, hlt, oheap_some, onil_some, oc0_0.flat, oc0_0.one, oc1_0.flat, oc1_0.one, oc_0.flat, oc_0.one, OV.map_val, OV.map_val_nil, OV.val_v]
        repeat' (with_reducible first | refine And.intro (by first | omega | decide | rfl | trivial | exact Nat.le_of_eq (reps_len _ _).symm | exact Nat.le_of_eq (cells_len _).symm) ?_)
        intro m qm
        have dm_n3 : ¬ m = n3 := qm.1
        have em_n3 : (m = n3) = False := eq_false dm_n3
        have fm_n3 : (n3 = m) = False := eq_false (fun e => dm_n3 e.symm)
        have dn3_m : ¬ n3 = m := fun e => dm_n3 e.symm
        have dm_n2 : ¬ m = n2 := qm.2.1
        have em_n2 : (m = n2) = False := eq_false dm_n2
        have fm_n2 : (n2 = m) = False := eq_false (fun e => dm_n2 e.symm)
        have dn2_m : ¬ n2 = m := fun e => dm_n2 e.symm
        have dm_n : ¬ m = n := qm.2.2.1
        have em_n : (m = n) = False := eq_false dm_n
        have fm_n : (n = m) = False := eq_false (fun e => dm_n e.symm)
        have dn_m : ¬ n = m := fun e => dm_n e.symm
        have z_m := qm.2.2.2
        try simp (maxSteps := 1000000) -dsimp -implicitDefEqProofs only [go_sem, ↓reduceIte, keep59, ib59, mk59, Tryz.f59, upd_upd, upd_ne, en3_n2, fn3_n2, en_n2, fn_n2, en_n3, fn_n3, em_n3, fm_n3, em_n2, fm_n2, em_n, fm_n, ea, hlt, oheap_some, onil_some, oc0_0.flat, oc0_0.one, oc1_0.flat, oc1_0.one, oc_0.flat, oc_0.one, OV.map_val, OV.map_val_nil, OV.val_v]
        refine ⟨(k + 1, es ++ [[yc_0]], gc, some m), ?_⟩
        simp only
        refine ⟨?_, (by intro q_; simp only [upd_get, oheap_none, oheap_some, onil_none, onil_some, take_cells, cells_snoc, cells_one, cells_nil, cellv_cons, cellv_nil, OV.val_v, List.nil_append, List.length_append, List.length_cons, List.length_nil, Nat.zero_add]; grind), ⟨by omega, OR.snoc hor hlt ⟨yc_0, rfl, oc_0⟩, hnew.snoc (by simpa only [OV.row_cons, OV.row_nil, List.append_nil] using wc), z_n2, z_n3, z_m, (fun n_ e_ => by obtain rfl := Option.some.inj e_; exact ⟨dm_n2, dm_n3⟩)⟩, by omega⟩
        all_goals (repeat' (with_reducible refine And.intro ?_ ?_))
        all_goals first | rfl | trivial | (rw [IntWalk.i64_in _ (by omega)]; omega)
    · have hk2 : k = x.fTerms.length := by omega
      subst hk2
      rw [List.take_length] at hor
      have zz_n2 : oheap g_ (.row 1 (OV.cells es)) o_ n2 = none := oheap_at z_n2 fun n_ e_ => (hon n_ e_).1
      have zz_n3 : oheap g_ (.row 1 (OV.cells es)) o_ n3 = none := oheap_at z_n3 fun n_ e_ => (hon n_ e_).2
      try simp (maxSteps := 1000000) -dsimp -implicitDefEqProofs only [go_sem, ↓reduceIte, keep59, ib59, mk59, Tryz.f59, upd_upd, upd_ne, en3_n2, fn3_n2, onil_flat, onil_cells, oc0_0.flat, oc0_0.one, oc1_0.flat, oc1_0.one, Nat.lt_irrefl]
      try (with_reducible intro _)
      refine ⟨_, (oheap g_ (.row 1 (OV.cells es)) o_), _, Shift.of (Sub.agg (SubL.cons (Sub.refl _) (SubL.cons (Sub.refl _) (SubL.cons (Sub.refl _) (SubL.cons (Sub.refl _) (SubL.cons gov_sub SubL.nil)))))) (by intro q_; simp only [upd_get, oheap_none, oheap_some, onil_none, onil_some, take_cells, cells_snoc, cells_one, cells_nil, cellv_cons, cellv_nil, OV.val_v, List.nil_append, List.length_append, List.length_cons, List.length_nil, Nat.zero_add]; grind), ⟨[yc0_0, .v (I x.fFunc), .v (I x.fShared), yc1_0, (gov 1 es o_)], ?_, rfl, rfl⟩, ?_⟩
      · exact ⟨yc0_0, yc1_0, (gov 1 es o_), rfl, oc0_0, oc1_0, gov_os hor hos⟩
      · have hq := (New.append (New.append wc0 wc1) (gov_new (sz := 1) hnew hos))
        simpa only [OV.row_cons, OV.row_nil, OV.v_rows, List.nil_append, List.append_nil, List.append_assoc] using hq

open Go.Proofs
set_option linter.unusedVariables false
set_option linter.unusedSimpArgs false
end Go.Hl

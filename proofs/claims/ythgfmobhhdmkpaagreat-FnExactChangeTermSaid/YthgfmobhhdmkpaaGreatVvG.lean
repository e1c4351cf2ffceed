/-
  Contracts of functions and laws of the layer over the walk.
-/
import Derived.Test.YthgfmobhhdmkpaaGreatVvF
namespace Go.Hl
open Go.Proofs
set_option linter.unusedVariables false
set_option linter.unusedSimpArgs false
def keep78 : List Nat := [0, 2, 3, 4, 32]
def ib78 : List Nat := [14, 45]
def mk78 : Marks := fun id => match id with | 1 => ([3, 8, 14, 19, 21, 22], (.op 0 (.op 1 (.op 2 (.op 4 (.op 5 (.op 6 (.op 7 (.op 9 (.op 10 (.op 11 (.op 12 (.op 13 (.op 15 (.op 16 (.op 17 (.op 18 (.alt 3 (.alt 8 (.alt 14 (.alt 19 (.op 20 (.op 21 (.op 22 .nil))) 21 (.op 19 (.op 20 (.op 22 .nil)))) 21 (.op 14 (.op 19 (.op 20 (.op 22 .nil))))) 21 (.op 8 (.op 14 (.op 19 (.op 20 (.op 22 .nil)))))) 21 (.op 3 (.op 8 (.op 14 (.op 19 (.op 20 (.op 22 .nil))))))))))))))))))))))), []) | 5 => ([1, 9, 11, 13], (.op 0 (.op 2 (.op 3 (.op 4 (.op 5 (.op 6 (.op 7 (.op 8 (.op 1 (.op 9 (.op 10 (.op 11 (.op 12 (.op 13 .nil)))))))))))))), [(1, 9)]) | _ => ([], .nil, [])
set_option maxRecDepth 100000 in
set_option maxHeartbeats 1000000 in
theorem l08OwnService (x : DService) (hs : x.s ≤ 1048576) : FnN Tryz.prog 78 [.ip 9 [x.c] 0 0] (QA x.o) := by
  have hs' := x.s_eq
  have hs2 := x.fJob.s_eq
  try simp only [szs_eq] at hs'
  simp only [DService.c_eq]
  refine fnNF 49 keep78 ib78 mk78 mix Tryz.func78 rfl (by kernel_rfl) (by simp) fun h => ?_
  try simp (maxSteps := 1000000) -dsimp -implicitDefEqProofs only [go_sem, ↓reduceIte, keep78, ib78, mk78, Tryz.f78, upd_upd, upd_ne]
  intro n2 qn2
  have z_n2 := qn2
  try simp (maxSteps := 1000000) -dsimp -implicitDefEqProofs only [go_sem, ↓reduceIte, keep78, ib78, mk78, Tryz.f78, upd_upd, upd_ne]
  try (with_reducible refine And.intro Nat.zero_lt_one ?_)
  refine ⟨?_, ?_⟩
  ·
    refine HFnF.wn1 (FnN.sub (by repeat' (first | exact SubL.nil | refine SubL.cons ?_ ?_ | exact Sub.refl _ | (rw [DExpr.c_eq]; exact Sub.refl _) | exact Sub.ipAt rfl rfl rfl | exact Sub.ip (map_get (by omega)) (by simp) | exact Sub.ipAt (map_get (by omega)) rfl rfl | exact Sub.ip (by simp [*]) (by simp) | exact Sub.ipAt (by simp [*]) (by rfl) (by rfl))) (l08OwnJob x.fJob (by omega))) z_n2 ?_
    rintro r l_ gc0 ⟨e_c0, oec0, rfl, rfl⟩ wc0 z_n2
    have ooc0 := oec0
    obtain ⟨yc0_0, yc0_3, yc0_4, rfl, oc0_0, oc0_3, oc0_4⟩ := ooc0
    try simp (maxSteps := 1000000) -dsimp -implicitDefEqProofs only [go_sem, ↓reduceIte, keep78, ib78, mk78, Tryz.f78, upd_upd, upd_ne, oc0_0.flat, oc0_0.one, oc0_3.flat, oc0_3.one, oc0_4.flat, oc0_4.one, OV.map_val, OV.map_val_nil, OV.val_v]
    try (with_reducible refine And.intro Nat.zero_lt_one ?_)
    refine ⟨?_, ?_⟩
    ·
      refine HFnF.wn1 (l00Own x.fStamps (by omega)) z_n2 ?_
      rintro r l_ gc1 ⟨yc1_0, oc1_0, rfl, rfl⟩ wc1 z_n2
      try simp (maxSteps := 1000000) -dsimp -implicitDefEqProofs only [go_sem, ↓reduceIte, keep78, ib78, mk78, Tryz.f78, upd_upd, upd_ne, oc0_0.flat, oc0_0.one, oc0_3.flat, oc0_3.one, oc0_4.flat, oc0_4.one, oc1_0.flat, oc1_0.one, OV.map_val, OV.map_val_nil, OV.val_v]
      try (with_reducible refine And.intro Nat.zero_lt_one ?_)
      refine ⟨?_, ?_⟩
      ·
        try (with_reducible refine And.intro Nat.zero_lt_one ?_)
        refine ⟨fun hnc2 => ?_, fun hnc2 => ?_⟩
        ·
          try simp (maxSteps := 1000000) -dsimp -implicitDefEqProofs only [go_sem, ↓reduceIte, keep78, ib78, mk78, Tryz.f78, upd_upd, upd_ne, oc0_0.flat, oc0_0.one, oc0_3.flat, oc0_3.one, oc0_4.flat, oc0_4.one, oc1_0.flat, oc1_0.one, OV.map_val, OV.map_val_nil, OV.val_v]
          try (with_reducible refine And.intro Nat.zero_lt_one ?_)
          refine ⟨?_, ?_⟩
          ·
            refine HFnF.wn1 (l00Own x.fOwners (by omega)) z_n2 ?_
            rintro r l_ gc3 ⟨yc3_0, oc3_0, rfl, rfl⟩ wc3 z_n2
            try simp (maxSteps := 1000000) -dsimp -implicitDefEqProofs only [go_sem, ↓reduceIte, keep78, ib78, mk78, Tryz.f78, upd_upd, upd_ne, oc0_0.flat, oc0_0.one, oc0_3.flat, oc0_3.one, oc0_4.flat, oc0_4.one, oc1_0.flat, oc1_0.one, oc3_0.flat, oc3_0.one, OV.map_val, OV.map_val_nil, OV.val_v]
            repeat' (with_reducible first | refine And.intro (by first | omega | decide | rfl | trivial | exact Nat.le_of_eq (reps_len _ _).symm | exact Nat.le_of_eq (cells_len _).symm) ?_)
            intro n3 qn3
            have dn3_n2 : ¬ n3 = n2 := qn3.1
            have en3_n2 : (n3 = n2) = False := eq_false dn3_n2
            have fn3_n2 : (n2 = n3) = False := eq_false (fun e => dn3_n2 e.symm)
            have dn2_n3 : ¬ n2 = n3 := fun e => dn3_n2 e.symm
            have z_n3 := qn3.2
            try simp (maxSteps := 1000000) -dsimp -implicitDefEqProofs only [go_sem, ↓reduceIte, keep78, ib78, mk78, Tryz.f78, upd_upd, upd_ne, en3_n2, fn3_n2, oc0_0.flat, oc0_0.one, oc0_3.flat, oc0_3.one, oc0_4.flat, oc0_4.one, oc1_0.flat, oc1_0.one, oc3_0.flat, oc3_0.one, OV.map_val, OV.map_val_nil, OV.val_v]
            try (with_reducible intro _)
            refine loopF (keep := keep78) (ib := ib78) (mk := mk78) mix (by kernel_rfl) (fun s : Nat × List (List OV) × Heap × Option Nat => [(0, .ip 9 [[(sls 3 DFunc.c x.fJob.fProgram.fFuncs), (.int .i64 x.fJob.fFunc), (.int .i64 x.fJob.fShared), (sls 1 (fun n => [I n]) x.fJob.fPoint), (sls 1 (fun x => [sls 1 (fun n => [I n]) x]) x.fJob.fTerms), (sls 1 (fun n => [I n]) x.fStamps), (sls 1 (fun b => [.bool b]) x.fKnown), (sls 3 DPart.c x.fParts), (sls 1 (fun n => [I n]) x.fOwners)]] 0 0), (2, .op n2 9 0 0), (3, .op n3 9 0 0), (4, (I s.1))]) (fun s => (upd (upd (oheap s.2.2.1 (.row 3 (OV.cells s.2.1)) s.2.2.2) n2 (.row 9 [[.v (.nilsl), .v (.int .i64 0), .v (.int .i64 0), .v (.nilsl), .v (.nilsl), .v (.nilsl), .v (.nilsl), .v (.nilsl), .v (.nilsl)]])) n3 (.row 9 [[.v (yc0_0.val), .v (.int .i64 x.fJob.fFunc), .v (.int .i64 x.fJob.fShared), .v (yc0_3.val), .v (yc0_4.val), .v (yc1_0.val), .v (.sl 1 [] true), .v (onil 3 s.2.1.length s.2.2.2), .v (yc3_0.val)]]))) (fun s => s.1 ≤ x.fParts.length ∧ OR DPart.o (x.fParts.take s.1) s.2.1 ∧ New gc3 (OV.rowsRows s.2.1) s.2.2.1 ∧ s.2.2.1 n2 = none ∧ s.2.2.1 n3 = none ∧ gside s.2.2.1 s.2.1 s.2.2.2 ∧ ∀ n : Nat, s.2.2.2 = some n → n ≠ n2 ∧ n ≠ n3) (fun s => x.fParts.length - s.1) (0, [], gc3, none) ?_ ?_
            · exact ⟨by simp [SatL, tget], (by intro q_; simp only [upd_get, oheap_none, oheap_some, onil_none, onil_some, take_cells, cells_snoc, cells_one, cells_nil, cellv_cons, cellv_nil, OV.val_v, List.nil_append, List.length_append, List.length_cons, List.length_nil, Nat.zero_add]; grind), Nat.zero_le _, trivial, New.nil _, z_n2, z_n3, rfl, by simp⟩
            rintro ⟨k, es, g_, o_⟩ ⟨hkk, hor, hnew, z_n2, z_n3, hos, hon⟩
            simp only at hkk hor hnew z_n2 z_n3 hos hon ⊢
            have hlen : es.length = k := by have := hor.length; simp at this; omega
            rcases Nat.lt_or_ge k x.fParts.length with hlt | hge
            · have ea : x.fParts[k]? = some x.fParts[k] := List.getElem?_eq_getElem hlt
              have hx := l08OwnPart x.fParts[k] (by have := sum_mem DPart.s (List.getElem_mem hlt); omega)
              simp only [DPart.c_eq] at hx
              cases o_ with
              | none =>
                rw [gside_none] at hos
                subst hos
                try simp (maxSteps := 1000000) -dsimp -implicitDefEqProofs only [go_sem, ↓reduceIte, keep78, ib78, mk78, Tryz.f78, upd_upd, upd_ne, en3_n2, fn3_n2, ea, hlt, oheap_none, onil_none, oc0_0.flat, oc0_0.one, oc0_3.flat, oc0_3.one, oc0_4.flat, oc0_4.one, oc1_0.flat, oc1_0.one, oc3_0.flat, oc3_0.one, DPart.c_eq]
                try (with_reducible intro _)
                refine HFnF.wn2 (hx) z_n2 ⟨dn3_n2, z_n3⟩ ?_
                rintro r l_ gb ⟨e_b, oeb, rfl, rfl⟩ wb z_n2 z_n3
                have oob := oeb
                obtain ⟨yb_2, rfl, ob_2⟩ := oob
                try simp (maxSteps := 1000000) -dsimp -implicitDefEqProofs only [go_sem, ↓reduceIte, keep78, ib78, mk78, Tryz.f78, upd_upd, upd_ne, en3_n2, fn3_n2, ea, hlt, oheap_none, onil_none, oc0_0.flat, oc0_0.one, oc0_3.flat, oc0_3.one, oc0_4.flat, oc0_4.one, oc1_0.flat, oc1_0.one, oc3_0.flat, oc3_0.one, ob_2.flat, ob_2.one, OV.map_val, OV.map_val_nil, OV.val_v, DPart.c_eq]
                repeat' (with_reducible first | refine And.intro (by first | omega | decide | rfl | trivial | exact Nat.le_of_eq (reps_len _ _).symm | exact Nat.le_of_eq (cells_len _).symm) ?_)
                intro m qm
                have dm_n3 : ¬ m = n3 := qm.1
                have em_n3 : (m = n3) = False := eq_false dm_n3
                have fm_n3 : (n3 = m) = False := eq_false (fun e => dm_n3 e.symm)
                have dn3_m : ¬ n3 = m := fun e => dm_n3 e.symm
                have dm_n2 : ¬ m = n2 := qm.2.1
                have em_n2 : (m = n2) = False := eq_false dm_n2
                have fm_n2 : (n2 = m) = False := eq_false (fun e => dm_n2 e.symm)
                have dn2_m : ¬ n2 = m := fun e => dm_n2 e.symm
                have z_m := qm.2.2
                try simp (maxSteps := 1000000) -dsimp -implicitDefEqProofs only [go_sem, ↓reduceIte, keep78, ib78, mk78, Tryz.f78, upd_upd, upd_ne, en3_n2, fn3_n2, em_n3, fm_n3, em_n2, fm_n2, ea, hlt, oheap_none, onil_none, oc0_0.flat, oc0_0.one, oc0_3.flat, oc0_3.one, oc0_4.flat, oc0_4.one, oc1_0.flat, oc1_0.one, oc3_0.flat, oc3_0.one, ob_2.flat, ob_2.one, OV.map_val, OV.map_val_nil, OV.val_v]
                refine ⟨(k + 1, ([] : List (List OV)) ++ [[.v (.int .i64 x.fParts[k].fCode), .v (.int .i64 x.fParts[k].fValue), yb_2]], gb, some m), ?_⟩
                simp only
                refine ⟨?_, (by intro q_; simp only [upd_get, oheap_none, oheap_some, onil_none, onil_some, take_cells, cells_snoc, cells_one, cells_nil, cellv_cons, cellv_nil, OV.val_v, List.nil_append, List.length_append, List.length_cons, List.length_nil, Nat.zero_add]; grind), ⟨by omega, OR.snoc hor hlt oeb, hnew.snoc wb, z_n2, z_n3, z_m, (fun n_ e_ => by obtain rfl := Option.some.inj e_; exact ⟨dm_n2, dm_n3⟩)⟩, by omega⟩
                all_goals (repeat' (with_reducible refine And.intro ?_ ?_))
                all_goals first | rfl | trivial | (rw [IntWalk.i64_in _ (by omega)]; omega)
              | some n =>
                rw [gside_some] at hos
                have z_n := hos
                have hn := hon n rfl
                have dn_n2 : ¬ n = n2 := hn.1
                have en_n2 : (n = n2) = False := eq_false dn_n2
                have fn_n2 : (n2 = n) = False := eq_false (fun e => dn_n2 e.symm)
                have dn2_n : ¬ n2 = n := fun e => dn_n2 e.symm
                have dn_n3 : ¬ n = n3 := hn.2
                have en_n3 : (n = n3) = False := eq_false dn_n3
                have fn_n3 : (n3 = n) = False := eq_false (fun e => dn_n3 e.symm)
                have dn3_n : ¬ n3 = n := fun e => dn_n3 e.symm
                try simp (maxSteps := 1000000) -dsimp -implicitDefEqProofs only [go_sem, ↓reduceIte, keep78, ib78, mk78, Tryz.f78, upd_upd, upd_ne, en3_n2, fn3_n2, en_n2, fn_n2, en_n3, fn_n3, ea, hlt, oheap_some, onil_some, oc0_0.flat, oc0_0.one, oc0_3.flat, oc0_3.one, oc0_4.flat, oc0_4.one, oc1_0.flat, oc1_0.one, oc3_0.flat, oc3_0.one, DPart.c_eq]
                try (with_reducible intro _)
                refine HFnF.wn3 (hx) z_n ⟨dn2_n, z_n2⟩ ⟨dn3_n2, dn3_n, z_n3⟩ ?_
                rintro r l_ gb ⟨e_b, oeb, rfl, rfl⟩ wb z_n z_n2 z_n3
                have oob := oeb
                obtain ⟨yb_2, rfl, ob_2⟩ := oob
                try simp (maxSteps := 1000000) -dsimp -implicitDefEqProofs only [go_sem, ↓reduceIte, keep78, ib78, mk78, Tryz.f78, upd_upd, upd_ne, en3_n2, fn3_n2, en_n2, fn_n2, en_n3, fn_n3, ea, hlt, oheap_some, onil_some, oc0_0.flat, oc0_0.one, oc0_3.flat, oc0_3.one, oc0_4.flat, oc0_4.one, oc1_0.flat, oc1_0.one, oc3_0.flat, oc3_0.one, ob_2.flat, ob_2.one, OV.map_val, OV.map_val_nil, OV.val_v, DPart.c_eq]
                repeat' (with_reducible first | refine And.intro (by first | omega | decide | rfl | trivial | exact Nat.le_of_eq (reps_len _ _).symm | exact Nat.le_of_eq (cells_len _).symm) ?_)
                intro m qm
                have dm_n3 : ¬ m = n3 := qm.1
                have em_n3 : (m = n3) = False := eq_false dm_n3
                have fm_n3 : (n3 = m) = False := eq_false (fun e => dm_n3 e.symm)
                have dn3_m : ¬ n3 = m := fun e => dm_n3 e.symm
                have dm_n2 : ¬ m = n2 := qm.2.1
                have em_n2 : (m = n2) = False := eq_false dm_n2
                have fm_n2 : (n2 = m) = False := eq_false (fun e => dm_n2 e.symm)
                have dn2_m : ¬ n2 = m := fun e => dm_n2 e.symm
                have dm_n : ¬ m = n := qm.2.2.1
                have em_n : (m = n) = False := eq_false dm_n
                have fm_n : (n = m) = False := eq_false (fun e => dm_n e.symm)
                have dn_m : ¬ n = m := fun e => dm_n e.symm
                have z_m := qm.2.2.2
                try simp (maxSteps := 1000000) -dsimp -implicitDefEqProofs only [go_sem, ↓reduceIte, keep78, ib78, mk78, Tryz.f78, upd_upd, upd_ne, en3_n2, fn3_n2, en_n2, fn_n2, en_n3, fn_n3, em_n3, fm_n3, em_n2, fm_n2, em_n, fm_n, ea, hlt, oheap_some, onil_some, oc0_0.flat, oc0_0.one, oc0_3.flat, oc0_3.one, oc0_4.flat, oc0_4.one, oc1_0.flat, oc1_0.one, oc3_0.flat, oc3_0.one, ob_2.flat, ob_2.one, OV.map_val, OV.map_val_nil, OV.val_v]
                refine ⟨(k + 1, es ++ [[.v (.int .i64 x.fParts[k].fCode), .v (.int .i64 x.fParts[k].fValue), yb_2]], gb, some m), ?_⟩
                simp only
                refine ⟨?_, (by intro q_; simp only [upd_get, oheap_none, oheap_some, onil_none, onil_some, take_cells, cells_snoc, cells_one, cells_nil, cellv_cons, cellv_nil, OV.val_v, List.nil_append, List.length_append, List.length_cons, List.length_nil, Nat.zero_add]; grind), ⟨by omega, OR.snoc hor hlt oeb, hnew.snoc wb, z_n2, z_n3, z_m, (fun n_ e_ => by obtain rfl := Option.some.inj e_; exact ⟨dm_n2, dm_n3⟩)⟩, by omega⟩
                all_goals (repeat' (with_reducible refine And.intro ?_ ?_))
                all_goals first | rfl | trivial | (rw [IntWalk.i64_in _ (by omega)]; omega)
            · have hk2 : k = x.fParts.length := by omega
              subst hk2
              rw [List.take_length] at hor
              have zz_n2 : oheap g_ (.row 3 (OV.cells es)) o_ n2 = none := oheap_at z_n2 fun n_ e_ => (hon n_ e_).1
              have zz_n3 : oheap g_ (.row 3 (OV.cells es)) o_ n3 = none := oheap_at z_n3 fun n_ e_ => (hon n_ e_).2
              try simp (maxSteps := 1000000) -dsimp -implicitDefEqProofs only [go_sem, ↓reduceIte, keep78, ib78, mk78, Tryz.f78, upd_upd, upd_ne, en3_n2, fn3_n2, onil_flat, onil_cells, oc0_0.flat, oc0_0.one, oc0_3.flat, oc0_3.one, oc0_4.flat, oc0_4.one, oc1_0.flat, oc1_0.one, oc3_0.flat, oc3_0.one, Nat.lt_irrefl]
              try (with_reducible intro _)
              refine ⟨_, (oheap g_ (.row 3 (OV.cells es)) o_), _, Shift.of (Sub.agg (SubL.cons (Sub.refl _) (SubL.cons (Sub.refl _) (SubL.cons (Sub.refl _) (SubL.cons (Sub.refl _) (SubL.cons (Sub.refl _) (SubL.cons (Sub.refl _) (SubL.cons (Sub.refl _) (SubL.cons gov_sub (SubL.cons (Sub.refl _) SubL.nil)))))))))) (by intro q_; simp only [upd_get, oheap_none, oheap_some, onil_none, onil_some, take_cells, cells_snoc, cells_one, cells_nil, cellv_cons, cellv_nil, OV.val_v, List.nil_append, List.length_append, List.length_cons, List.length_nil, Nat.zero_add]; grind), ⟨[yc0_0, .v (.int .i64 x.fJob.fFunc), .v (.int .i64 x.fJob.fShared), yc0_3, yc0_4, yc1_0, (.nil 1), (gov 3 es o_), yc3_0], ?_, rfl, rfl⟩, ?_⟩
              · exact ⟨yc0_0, yc0_3, yc0_4, yc1_0, (.nil 1), (gov 3 es o_), yc3_0, rfl, oc0_0, oc0_3, oc0_4, oc1_0, (.inl ⟨rfl, by simpa using hnc2⟩), gov_os hor hos, oc3_0⟩
              · have hq := (New.append (New.append (New.append wc0 wc1) wc3) (gov_new (sz := 3) hnew hos))
                refine New.perm (a := _) hq ?_
                simp only [OV.row_cons, OV.row_nil, OV.v_rows, OV.nil_rows, List.nil_append, List.append_nil, List.append_assoc]
                first | exact List.Perm.refl _ | (simp only [← List.append_assoc]; exact perm_last _ _ _) | (simp only [← List.append_assoc]; exact perm_last1 _ _) 
          ·
            intro n3 qn3
            have dn3_n2 : ¬ n3 = n2 := qn3.1
            have en3_n2 : (n3 = n2) = False := eq_false dn3_n2
            have fn3_n2 : (n2 = n3) = False := eq_false (fun e => dn3_n2 e.symm)
            have dn2_n3 : ¬ n2 = n3 := fun e => dn3_n2 e.symm
            have z_n3 := qn3.2
            try simp (maxSteps := 1000000) -dsimp -implicitDefEqProofs only [go_sem, ↓reduceIte, keep78, ib78, mk78, Tryz.f78, upd_upd, upd_ne, en3_n2, fn3_n2, oc0_0.flat, oc0_0.one, oc0_3.flat, oc0_3.one, oc0_4.flat, oc0_4.one, oc1_0.flat, oc1_0.one, OV.map_val, OV.map_val_nil, OV.val_v]
            refine HFnF.wn2 (l00Own x.fOwners (by omega)) z_n2 ⟨dn3_n2, z_n3⟩ ?_
            rintro r l_ gc3 ⟨yc3_0, oc3_0, rfl, rfl⟩ wc3 z_n2 z_n3
            try simp (maxSteps := 1000000) -dsimp -implicitDefEqProofs only [go_sem, ↓reduceIte, keep78, ib78, mk78, Tryz.f78, upd_upd, upd_ne, en3_n2, fn3_n2, oc0_0.flat, oc0_0.one, oc0_3.flat, oc0_3.one, oc0_4.flat, oc0_4.one, oc1_0.flat, oc1_0.one, oc3_0.flat, oc3_0.one, OV.map_val, OV.map_val_nil, OV.val_v]
            repeat' (with_reducible first | refine And.intro (by first | omega | decide | rfl | trivial | exact Nat.le_of_eq (reps_len _ _).symm | exact Nat.le_of_eq (cells_len _).symm) ?_)
            try (with_reducible intro _)
            refine loopF (keep := keep78) (ib := ib78) (mk := mk78) mix (by kernel_rfl) (fun s : Nat × List (List OV) × Heap × Option Nat => [(0, .ip 9 [[(sls 3 DFunc.c x.fJob.fProgram.fFuncs), (.int .i64 x.fJob.fFunc), (.int .i64 x.fJob.fShared), (sls 1 (fun n => [I n]) x.fJob.fPoint), (sls 1 (fun x => [sls 1 (fun n => [I n]) x]) x.fJob.fTerms), (sls 1 (fun n => [I n]) x.fStamps), (sls 1 (fun b => [.bool b]) x.fKnown), (sls 3 DPart.c x.fParts), (sls 1 (fun n => [I n]) x.fOwners)]] 0 0), (2, .op n2 9 0 0), (3, .op n3 9 0 0), (4, (I s.1))]) (fun s => (upd (upd (oheap s.2.2.1 (.row 3 (OV.cells s.2.1)) s.2.2.2) n2 (.row 9 [[.v (.nilsl), .v (.int .i64 0), .v (.int .i64 0), .v (.nilsl), .v (.nilsl), .v (.nilsl), .v (.nilsl), .v (.nilsl), .v (.nilsl)]])) n3 (.row 9 [[.v (yc0_0.val), .v (.int .i64 x.fJob.fFunc), .v (.int .i64 x.fJob.fShared), .v (yc0_3.val), .v (yc0_4.val), .v (yc1_0.val), .v (.sl 1 [] true), .v (onil 3 s.2.1.length s.2.2.2), .v (yc3_0.val)]]))) (fun s => s.1 ≤ x.fParts.length ∧ OR DPart.o (x.fParts.take s.1) s.2.1 ∧ New gc3 (OV.rowsRows s.2.1) s.2.2.1 ∧ s.2.2.1 n2 = none ∧ s.2.2.1 n3 = none ∧ gside s.2.2.1 s.2.1 s.2.2.2 ∧ ∀ n : Nat, s.2.2.2 = some n → n ≠ n2 ∧ n ≠ n3) (fun s => x.fParts.length - s.1) (0, [], gc3, none) ?_ ?_
            · exact ⟨by simp [SatL, tget], (by intro q_; simp only [upd_get, oheap_none, oheap_some, onil_none, onil_some, take_cells, cells_snoc, cells_one, cells_nil, cellv_cons, cellv_nil, OV.val_v, List.nil_append, List.length_append, List.length_cons, List.length_nil, Nat.zero_add]; grind), Nat.zero_le _, trivial, New.nil _, z_n2, z_n3, rfl, by simp⟩
            rintro ⟨k, es, g_, o_⟩ ⟨hkk, hor, hnew, z_n2, z_n3, hos, hon⟩
            simp only at hkk hor hnew z_n2 z_n3 hos hon ⊢
            have hlen : es.length = k := by have := hor.length; simp at this; omega
            rcases Nat.lt_or_ge k x.fParts.length with hlt | hge
            · have ea : x.fParts[k]? = some x.fParts[k] := List.getElem?_eq_getElem hlt
              have hx := l08OwnPart x.fParts[k] (by have := sum_mem DPart.s (List.getElem_mem hlt); omega)
              simp only [DPart.c_eq] at hx
              cases o_ with
              | none =>
                rw [gside_none] at hos
                subst hos
                try simp (maxSteps := 1000000) -dsimp -implicitDefEqProofs only [go_sem, ↓reduceIte, keep78, ib78, mk78, Tryz.f78, upd_upd, upd_ne, en3_n2, fn3_n2, ea, hlt, oheap_none, onil_none, oc0_0.flat, oc0_0.one, oc0_3.flat, oc0_3.one, oc0_4.flat, oc0_4.one, oc1_0.flat, oc1_0.one, oc3_0.flat, oc3_0.one, DPart.c_eq]
                try (with_reducible intro _)
                refine HFnF.wn2 (hx) z_n2 ⟨dn3_n2, z_n3⟩ ?_
                rintro r l_ gb ⟨e_b, oeb, rfl, rfl⟩ wb z_n2 z_n3
                have oob := oeb
                obtain ⟨yb_2, rfl, ob_2⟩ := oob
                try simp (maxSteps := 1000000) -dsimp -implicitDefEqProofs only [go_sem, ↓reduceIte, keep78, ib78, mk78, Tryz.f78, upd_upd, upd_ne, en3_n2, fn3_n2, ea, hlt, oheap_none, onil_none, oc0_0.flat, oc0_0.one, oc0_3.flat, oc0_3.one, oc0_4.flat, oc0_4.one, oc1_0.flat, oc1_0.one, oc3_0.flat, oc3_0.one, ob_2.flat, ob_2.one, OV.map_val, OV.map_val_nil, OV.val_v, DPart.c_eq]
                repeat' (with_reducible first | refine And.intro (by first | omega | decide | rfl | trivial | exact Nat.le_of_eq (reps_len _ _).symm | exact Nat.le_of_eq (cells_len _).symm) ?_)
                intro m qm
                have dm_n3 : ¬ m = n3 := qm.1
                have em_n3 : (m = n3) = False := eq_false dm_n3
                have fm_n3 : (n3 = m) = False := eq_false (fun e => dm_n3 e.symm)
                have dn3_m : ¬ n3 = m := fun e => dm_n3 e.symm
                have dm_n2 : ¬ m = n2 := qm.2.1
                have em_n2 : (m = n2) = False := eq_false dm_n2
                have fm_n2 : (n2 = m) = False := eq_false (fun e => dm_n2 e.symm)
                have dn2_m : ¬ n2 = m := fun e => dm_n2 e.symm
                have z_m := qm.2.2
                try simp (maxSteps := 1000000) -dsimp -implicitDefEqProofs only [go_sem, ↓reduceIte, keep78, ib78, mk78, Tryz.f78, upd_upd, upd_ne, en3_n2, fn3_n2, em_n3, fm_n3, em_n2, fm_n2, ea, hlt, oheap_none, onil_none, oc0_0.flat, oc0_0.one, oc0_3.flat, oc0_3.one, oc0_4.flat, oc0_4.one, oc1_0.flat, oc1_0.one, oc3_0.flat, oc3_0.one, ob_2.flat, ob_2.one, OV.map_val, OV.map_val_nil, OV.val_v]
                refine ⟨(k + 1, ([] : List (List OV)) ++ [[.v (.int .i64 x.fParts[k].fCode), .v (.int .i64 x.fParts[k].fValue), yb_2]], gb, some m), ?_⟩
                simp only
                refine ⟨?_, (by intro q_; simp only [upd_get, oheap_none, oheap_some, onil_none, onil_some, take_cells, cells_snoc, cells_one, cells_nil, cellv_cons, cellv_nil, OV.val_v, List.nil_append, List.length_append, List.length_cons, List.length_nil, Nat.zero_add]; grind), ⟨by omega, OR.snoc hor hlt oeb, hnew.snoc wb, z_n2, z_n3, z_m, (fun n_ e_ => by obtain rfl := Option.some.inj e_; exact ⟨dm_n2, dm_n3⟩)⟩, by omega⟩
                all_goals (repeat' (with_reducible refine And.intro ?_ ?_))
                all_goals first | rfl | trivial | (rw [IntWalk.i64_in _ (by omega)]; omega)
              | some n =>
                rw [gside_some] at hos
                have z_n := hos
                have hn := hon n rfl
                have dn_n2 : ¬ n = n2 := hn.1
                have en_n2 : (n = n2) = False := eq_false dn_n2
                have fn_n2 : (n2 = n) = False := eq_false (fun e => dn_n2 e.symm)
                have dn2_n : ¬ n2 = n := fun e => dn_n2 e.symm
                have dn_n3 : ¬ n = n3 := hn.2
                have en_n3 : (n = n3) = False := eq_false dn_n3
                have fn_n3 : (n3 = n) = False := eq_false (fun e => dn_n3 e.symm)
                have dn3_n : ¬ n3 = n := fun e => dn_n3 e.symm
                try simp (maxSteps := 1000000) -dsimp -implicitDefEqProofs only [go_sem, ↓reduceIte, keep78, ib78, mk78, Tryz.f78, upd_upd, upd_ne, en3_n2, fn3_n2, en_n2, fn_n2, en_n3, fn_n3, ea, hlt, oheap_some, onil_some, oc0_0.flat, oc0_0.one, oc0_3.flat, oc0_3.one, oc0_4.flat, oc0_4.one, oc1_0.flat, oc1_0.one, oc3_0.flat, oc3_0.one, DPart.c_eq]
                try (with_reducible intro _)
                refine HFnF.wn3 (hx) z_n ⟨dn2_n, z_n2⟩ ⟨dn3_n2, dn3_n, z_n3⟩ ?_
                rintro r l_ gb ⟨e_b, oeb, rfl, rfl⟩ wb z_n z_n2 z_n3
                have oob := oeb
                obtain ⟨yb_2, rfl, ob_2⟩ := oob
                try simp (maxSteps := 1000000) -dsimp -implicitDefEqProofs only [go_sem, ↓reduceIte, keep78, ib78, mk78, Tryz.f78, upd_upd, upd_ne, en3_n2, fn3_n2, en_n2, fn_n2, en_n3, fn_n3, ea, hlt, oheap_some, onil_some, oc0_0.flat, oc0_0.one, oc0_3.flat, oc0_3.one, oc0_4.flat, oc0_4.one, oc1_0.flat, oc1_0.one, oc3_0.flat, oc3_0.one, ob_2.flat, ob_2.one, OV.map_val, OV.map_val_nil, OV.val_v, DPart.c_eq]
                repeat' (with_reducible first | refine And.intro (by first | omega | decide | rfl | trivial | exact Nat.le_of_eq (reps_len _ _).symm | exact Nat.le_of_eq (cells_len _).symm) ?_)
                intro m qm
                have dm_n3 : ¬ m = n3 := qm.1
                have em_n3 : (m = n3) = False := eq_false dm_n3
                have fm_n3 : (n3 = m) = False := eq_false (fun e => dm_n3 e.symm)
                have dn3_m : ¬ n3 = m := fun e => dm_n3 e.symm
                have dm_n2 : ¬ m = n2 := qm.2.1
                have em_n2 : (m = n2) = False := eq_false dm_n2
                have fm_n2 : (n2 = m) = False := eq_false (fun e => dm_n2 e.symm)
                have dn2_m : ¬ n2 = m := fun e => dm_n2 e.symm
                have dm_n : ¬ m = n := qm.2.2.1
                have em_n : (m = n) = False := eq_false dm_n
                have fm_n : (n = m) = False := eq_false (fun e => dm_n e.symm)
                have dn_m : ¬ n = m := fun e => dm_n e.symm
                have z_m := qm.2.2.2
                try simp (maxSteps := 1000000) -dsimp -implicitDefEqProofs only [go_sem, ↓reduceIte, keep78, ib78, mk78, Tryz.f78, upd_upd, upd_ne, en3_n2, fn3_n2, en_n2, fn_n2, en_n3, fn_n3, em_n3, fm_n3, em_n2, fm_n2, em_n, fm_n, ea, hlt, oheap_some, onil_some, oc0_0.flat, oc0_0.one, oc0_3.flat, oc0_3.one, oc0_4.flat, oc0_4.one, oc1_0.flat, oc1_0.one, oc3_0.flat, oc3_0.one, ob_2.flat, ob_2.one, OV.map_val, OV.map_val_nil, OV.val_v]
                refine ⟨(k + 1, es ++ [[.v (.int .i64 x.fParts[k].fCode), .v (.int .i64 x.fParts[k].fValue), yb_2]], gb, some m), ?_⟩
                simp only
                refine ⟨?_, (by intro q_; simp only [upd_get, oheap_none, oheap_some, onil_none, onil_some, take_cells, cells_snoc, cells_one, cells_nil, cellv_cons, cellv_nil, OV.val_v, List.nil_append, List.length_append, List.length_cons, List.length_nil, Nat.zero_add]; grind), ⟨by omega, OR.snoc hor hlt oeb, hnew.snoc wb, z_n2, z_n3, z_m, (fun n_ e_ => by obtain rfl := Option.some.inj e_; exact ⟨dm_n2, dm_n3⟩)⟩, by omega⟩
                all_goals (repeat' (with_reducible refine And.intro ?_ ?_))
                all_goals first | rfl | trivial | (rw [IntWalk.i64_in _ (by omega)]; omega)
            · have hk2 : k = x.fParts.length := by omega
              subst hk2
              rw [List.take_length] at hor
              have zz_n2 : oheap g_ (.row 3 (OV.cells es)) o_ n2 = none := oheap_at z_n2 fun n_ e_ => (hon n_ e_).1
              have zz_n3 : oheap g_ (.row 3 (OV.cells es)) o_ n3 = none := oheap_at z_n3 fun n_ e_ => (hon n_ e_).2
              try simp (maxSteps := 1000000) -dsimp -implicitDefEqProofs only [go_sem, ↓reduceIte, keep78, ib78, mk78, Tryz.f78, upd_upd, upd_ne, en3_n2, fn3_n2, onil_flat, onil_cells, oc0_0.flat, oc0_0.one, oc0_3.flat, oc0_3.one, oc0_4.flat, oc0_4.one, oc1_0.flat, oc1_0.one, oc3_0.flat, oc3_0.one, Nat.lt_irrefl]
              try (with_reducible intro _)
              refine ⟨_, (oheap g_ (.row 3 (OV.cells es)) o_), _, Shift.of (Sub.agg (SubL.cons (Sub.refl _) (SubL.cons (Sub.refl _) (SubL.cons (Sub.refl _) (SubL.cons (Sub.refl _) (SubL.cons (Sub.refl _) (SubL.cons (Sub.refl _) (SubL.cons (Sub.refl _) (SubL.cons gov_sub (SubL.cons (Sub.refl _) SubL.nil)))))))))) (by intro q_; simp only [upd_get, oheap_none, oheap_some, onil_none, onil_some, take_cells, cells_snoc, cells_one, cells_nil, cellv_cons, cellv_nil, OV.val_v, List.nil_append, List.length_append, List.length_cons, List.length_nil, Nat.zero_add]; grind), ⟨[yc0_0, .v (.int .i64 x.fJob.fFunc), .v (.int .i64 x.fJob.fShared), yc0_3, yc0_4, yc1_0, (.nil 1), (gov 3 es o_), yc3_0], ?_, rfl, rfl⟩, ?_⟩
              · exact ⟨yc0_0, yc0_3, yc0_4, yc1_0, (.nil 1), (gov 3 es o_), yc3_0, rfl, oc0_0, oc0_3, oc0_4, oc1_0, (.inl ⟨rfl, by simpa using hnc2⟩), gov_os hor hos, oc3_0⟩
              · have hq := (New.append (New.append (New.append wc0 wc1) wc3) (gov_new (sz := 3) hnew hos))
                refine New.perm (a := _) hq ?_
                simp only [OV.row_cons, OV.row_nil, OV.v_rows, OV.nil_rows, List.nil_append, List.append_nil, List.append_assoc]
                first | exact List.Perm.refl _ | (simp only [← List.append_assoc]; exact perm_last _ _ _) | (simp only [← List.append_assoc]; exact perm_last1 _ _) 
        ·
          repeat' (with_reducible first | refine And.intro (by first | omega | decide | rfl | trivial | exact Nat.le_of_eq (reps_len _ _).symm | exact Nat.le_of_eq (cells_len _).symm) ?_)
          intro mc2 qmc2
          have dmc2_n2 : ¬ mc2 = n2 := qmc2.1
          have emc2_n2 : (mc2 = n2) = False := eq_false dmc2_n2
          have fmc2_n2 : (n2 = mc2) = False := eq_false (fun e => dmc2_n2 e.symm)
          have dn2_mc2 : ¬ n2 = mc2 := fun e => dmc2_n2 e.symm
          have z_mc2 := qmc2.2
          simp only [upd_swap dn2_mc2]
          obtain ⟨yc2_0, gc2, oc2_0, vc2, wc2, hgc2⟩ := app_row HVal.bool (l := x.fKnown) (sz := 1) z_mc2
          simp only [← hgc2, ← vc2]
          have z_n2 : gc2 n2 = none := by rw [hgc2, upd_ne _ _ _ _ dn2_mc2]; exact z_n2
          try simp (maxSteps := 1000000) -dsimp -implicitDefEqProofs only [go_sem, ↓reduceIte, keep78, ib78, mk78, Tryz.f78, upd_upd, upd_ne, oc0_0.flat, oc0_0.one, oc0_3.flat, oc0_3.one, oc0_4.flat, oc0_4.one, oc1_0.flat, oc1_0.one, oc2_0.flat, oc2_0.one, OV.map_val, OV.map_val_nil, OV.val_v]
          try (with_reducible refine And.intro Nat.zero_lt_one ?_)
          refine ⟨?_, ?_⟩
          ·
            refine HFnF.wn1 (l00Own x.fOwners (by omega)) z_n2 ?_
            rintro r l_ gc3 ⟨yc3_0, oc3_0, rfl, rfl⟩ wc3 z_n2
            try simp (maxSteps := 1000000) -dsimp -implicitDefEqProofs only [go_sem, ↓reduceIte, keep78, ib78, mk78, Tryz.f78, upd_upd, upd_ne, oc0_0.flat, oc0_0.one, oc0_3.flat, oc0_3.one, oc0_4.flat, oc0_4.one, oc1_0.flat, oc1_0.one, oc2_0.flat, oc2_0.one, oc3_0.flat, oc3_0.one, OV.map_val, OV.map_val_nil, OV.val_v]
            repeat' (with_reducible first | refine And.intro (by first | omega | decide | rfl | trivial | exact Nat.le_of_eq (reps_len _ _).symm | exact Nat.le_of_eq (cells_len _).symm) ?_)
            intro n3 qn3
            have dn3_n2 : ¬ n3 = n2 := qn3.1
            have en3_n2 : (n3 = n2) = False := eq_false dn3_n2
            have fn3_n2 : (n2 = n3) = False := eq_false (fun e => dn3_n2 e.symm)
            have dn2_n3 : ¬ n2 = n3 := fun e => dn3_n2 e.symm
            have z_n3 := qn3.2
            try simp (maxSteps := 1000000) -dsimp -implicitDefEqProofs only [go_sem, ↓reduceIte, keep78, ib78, mk78, Tryz.f78, upd_upd, upd_ne, en3_n2, fn3_n2, oc0_0.flat, oc0_0.one, oc0_3.flat, oc0_3.one, oc0_4.flat, oc0_4.one, oc1_0.flat, oc1_0.one, oc2_0.flat, oc2_0.one, oc3_0.flat, oc3_0.one, OV.map_val, OV.map_val_nil, OV.val_v]
            try (with_reducible intro _)
            refine loopF (keep := keep78) (ib := ib78) (mk := mk78) mix (by kernel_rfl) (fun s : Nat × List (List OV) × Heap × Option Nat => [(0, .ip 9 [[(sls 3 DFunc.c x.fJob.fProgram.fFuncs), (.int .i64 x.fJob.fFunc), (.int .i64 x.fJob.fShared), (sls 1 (fun n => [I n]) x.fJob.fPoint), (sls 1 (fun x => [sls 1 (fun n => [I n]) x]) x.fJob.fTerms), (sls 1 (fun n => [I n]) x.fStamps), (sls 1 (fun b => [.bool b]) x.fKnown), (sls 3 DPart.c x.fParts), (sls 1 (fun n => [I n]) x.fOwners)]] 0 0), (2, .op n2 9 0 0), (3, .op n3 9 0 0), (4, (I s.1))]) (fun s => (upd (upd (oheap s.2.2.1 (.row 3 (OV.cells s.2.1)) s.2.2.2) n2 (.row 9 [[.v (.nilsl), .v (.int .i64 0), .v (.int .i64 0), .v (.nilsl), .v (.nilsl), .v (.nilsl), .v (.nilsl), .v (.nilsl), .v (.nilsl)]])) n3 (.row 9 [[.v (yc0_0.val), .v (.int .i64 x.fJob.fFunc), .v (.int .i64 x.fJob.fShared), .v (yc0_3.val), .v (yc0_4.val), .v (yc1_0.val), .v (yc2_0.val), .v (onil 3 s.2.1.length s.2.2.2), .v (yc3_0.val)]]))) (fun s => s.1 ≤ x.fParts.length ∧ OR DPart.o (x.fParts.take s.1) s.2.1 ∧ New gc3 (OV.rowsRows s.2.1) s.2.2.1 ∧ s.2.2.1 n2 = none ∧ s.2.2.1 n3 = none ∧ gside s.2.2.1 s.2.1 s.2.2.2 ∧ ∀ n : Nat, s.2.2.2 = some n → n ≠ n2 ∧ n ≠ n3) (fun s => x.fParts.length - s.1) (0, [], gc3, none) ?_ ?_
            · exact ⟨by simp [SatL, tget], (by intro q_; simp only [upd_get, oheap_none, oheap_some, onil_none, onil_some, take_cells, cells_snoc, cells_one, cells_nil, cellv_cons, cellv_nil, OV.val_v, List.nil_append, List.length_append, List.length_cons, List.length_nil, Nat.zero_add]; grind), Nat.zero_le _, trivial, New.nil _, z_n2, z_n3, rfl, by simp⟩
            rintro ⟨k, es, g_, o_⟩ ⟨hkk, hor, hnew, z_n2, z_n3, hos, hon⟩
            simp only at hkk hor hnew z_n2 z_n3 hos hon ⊢
            have hlen : es.length = k := by have := hor.length; simp at this; omega
            rcases Nat.lt_or_ge k x.fParts.length with hlt | hge
            · have ea : x.fParts[k]? = some x.fParts[k] := List.getElem?_eq_getElem hlt
              have hx := l08OwnPart x.fParts[k] (by have := sum_mem DPart.s (List.getElem_mem hlt); omega)
              simp only [DPart.c_eq] at hx
              cases o_ with
              | none =>
                rw [gside_none] at hos
                subst hos
                try simp (maxSteps := 1000000) -dsimp -implicitDefEqProofs only [go_sem, ↓reduceIte, keep78, ib78, mk78, Tryz.f78, upd_upd, upd_ne, en3_n2, fn3_n2, ea, hlt, oheap_none, onil_none, oc0_0.flat, oc0_0.one, oc0_3.flat, oc0_3.one, oc0_4.flat, oc0_4.one, oc1_0.flat, oc1_0.one, oc2_0.flat, oc2_0.one, oc3_0.flat, oc3_0.one, DPart.c_eq]
                try (with_reducible intro _)
                refine HFnF.wn2 (hx) z_n2 ⟨dn3_n2, z_n3⟩ ?_
                rintro r l_ gb ⟨e_b, oeb, rfl, rfl⟩ wb z_n2 z_n3
                have oob := oeb
                obtain ⟨yb_2, rfl, ob_2⟩ := oob
                try simp (maxSteps := 1000000) -dsimp -implicitDefEqProofs only [go_sem, ↓reduceIte, keep78, ib78, mk78, Tryz.f78, upd_upd, upd_ne, en3_n2, fn3_n2, ea, hlt, oheap_none, onil_none, oc0_0.flat, oc0_0.one, oc0_3.flat, oc0_3.one, oc0_4.flat, oc0_4.one, oc1_0.flat, oc1_0.one, oc2_0.flat, oc2_0.one, oc3_0.flat, oc3_0.one, ob_2.flat, ob_2.one, OV.map_val, OV.map_val_nil, OV.val_v, DPart.c_eq]
                repeat' (with_reducible first | refine And.intro (by first | omega | decide | rfl | trivial | exact Nat.le_of_eq (reps_len _ _).symm | exact Nat.le_of_eq (cells_len _).symm) ?_)
                intro m qm
                have dm_n3 : ¬ m = n3 := qm.1
                have em_n3 : (m = n3) = False := eq_false dm_n3
                have fm_n3 : (n3 = m) = False := eq_false (fun e => dm_n3 e.symm)
                have dn3_m : ¬ n3 = m := fun e => dm_n3 e.symm
                have dm_n2 : ¬ m = n2 := qm.2.1
                have em_n2 : (m = n2) = False := eq_false dm_n2
                have fm_n2 : (n2 = m) = False := eq_false (fun e => dm_n2 e.symm)
                have dn2_m : ¬ n2 = m := fun e => dm_n2 e.symm
                have z_m := qm.2.2
                try simp (maxSteps := 1000000) -dsimp -implicitDefEqProofs only [go_sem, ↓reduceIte, keep78, ib78, mk78, Tryz.f78, upd_upd, upd_ne, en3_n2, fn3_n2, em_n3, fm_n3, em_n2, fm_n2, ea, hlt, oheap_none, onil_none, oc0_0.flat, oc0_0.one, oc0_3.flat, oc0_3.one, oc0_4.flat, oc0_4.one, oc1_0.flat, oc1_0.one, oc2_0.flat, oc2_0.one, oc3_0.flat, oc3_0.one, ob_2.flat, ob_2.one, OV.map_val, OV.map_val_nil, OV.val_v]
                refine ⟨(k + 1, ([] : List (List OV)) ++ [[.v (.int .i64 x.fParts[k].fCode), .v (.int .i64 x.fParts[k].fValue), yb_2]], gb, some m), ?_⟩
                simp only
                refine ⟨?_, (by intro q_; simp only [upd_get, oheap_none, oheap_some, onil_none, onil_some, take_cells, cells_snoc, cells_one, cells_nil, cellv_cons, cellv_nil, OV.val_v, List.nil_append, List.length_append, List.length_cons, List.length_nil, Nat.zero_add]; grind), ⟨by omega, OR.snoc hor hlt oeb, hnew.snoc wb, z_n2, z_n3, z_m, (fun n_ e_ => by obtain rfl := Option.some.inj e_; exact ⟨dm_n2, dm_n3⟩)⟩, by omega⟩
                all_goals (repeat' (with_reducible refine And.intro ?_ ?_))
                all_goals first | rfl | trivial | (rw [IntWalk.i64_in _ (by omega)]; omega)
              | some n =>
                rw [gside_some] at hos
                have z_n := hos
                have hn := hon n rfl
                have dn_n2 : ¬ n = n2 := hn.1
                have en_n2 : (n = n2) = False := eq_false dn_n2
                have fn_n2 : (n2 = n) = False := eq_false (fun e => dn_n2 e.symm)
                have dn2_n : ¬ n2 = n := fun e => dn_n2 e.symm
                have dn_n3 : ¬ n = n3 := hn.2
                have en_n3 : (n = n3) = False := eq_false dn_n3
                have fn_n3 : (n3 = n) = False := eq_false (fun e => dn_n3 e.symm)
                have dn3_n : ¬ n3 = n := fun e => dn_n3 e.symm
                try simp (maxSteps := 1000000) -dsimp -implicitDefEqProofs only [go_sem, ↓reduceIte, keep78, ib78, mk78, Tryz.f78, upd_upd, upd_ne, en3_n2, fn3_n2, en_n2, fn_n2, en_n3, fn_n3, ea, hlt, oheap_some, onil_some, oc0_0.flat, oc0_0.one, oc0_3.flat, oc0_3.one, oc0_4.flat, oc0_4.one, oc1_0.flat, oc1_0.one, oc2_0.flat, oc2_0.one, oc3_0.flat, oc3_0.one, DPart.c_eq]
                try (with_reducible intro _)
                refine HFnF.wn3 (hx) z_n ⟨dn2_n, z_n2⟩ ⟨dn3_n2, dn3_n, z_n3⟩ ?_
                rintro r l_ gb ⟨e_b, oeb, rfl, rfl⟩ wb z_n z_n2 z_n3
                have oob := oeb
                obtain ⟨yb_2, rfl, ob_2⟩ := oob
                try simp (maxSteps := 1000000) -dsimp -implicitDefEqProofs only [go_sem, ↓reduceIte, keep78, ib78, mk78, Tryz.f78, upd_upd, upd_ne, en3_n2, fn3_n2, en_n2, fn_n2, en_n3, fn_n3, ea, hlt, oheap_some, onil_some, oc0_0.flat, oc0_0.one, oc0_3.flat, oc0_3.one, oc0_4.flat, oc0_4.one, oc1_0.flat, oc1_0.one, oc2_0.flat, oc2_0.one, oc3_0.flat, oc3_0.one, ob_2.flat, ob_2.one, OV.map_val, OV.map_val_nil, OV.val_v, DPart.c_eq]
                repeat' (with_reducible first | refine And.intro (by first | omega | decide | rfl | trivial | exact Nat.le_of_eq (reps_len _ _).symm | exact Nat.le_of_eq (cells_len _).symm) ?_)
                intro m qm
                have dm_n3 : ¬ m = n3 := qm.1
                have em_n3 : (m = n3) = False := eq_false dm_n3
                have fm_n3 : (n3 = m) = False := eq_false (fun e => dm_n3 e.symm)
                have dn3_m : ¬ n3 = m := fun e => dm_n3 e.symm
                have dm_n2 : ¬ m = n2 := qm.2.1
                have em_n2 : (m = n2) = False := eq_false dm_n2
                have fm_n2 : (n2 = m) = False := eq_false (fun e => dm_n2 e.symm)
                have dn2_m : ¬ n2 = m := fun e => dm_n2 e.symm
                have dm_n : ¬ m = n := qm.2.2.1
                have em_n : (m = n) = False := eq_false dm_n
                have fm_n : (n = m) = False := eq_false (fun e => dm_n e.symm)
                have dn_m : ¬ n = m := fun e => dm_n e.symm
                have z_m := qm.2.2.2
                try simp (maxSteps := 1000000) -dsimp -implicitDefEqProofs only [go_sem, ↓reduceIte, keep78, ib78, mk78, Tryz.f78, upd_upd, upd_ne, en3_n2, fn3_n2, en_n2, fn_n2, en_n3, fn_n3, em_n3, fm_n3, em_n2, fm_n2, em_n, fm_n, ea, hlt, oheap_some, onil_some, oc0_0.flat, oc0_0.one, oc0_3.flat, oc0_3.one, oc0_4.flat, oc0_4.one, oc1_0.flat, oc1_0.one, oc2_0.flat, oc2_0.one, oc3_0.flat, oc3_0.one, ob_2.flat, ob_2.one, OV.map_val, OV.map_val_nil, OV.val_v]
                refine ⟨(k + 1, es ++ [[.v (.int .i64 x.fParts[k].fCode), .v (.int .i64 x.fParts[k].fValue), yb_2]], gb, some m), ?_⟩
                simp only
                refine ⟨?_, (by intro q_; simp only [upd_get, oheap_none, oheap_some, onil_none, onil_some, take_cells, cells_snoc, cells_one, cells_nil, cellv_cons, cellv_nil, OV.val_v, List.nil_append, List.length_append, List.length_cons, List.length_nil, Nat.zero_add]; grind), ⟨by omega, OR.snoc hor hlt oeb, hnew.snoc wb, z_n2, z_n3, z_m, (fun n_ e_ => by obtain rfl := Option.some.inj e_; exact ⟨dm_n2, dm_n3⟩)⟩, by omega⟩
                all_goals (repeat' (with_reducible refine And.intro ?_ ?_))
                all_goals first | rfl | trivial | (rw [IntWalk.i64_in _ (by omega)]; omega)
            · have hk2 : k = x.fParts.length := by omega
              subst hk2
              rw [List.take_length] at hor
              have zz_n2 : oheap g_ (.row 3 (OV.cells es)) o_ n2 = none := oheap_at z_n2 fun n_ e_ => (hon n_ e_).1
              have zz_n3 : oheap g_ (.row 3 (OV.cells es)) o_ n3 = none := oheap_at z_n3 fun n_ e_ => (hon n_ e_).2
              try simp (maxSteps := 1000000) -dsimp -implicitDefEqProofs only [go_sem, ↓reduceIte, keep78, ib78, mk78, Tryz.f78, upd_upd, upd_ne, en3_n2, fn3_n2, onil_flat, onil_cells, oc0_0.flat, oc0_0.one, oc0_3.flat, oc0_3.one, oc0_4.flat, oc0_4.one, oc1_0.flat, oc1_0.one, oc2_0.flat, oc2_0.one, oc3_0.flat, oc3_0.one, Nat.lt_irrefl]
              try (with_reducible intro _)
              refine ⟨_, (oheap g_ (.row 3 (OV.cells es)) o_), _, Shift.of (Sub.agg (SubL.cons (Sub.refl _) (SubL.cons (Sub.refl _) (SubL.cons (Sub.refl _) (SubL.cons (Sub.refl _) (SubL.cons (Sub.refl _) (SubL.cons (Sub.refl _) (SubL.cons (Sub.refl _) (SubL.cons gov_sub (SubL.cons (Sub.refl _) SubL.nil)))))))))) (by intro q_; simp only [upd_get, oheap_none, oheap_some, onil_none, onil_some, take_cells, cells_snoc, cells_one, cells_nil, cellv_cons, cellv_nil, OV.val_v, List.nil_append, List.length_append, List.length_cons, List.length_nil, Nat.zero_add]; grind), ⟨[yc0_0, .v (.int .i64 x.fJob.fFunc), .v (.int .i64 x.fJob.fShared), yc0_3, yc0_4, yc1_0, yc2_0, (gov 3 es o_), yc3_0], ?_, rfl, rfl⟩, ?_⟩
              · exact ⟨yc0_0, yc0_3, yc0_4, yc1_0, yc2_0, (gov 3 es o_), yc3_0, rfl, oc0_0, oc0_3, oc0_4, oc1_0, oc2_0, gov_os hor hos, oc3_0⟩
              · have hq := (New.append (New.append (New.append (New.append wc0 wc1) wc2) wc3) (gov_new (sz := 3) hnew hos))
                refine New.perm (a := _) hq ?_
                simp only [OV.row_cons, OV.row_nil, OV.v_rows, OV.nil_rows, List.nil_append, List.append_nil, List.append_assoc]
                first | exact List.Perm.refl _ | (simp only [← List.append_assoc]; exact perm_last _ _ _) | (simp only [← List.append_assoc]; exact perm_last1 _ _) 
          ·
            intro n3 qn3
            have dn3_n2 : ¬ n3 = n2 := by grind
            have en3_n2 : (n3 = n2) = False := eq_false dn3_n2
            have fn3_n2 : (n2 = n3) = False := eq_false (fun e => dn3_n2 e.symm)
            have dn2_n3 : ¬ n2 = n3 := fun e => dn3_n2 e.symm
            have z_n3 : gc2 n3 = none := by rw [hgc2, upd_none]; grind
            try simp (maxSteps := 1000000) -dsimp -implicitDefEqProofs only [go_sem, ↓reduceIte, keep78, ib78, mk78, Tryz.f78, upd_upd, upd_ne, en3_n2, fn3_n2, oc0_0.flat, oc0_0.one, oc0_3.flat, oc0_3.one, oc0_4.flat, oc0_4.one, oc1_0.flat, oc1_0.one, oc2_0.flat, oc2_0.one, OV.map_val, OV.map_val_nil, OV.val_v]
            refine HFnF.wn2 (l00Own x.fOwners (by omega)) z_n2 ⟨dn3_n2, z_n3⟩ ?_
            rintro r l_ gc3 ⟨yc3_0, oc3_0, rfl, rfl⟩ wc3 z_n2 z_n3
            try simp (maxSteps := 1000000) -dsimp -implicitDefEqProofs only [go_sem, ↓reduceIte, keep78, ib78, mk78, Tryz.f78, upd_upd, upd_ne, en3_n2, fn3_n2, oc0_0.flat, oc0_0.one, oc0_3.flat, oc0_3.one, oc0_4.flat, oc0_4.one, oc1_0.flat, oc1_0.one, oc2_0.flat, oc2_0.one, oc3_0.flat, oc3_0.one, OV.map_val, OV.map_val_nil, OV.val_v]
            repeat' (with_reducible first | refine And.intro (by first | omega | decide | rfl | trivial | exact Nat.le_of_eq (reps_len _ _).symm | exact Nat.le_of_eq (cells_len _).symm) ?_)
            try (with_reducible intro _)
            refine loopF (keep := keep78) (ib := ib78) (mk := mk78) mix (by kernel_rfl) (fun s : Nat × List (List OV) × Heap × Option Nat => [(0, .ip 9 [[(sls 3 DFunc.c x.fJob.fProgram.fFuncs), (.int .i64 x.fJob.fFunc), (.int .i64 x.fJob.fShared), (sls 1 (fun n => [I n]) x.fJob.fPoint), (sls 1 (fun x => [sls 1 (fun n => [I n]) x]) x.fJob.fTerms), (sls 1 (fun n => [I n]) x.fStamps), (sls 1 (fun b => [.bool b]) x.fKnown), (sls 3 DPart.c x.fParts), (sls 1 (fun n => [I n]) x.fOwners)]] 0 0), (2, .op n2 9 0 0), (3, .op n3 9 0 0), (4, (I s.1))]) (fun s => (upd (upd (oheap s.2.2.1 (.row 3 (OV.cells s.2.1)) s.2.2.2) n2 (.row 9 [[.v (.nilsl), .v (.int .i64 0), .v (.int .i64 0), .v (.nilsl), .v (.nilsl), .v (.nilsl), .v (.nilsl), .v (.nilsl), .v (.nilsl)]])) n3 (.row 9 [[.v (yc0_0.val), .v (.int .i64 x.fJob.fFunc), .v (.int .i64 x.fJob.fShared), .v (yc0_3.val), .v (yc0_4.val), .v (yc1_0.val), .v (yc2_0.val), .v (onil 3 s.2.1.length s.2.2.2), .v (yc3_0.val)]]))) (fun s => s.1 ≤ x.fParts.length ∧ OR DPart.o (x.fParts.take s.1) s.2.1 ∧ New gc3 (OV.rowsRows s.2.1) s.2.2.1 ∧ s.2.2.1 n2 = none ∧ s.2.2.1 n3 = none ∧ gside s.2.2.1 s.2.1 s.2.2.2 ∧ ∀ n : Nat, s.2.2.2 = some n → n ≠ n2 ∧ n ≠ n3) (fun s => x.fParts.length - s.1) (0, [], gc3, none) ?_ ?_
            · exact ⟨by simp [SatL, tget], (by intro q_; simp only [upd_get, oheap_none, oheap_some, onil_none, onil_some, take_cells, cells_snoc, cells_one, cells_nil, cellv_cons, cellv_nil, OV.val_v, List.nil_append, List.length_append, List.length_cons, List.length_nil, Nat.zero_add]; grind), Nat.zero_le _, trivial, New.nil _, z_n2, z_n3, rfl, by simp⟩
            rintro ⟨k, es, g_, o_⟩ ⟨hkk, hor, hnew, z_n2, z_n3, hos, hon⟩
            simp only at hkk hor hnew z_n2 z_n3 hos hon ⊢
            have hlen : es.length = k := by have := hor.length; simp at this; omega
            rcases Nat.lt_or_ge k x.fParts.length with hlt | hge
            · have ea : x.fParts[k]? = some x.fParts[k] := List.getElem?_eq_getElem hlt
              have hx := l08OwnPart x.fParts[k] (by have := sum_mem DPart.s (List.getElem_mem hlt); omega)
              simp only [DPart.c_eq] at hx
              cases o_ with
              | none =>
                rw [gside_none] at hos
                subst hos
                try simp (maxSteps := 1000000) -dsimp -implicitDefEqProofs only [go_sem, ↓reduceIte, keep78, ib78, mk78, Tryz.f78, upd_upd, upd_ne, en3_n2, fn3_n2, ea, hlt, oheap_none, onil_none, oc0_0.flat, oc0_0.one, oc0_3.flat, oc0_3.one, oc0_4.flat, oc0_4.one, oc1_0.flat, oc1_0.one, oc2_0.flat, oc2_0.one, oc3_0.flat, oc3_0.one, DPart.c_eq]
                try (with_reducible intro _)
                refine HFnF.wn2 (hx) z_n2 ⟨dn3_n2, z_n3⟩ ?_
                rintro r l_ gb ⟨e_b, oeb, rfl, rfl⟩ wb z_n2 z_n3
                have oob := oeb
                obtain ⟨yb_2, rfl, ob_2⟩ := oob
                try simp (maxSteps := 1000000) -dsimp -implicitDefEqProofs only [go_sem, ↓reduceIte, keep78, ib78, mk78, Tryz.f78, upd_upd, upd_ne, en3_n2, fn3_n2, ea, hlt, oheap_none, onil_none, oc0_0.flat, oc0_0.one, oc0_3.flat, oc0_3.one, oc0_4.flat, oc0_4.one, oc1_0.flat, oc1_0.one, oc2_0.flat, oc2_0.one, oc3_0.flat, oc3_0.one, ob_2.flat, ob_2.one, OV.map_val, OV.map_val_nil, OV.val_v, DPart.c_eq]
                repeat' (with_reducible first | refine And.intro (by first | omega | decide | rfl | trivial | exact Nat.le_of_eq (reps_len _ _).symm | exact Nat.le_of_eq (cells_len _).symm) ?_)
                intro m qm
                have dm_n3 : ¬ m = n3 := qm.1
                have em_n3 : (m = n3) = False := eq_false dm_n3
                have fm_n3 : (n3 = m) = False := eq_false (fun e => dm_n3 e.symm)
                have dn3_m : ¬ n3 = m := fun e => dm_n3 e.symm
                have dm_n2 : ¬ m = n2 := qm.2.1
                have em_n2 : (m = n2) = False := eq_false dm_n2
                have fm_n2 : (n2 = m) = False := eq_false (fun e => dm_n2 e.symm)
                have dn2_m : ¬ n2 = m := fun e => dm_n2 e.symm
                have z_m := qm.2.2
                try simp (maxSteps := 1000000) -dsimp -implicitDefEqProofs only [go_sem, ↓reduceIte, keep78, ib78, mk78, Tryz.f78, upd_upd, upd_ne, en3_n2, fn3_n2, em_n3, fm_n3, em_n2, fm_n2, ea, hlt, oheap_none, onil_none, oc0_0.flat, oc0_0.one, oc0_3.flat, oc0_3.one, oc0_4.flat, oc0_4.one, oc1_0.flat, oc1_0.one, oc2_0.flat, oc2_0.one, oc3_0.flat, oc3_0.one, ob_2.flat, ob_2.one, OV.map_val, OV.map_val_nil, OV.val_v]
                refine ⟨(k + 1, ([] : List (List OV)) ++ [[.v (.int .i64 x.fParts[k].fCode), .v (.int .i64 x.fParts[k].fValue), yb_2]], gb, some m), ?_⟩
                simp only
                refine ⟨?_, (by intro q_; simp only [upd_get, oheap_none, oheap_some, onil_none, onil_some, take_cells, cells_snoc, cells_one, cells_nil, cellv_cons, cellv_nil, OV.val_v, List.nil_append, List.length_append, List.length_cons, List.length_nil, Nat.zero_add]; grind), ⟨by omega, OR.snoc hor hlt oeb, hnew.snoc wb, z_n2, z_n3, z_m, (fun n_ e_ => by obtain rfl := Option.some.inj e_; exact ⟨dm_n2, dm_n3⟩)⟩, by omega⟩
                all_goals (repeat' (with_reducible refine And.intro ?_ ?_))
                all_goals first | rfl | trivial | (rw [IntWalk.i64_in _ (by omega)]; omega)
              | some n =>
                rw [gside_some] at hos
                have z_n := hos
                have hn := hon n rfl
                have dn_n2 : ¬ n = n2 := hn.1
                have en_n2 : (n = n2) = False := eq_false dn_n2
                have fn_n2 : (n2 = n) = False := eq_false (fun e => dn_n2 e.symm)
                have dn2_n : ¬ n2 = n := fun e => dn_n2 e.symm
                have dn_n3 : ¬ n = n3 := hn.2
                have en_n3 : (n = n3) = False := eq_false dn_n3
                have fn_n3 : (n3 = n) = False := eq_false (fun e => dn_n3 e.symm)
                have dn3_n : ¬ n3 = n := fun e => dn_n3 e.symm
                try simp (maxSteps := 1000000) -dsimp -implicitDefEqProofs only [go_sem, ↓reduceIte, keep78, ib78, mk78, Tryz.f78, upd_upd, upd_ne, en3_n2, fn3_n2, en_n2, fn_n2, en_n3, fn_n3, ea, hlt, oheap_some, onil_some, oc0_0.flat, oc0_0.one, oc0_3.flat, oc0_3.one, oc0_4.flat, oc0_4.one, oc1_0.flat, oc1_0.one, oc2_0.flat, oc2_0.one, oc3_0.flat, oc3_0.one, DPart.c_eq]
                try (with_reducible intro _)
                refine HFnF.wn3 (hx) z_n ⟨dn2_n, z_n2⟩ ⟨dn3_n2, dn3_n, z_n3⟩ ?_
                rintro r l_ gb ⟨e_b, oeb, rfl, rfl⟩ wb z_n z_n2 z_n3
                have oob := oeb
                obtain ⟨yb_2, rfl, ob_2⟩ := oob
                try simp (maxSteps := 1000000) -dsimp -implicitDefEqProofs only [go_sem, ↓reduceIte, keep78, ib78, mk78, Tryz.f78, upd_upd, upd_ne, en3_n2, fn3_n2, en_n2, fn_n2, en_n3, fn_n3, ea, hlt, oheap_some, onil_some, oc0_0.flat, oc0_0.one, oc0_3.flat, oc0_3.one, oc0_4.flat, oc0_4.one, oc1_0.flat, oc1_0.one, oc2_0.flat, oc2_0.one, oc3_0.flat, oc3_0.one, ob_2.flat, ob_2.one, OV.map_val, OV.map_val_nil, OV.val_v, DPart.c_eq]
                repeat' (with_reducible first | refine And.intro (by first | omega | decide | rfl | trivial | exact Nat.le_of_eq (reps_len _ _).symm | exact Nat.le_of_eq (cells_len _).symm) ?_)
                intro m qm
                have dm_n3 : ¬ m = n3 := qm.1
                have em_n3 : (m = n3) = False := eq_false dm_n3
                have fm_n3 : (n3 = m) = False := eq_false (fun e => dm_n3 e.symm)
                have dn3_m : ¬ n3 = m := fun e => dm_n3 e.symm
                have dm_n2 : ¬ m = n2 := qm.2.1
                have em_n2 : (m = n2) = False := eq_false dm_n2
                have fm_n2 : (n2 = m) = False := eq_false (fun e => dm_n2 e.symm)
                have dn2_m : ¬ n2 = m := fun e => dm_n2 e.symm
                have dm_n : ¬ m = n := qm.2.2.1
                have em_n : (m = n) = False := eq_false dm_n
                have fm_n : (n = m) = False := eq_false (fun e => dm_n e.symm)
                have dn_m : ¬ n = m := fun e => dm_n e.symm
                have z_m := qm.2.2.2
                try simp (maxSteps := 1000000) -dsimp -implicitDefEqProofs only [go_sem, ↓reduceIte, keep78, ib78, mk78, Tryz.f78, upd_upd, upd_ne, en3_n2, fn3_n2, en_n2, fn_n2, en_n3, fn_n3, em_n3, fm_n3, em_n2, fm_n2, em_n, fm_n, ea, hlt, oheap_some, onil_some, oc0_0.flat, oc0_0.one, oc0_3.flat, oc0_3.one, oc0_4.flat, oc0_4.one, oc1_0.flat, oc1_0.one, oc2_0.flat, oc2_0.one, oc3_0.flat, oc3_0.one, ob_2.flat, ob_2.one, OV.map_val, OV.map_val_nil, OV.val_v]
                refine ⟨(k + 1, es ++ [[.v (.int .i64 x.fParts[k].fCode), .v (.int .i64 x.fParts[k].fValue), yb_2]], gb, some m), ?_⟩
                simp only
                refine ⟨?_, (by intro q_; simp only [upd_get, oheap_none, oheap_some, onil_none, onil_some, take_cells, cells_snoc, cells_one, cells_nil, cellv_cons, cellv_nil, OV.val_v, List.nil_append, List.length_append, List.length_cons, List.length_nil, Nat.zero_add]; grind), ⟨by omega, OR.snoc hor hlt oeb, hnew.snoc wb, z_n2, z_n3, z_m, (fun n_ e_ => by obtain rfl := Option.some.inj e_; exact ⟨dm_n2, dm_n3⟩)⟩, by omega⟩
                all_goals (repeat' (with_reducible refine And.intro ?_ ?_))
                all_goals first | rfl | trivial | (rw [IntWalk.i64_in _ (by omega)]; omega)
            · have hk2 : k = x.fParts.length := by omega
              subst hk2
              rw [List.take_length] at hor
              have zz_n2 : oheap g_ (.row 3 (OV.cells es)) o_ n2 = none := oheap_at z_n2 fun n_ e_ => (hon n_ e_).1
              have zz_n3 : oheap g_ (.row 3 (OV.cells es)) o_ n3 = none := oheap_at z_n3 fun n_ e_ => (hon n_ e_).2
              try simp (maxSteps := 1000000) -dsimp -implicitDefEqProofs only [go_sem, ↓reduceIte, keep78, ib78, mk78, Tryz.f78, upd_upd, upd_ne, en3_n2, fn3_n2, onil_flat, onil_cells, oc0_0.flat, oc0_0.one, oc0_3.flat, oc0_3.one, oc0_4.flat, oc0_4.one, oc1_0.flat, oc1_0.one, oc2_0.flat, oc2_0.one, oc3_0.flat, oc3_0.one, Nat.lt_irrefl]
              try (with_reducible intro _)
              refine ⟨_, (oheap g_ (.row 3 (OV.cells es)) o_), _, Shift.of (Sub.agg (SubL.cons (Sub.refl _) (SubL.cons (Sub.refl _) (SubL.cons (Sub.refl _) (SubL.cons (Sub.refl _) (SubL.cons (Sub.refl _) (SubL.cons (Sub.refl _) (SubL.cons (Sub.refl _) (SubL.cons gov_sub (SubL.cons (Sub.refl _) SubL.nil)))))))))) (by intro q_; simp only [upd_get, oheap_none, oheap_some, onil_none, onil_some, take_cells, cells_snoc, cells_one, cells_nil, cellv_cons, cellv_nil, OV.val_v, List.nil_append, List.length_append, List.length_cons, List.length_nil, Nat.zero_add]; grind), ⟨[yc0_0, .v (.int .i64 x.fJob.fFunc), .v (.int .i64 x.fJob.fShared), yc0_3, yc0_4, yc1_0, yc2_0, (gov 3 es o_), yc3_0], ?_, rfl, rfl⟩, ?_⟩
              · exact ⟨yc0_0, yc0_3, yc0_4, yc1_0, yc2_0, (gov 3 es o_), yc3_0, rfl, oc0_0, oc0_3, oc0_4, oc1_0, oc2_0, gov_os hor hos, oc3_0⟩
              · have hq := (New.append (New.append (New.append (New.append wc0 wc1) wc2) wc3) (gov_new (sz := 3) hnew hos))
                refine New.perm (a := _) hq ?_
                simp only [OV.row_cons, OV.row_nil, OV.v_rows, OV.nil_rows, List.nil_append, List.append_nil, List.append_assoc]
                first | exact List.Perm.refl _ | (simp only [← List.append_assoc]; exact perm_last _ _ _) | (simp only [← List.append_assoc]; exact perm_last1 _ _) 
      ·
        intro n3 qn3
        have dn3_n2 : ¬ n3 = n2 := qn3.1
        have en3_n2 : (n3 = n2) = False := eq_false dn3_n2
        have fn3_n2 : (n2 = n3) = False := eq_false (fun e => dn3_n2 e.symm)
        have dn2_n3 : ¬ n2 = n3 := fun e => dn3_n2 e.symm
        have z_n3 := qn3.2
        try simp (maxSteps := 1000000) -dsimp -implicitDefEqProofs only [go_sem, ↓reduceIte, keep78, ib78, mk78, Tryz.f78, upd_upd, upd_ne, en3_n2, fn3_n2, oc0_0.flat, oc0_0.one, oc0_3.flat, oc0_3.one, oc0_4.flat, oc0_4.one, oc1_0.flat, oc1_0.one, OV.map_val, OV.map_val_nil, OV.val_v]
        try (with_reducible refine And.intro Nat.zero_lt_one ?_)
        refine ⟨fun hnc2 => ?_, fun hnc2 => ?_⟩
        ·
          try simp (maxSteps := 1000000) -dsimp -implicitDefEqProofs only [go_sem, ↓reduceIte, keep78, ib78, mk78, Tryz.f78, upd_upd, upd_ne, en3_n2, fn3_n2, oc0_0.flat, oc0_0.one, oc0_3.flat, oc0_3.one, oc0_4.flat, oc0_4.one, oc1_0.flat, oc1_0.one, OV.map_val, OV.map_val_nil, OV.val_v]
          refine HFnF.wn2 (l00Own x.fOwners (by omega)) z_n2 ⟨dn3_n2, z_n3⟩ ?_
          rintro r l_ gc3 ⟨yc3_0, oc3_0, rfl, rfl⟩ wc3 z_n2 z_n3
          try simp (maxSteps := 1000000) -dsimp -implicitDefEqProofs only [go_sem, ↓reduceIte, keep78, ib78, mk78, Tryz.f78, upd_upd, upd_ne, en3_n2, fn3_n2, oc0_0.flat, oc0_0.one, oc0_3.flat, oc0_3.one, oc0_4.flat, oc0_4.one, oc1_0.flat, oc1_0.one, oc3_0.flat, oc3_0.one, OV.map_val, OV.map_val_nil, OV.val_v]
          repeat' (with_reducible first | refine And.intro (by first | omega | decide | rfl | trivial | exact Nat.le_of_eq (reps_len _ _).symm | exact Nat.le_of_eq (cells_len _).symm) ?_)
          try (with_reducible intro _)
          refine loopF (keep := keep78) (ib := ib78) (mk := mk78) mix (by kernel_rfl) (fun s : Nat × List (List OV) × Heap × Option Nat => [(0, .ip 9 [[(sls 3 DFunc.c x.fJob.fProgram.fFuncs), (.int .i64 x.fJob.fFunc), (.int .i64 x.fJob.fShared), (sls 1 (fun n => [I n]) x.fJob.fPoint), (sls 1 (fun x => [sls 1 (fun n => [I n]) x]) x.fJob.fTerms), (sls 1 (fun n => [I n]) x.fStamps), (sls 1 (fun b => [.bool b]) x.fKnown), (sls 3 DPart.c x.fParts), (sls 1 (fun n => [I n]) x.fOwners)]] 0 0), (2, .op n2 9 0 0), (3, .op n3 9 0 0), (4, (I s.1))]) (fun s => (upd (upd (oheap s.2.2.1 (.row 3 (OV.cells s.2.1)) s.2.2.2) n2 (.row 9 [[.v (.nilsl), .v (.int .i64 0), .v (.int .i64 0), .v (.nilsl), .v (.nilsl), .v (.nilsl), .v (.nilsl), .v (.nilsl), .v (.nilsl)]])) n3 (.row 9 [[.v (yc0_0.val), .v (.int .i64 x.fJob.fFunc), .v (.int .i64 x.fJob.fShared), .v (yc0_3.val), .v (yc0_4.val), .v (yc1_0.val), .v (.sl 1 [] true), .v (onil 3 s.2.1.length s.2.2.2), .v (yc3_0.val)]]))) (fun s => s.1 ≤ x.fParts.length ∧ OR DPart.o (x.fParts.take s.1) s.2.1 ∧ New gc3 (OV.rowsRows s.2.1) s.2.2.1 ∧ s.2.2.1 n2 = none ∧ s.2.2.1 n3 = none ∧ gside s.2.2.1 s.2.1 s.2.2.2 ∧ ∀ n : Nat, s.2.2.2 = some n → n ≠ n2 ∧ n ≠ n3) (fun s => x.fParts.length - s.1) (0, [], gc3, none) ?_ ?_
          · exact ⟨by simp [SatL, tget], (by intro q_; simp only [upd_get, oheap_none, oheap_some, onil_none, onil_some, take_cells, cells_snoc, cells_one, cells_nil, cellv_cons, cellv_nil, OV.val_v, List.nil_append, List.length_append, List.length_cons, List.length_nil, Nat.zero_add]; grind), Nat.zero_le _, trivial, New.nil _, z_n2, z_n3, rfl, by simp⟩
          rintro ⟨k, es, g_, o_⟩ ⟨hkk, hor, hnew, z_n2, z_n3, hos, hon⟩
          simp only at hkk hor hnew z_n2 z_n3 hos hon ⊢
          have hlen : es.length = k := by have := hor.length; simp at this; omega
          rcases Nat.lt_or_ge k x.fParts.length with hlt | hge
          · have ea : x.fParts[k]? = some x.fParts[k] := List.getElem?_eq_getElem hlt
            have hx := l08OwnPart x.fParts[k] (by have := sum_mem DPart.s (List.getElem_mem hlt); omega)
            simp only [DPart.c_eq] at hx
            cases o_ with
            | none =>
              rw [gside_none] at hos
              subst hos
              try simp (maxSteps := 1000000) -dsimp -implicitDefEqProofs only [go_sem, ↓reduceIte, keep78, ib78, mk78, Tryz.f78, upd_upd, upd_ne, en3_n2, fn3_n2, ea, hlt, oheap_none, onil_none, oc0_0.flat, oc0_0.one, oc0_3.flat, oc0_3.one, oc0_4.flat, oc0_4.one, oc1_0.flat, oc1_0.one, oc3_0.flat, oc3_0.one, DPart.c_eq]
              try (with_reducible intro _)
              refine HFnF.wn2 (hx) z_n2 ⟨dn3_n2, z_n3⟩ ?_
              rintro r l_ gb ⟨e_b, oeb, rfl, rfl⟩ wb z_n2 z_n3
              have oob := oeb
              obtain ⟨yb_2, rfl, ob_2⟩ := oob
              try simp (maxSteps := 1000000) -dsimp -implicitDefEqProofs only [go_sem, ↓reduceIte, keep78, ib78, mk78, Tryz.f78, upd_upd, upd_ne, en3_n2, fn3_n2, ea, hlt, oheap_none, onil_none, oc0_0.flat, oc0_0.one, oc0_3.flat, oc0_3.one, oc0_4.flat, oc0_4.one, oc1_0.flat, oc1_0.one, oc3_0.flat, oc3_0.one, ob_2.flat, ob_2.one, OV.map_val, OV.map_val_nil, OV.val_v, DPart.c_eq]
              repeat' (with_reducible first | refine And.intro (by first | omega | decide | rfl | trivial | exact Nat.le_of_eq (reps_len _ _).symm | exact Nat.le_of_eq (cells_len _).symm) ?_)
              intro m qm
              have dm_n3 : ¬ m = n3 := qm.1
              have em_n3 : (m = n3) = False := eq_false dm_n3
              have fm_n3 : (n3 = m) = False := eq_false (fun e => dm_n3 e.symm)
              have dn3_m : ¬ n3 = m := fun e => dm_n3 e.symm
              have dm_n2 : ¬ m = n2 := qm.2.1
              have em_n2 : (m = n2) = False := eq_false dm_n2
              have fm_n2 : (n2 = m) = False := eq_false (fun e => dm_n2 e.symm)
              have dn2_m : ¬ n2 = m := fun e => dm_n2 e.symm
              have z_m := qm.2.2
              try simp (maxSteps := 1000000) -dsimp -implicitDefEqProofs only [go_sem, ↓reduceIte, keep78, ib78, mk78, Tryz.f78, upd_upd, upd_ne, en3_n2, fn3_n2, em_n3, fm_n3, em_n2, fm_n2, ea, hlt, oheap_none, onil_none, oc0_0.flat, oc0_0.one, oc0_3.flat, oc0_3.one, oc0_4.flat, oc0_4.one, oc1_0.flat, oc1_0.one, oc3_0.flat, oc3_0.one, ob_2.flat, ob_2.one, OV.map_val, OV.map_val_nil, OV.val_v]
              refine ⟨(k + 1, ([] : List (List OV)) ++ [[.v (.int .i64 x.fParts[k].fCode), .v (.int .i64 x.fParts[k].fValue), yb_2]], gb, some m), ?_⟩
              simp only
              refine ⟨?_, (by intro q_; simp only [upd_get, oheap_none, oheap_some, onil_none, onil_some, take_cells, cells_snoc, cells_one, cells_nil, cellv_cons, cellv_nil, OV.val_v, List.nil_append, List.length_append, List.length_cons, List.length_nil, Nat.zero_add]; grind), ⟨by omega, OR.snoc hor hlt oeb, hnew.snoc wb, z_n2, z_n3, z_m, (fun n_ e_ => by obtain rfl := Option.some.inj e_; exact ⟨dm_n2, dm_n3⟩)⟩, by omega⟩
              all_goals (repeat' (with_reducible refine And.intro ?_ ?_))
              all_goals first | rfl | trivial | (rw [IntWalk.i64_in _ (by omega)]; omega)
            | some n =>
              rw [gside_some] at hos
              have z_n := hos
              have hn := hon n rfl
              have dn_n2 : ¬ n = n2 := hn.1
              have en_n2 : (n = n2) = False := eq_false dn_n2
              have fn_n2 : (n2 = n) = False := eq_false (fun e => dn_n2 e.symm)
              have dn2_n : ¬ n2 = n := fun e => dn_n2 e.symm
              have dn_n3 : ¬ n = n3 := hn.2
              have en_n3 : (n = n3) = False := eq_false dn_n3
              have fn_n3 : (n3 = n) = False := eq_false (fun e => dn_n3 e.symm)
              have dn3_n : ¬ n3 = n := fun e => dn_n3 e.symm
              try simp (maxSteps := 1000000) -dsimp -implicitDefEqProofs only [go_sem, ↓reduceIte, keep78, ib78, mk78, Tryz.f78, upd_upd, upd_ne, en3_n2, fn3_n2, en_n2, fn_n2, en_n3, fn_n3, ea, hlt, oheap_some, onil_some, oc0_0.flat, oc0_0.one, oc0_3.flat, oc0_3.one, oc0_4.flat, oc0_4.one, oc1_0.flat, oc1_0.one, oc3_0.flat, oc3_0.one, DPart.c_eq]
              try (with_reducible intro _)
              refine HFnF.wn3 (hx) z_n ⟨dn2_n, z_n2⟩ ⟨dn3_n2, dn3_n, z_n3⟩ ?_
              rintro r l_ gb ⟨e_b, oeb, rfl, rfl⟩ wb z_n z_n2 z_n3
              have oob := oeb
              obtain ⟨yb_2, rfl, ob_2⟩ := oob
              try simp (maxSteps := 1000000) -dsimp -implicitDefEqProofs only [go_sem, ↓reduceIte, keep78, ib78, mk78, Tryz.f78, upd_upd, upd_ne, en3_n2, fn3_n2, en_n2, fn_n2, en_n3, fn_n3, ea, hlt, oheap_some, onil_some, oc0_0.flat, oc0_0.one, oc0_3.flat, oc0_3.one, oc0_4.flat, oc0_4.one, oc1_0.flat, oc1_0.one, oc3_0.flat, oc3_0.one, ob_2.flat, ob_2.one, OV.map_val, OV.map_val_nil, OV.val_v, DPart.c_eq]
              repeat' (with_reducible first | refine And.intro (by first | omega | decide | rfl | trivial | exact Nat.le_of_eq (reps_len _ _).symm | exact Nat.le_of_eq (cells_len _).symm) ?_)
              intro m qm
              have dm_n3 : ¬ m = n3 := qm.1
              have em_n3 : (m = n3) = False := eq_false dm_n3
              have fm_n3 : (n3 = m) = False := eq_false (fun e => dm_n3 e.symm)
              have dn3_m : ¬ n3 = m := fun e => dm_n3 e.symm
              have dm_n2 : ¬ m = n2 := qm.2.1
              have em_n2 : (m = n2) = False := eq_false dm_n2
              have fm_n2 : (n2 = m) = False := eq_false (fun e => dm_n2 e.symm)
              have dn2_m : ¬ n2 = m := fun e => dm_n2 e.symm
              have dm_n : ¬ m = n := qm.2.2.1
              have em_n : (m = n) = False := eq_false dm_n
              have fm_n : (n = m) = False := eq_false (fun e => dm_n e.symm)
              have dn_m : ¬ n = m := fun e => dm_n e.symm
              have z_m := qm.2.2.2
              try simp (maxSteps := 1000000) -dsimp -implicitDefEqProofs only [go_sem, ↓reduceIte, keep78, ib78, mk78, Tryz.f78, upd_upd, upd_ne, en3_n2, fn3_n2, en_n2, fn_n2, en_n3, fn_n3, em_n3, fm_n3, em_n2, fm_n2, em_n, fm_n, ea, hlt, oheap_some, onil_some, oc0_0.flat, oc0_0.one, oc0_3.flat, oc0_3.one, oc0_4.flat, oc0_4.one, oc1_0.flat, oc1_0.one, oc3_0.flat, oc3_0.one, ob_2.flat, ob_2.one, OV.map_val, OV.map_val_nil, OV.val_v]
              refine ⟨(k + 1, es ++ [[.v (.int .i64 x.fParts[k].fCode), .v (.int .i64 x.fParts[k].fValue), yb_2]], gb, some m), ?_⟩
              simp only
              refine ⟨?_, (by intro q_; simp only [upd_get, oheap_none, oheap_some, onil_none, onil_some, take_cells, cells_snoc, cells_one, cells_nil, cellv_cons, cellv_nil, OV.val_v, List.nil_append, List.length_append, List.length_cons, List.length_nil, Nat.zero_add]; grind), ⟨by omega, OR.snoc hor hlt oeb, hnew.snoc wb, z_n2, z_n3, z_m, (fun n_ e_ => by obtain rfl := Option.some.inj e_; exact ⟨dm_n2, dm_n3⟩)⟩, by omega⟩
              all_goals (repeat' (with_reducible refine And.intro ?_ ?_))
              all_goals first | rfl | trivial | (rw [IntWalk.i64_in _ (by omega)]; omega)
          · have hk2 : k = x.fParts.length := by omega
            subst hk2
            rw [List.take_length] at hor
            have zz_n2 : oheap g_ (.row 3 (OV.cells es)) o_ n2 = none := oheap_at z_n2 fun n_ e_ => (hon n_ e_).1
            have zz_n3 : oheap g_ (.row 3 (OV.cells es)) o_ n3 = none := oheap_at z_n3 fun n_ e_ => (hon n_ e_).2
            try simp (maxSteps := 1000000) -dsimp -implicitDefEqProofs only [go_sem, ↓reduceIte, keep78, ib78, mk78, Tryz.f78, upd_upd, upd_ne, en3_n2, fn3_n2, onil_flat, onil_cells, oc0_0.flat, oc0_0.one, oc0_3.flat, oc0_3.one, oc0_4.flat, oc0_4.one, oc1_0.flat, oc1_0.one, oc3_0.flat, oc3_0.one, Nat.lt_irrefl]
            try (with_reducible intro _)
            refine ⟨_, (oheap g_ (.row 3 (OV.cells es)) o_), _, Shift.of (Sub.agg (SubL.cons (Sub.refl _) (SubL.cons (Sub.refl _) (SubL.cons (Sub.refl _) (SubL.cons (Sub.refl _) (SubL.cons (Sub.refl _) (SubL.cons (Sub.refl _) (SubL.cons (Sub.refl _) (SubL.cons gov_sub (SubL.cons (Sub.refl _) SubL.nil)))))))))) (by intro q_; simp only [upd_get, oheap_none, oheap_some, onil_none, onil_some, take_cells, cells_snoc, cells_one, cells_nil, cellv_cons, cellv_nil, OV.val_v, List.nil_append, List.length_append, List.length_cons, List.length_nil, Nat.zero_add]; grind), ⟨[yc0_0, .v (.int .i64 x.fJob.fFunc), .v (.int .i64 x.fJob.fShared), yc0_3, yc0_4, yc1_0, (.nil 1), (gov 3 es o_), yc3_0], ?_, rfl, rfl⟩, ?_⟩
            · exact ⟨yc0_0, yc0_3, yc0_4, yc1_0, (.nil 1), (gov 3 es o_), yc3_0, rfl, oc0_0, oc0_3, oc0_4, oc1_0, (.inl ⟨rfl, by simpa using hnc2⟩), gov_os hor hos, oc3_0⟩
            · have hq := (New.append (New.append (New.append wc0 wc1) wc3) (gov_new (sz := 3) hnew hos))
              refine New.perm (a := _) hq ?_
              simp only [OV.row_cons, OV.row_nil, OV.v_rows, OV.nil_rows, List.nil_append, List.append_nil, List.append_assoc]
              first | exact List.Perm.refl _ | (simp only [← List.append_assoc]; exact perm_last _ _ _) | (simp only [← List.append_assoc]; exact perm_last1 _ _) 
        ·
          repeat' (with_reducible first | refine And.intro (by first | omega | decide | rfl | trivial | exact Nat.le_of_eq (reps_len _ _).symm | exact Nat.le_of_eq (cells_len _).symm) ?_)
          intro mc2 qmc2
          have dmc2_n3 : ¬ mc2 = n3 := qmc2.1
          have emc2_n3 : (mc2 = n3) = False := eq_false dmc2_n3
          have fmc2_n3 : (n3 = mc2) = False := eq_false (fun e => dmc2_n3 e.symm)
          have dn3_mc2 : ¬ n3 = mc2 := fun e => dmc2_n3 e.symm
          have dmc2_n2 : ¬ mc2 = n2 := qmc2.2.1
          have emc2_n2 : (mc2 = n2) = False := eq_false dmc2_n2
          have fmc2_n2 : (n2 = mc2) = False := eq_false (fun e => dmc2_n2 e.symm)
          have dn2_mc2 : ¬ n2 = mc2 := fun e => dmc2_n2 e.symm
          have z_mc2 := qmc2.2.2
          simp only [upd_swap dn2_mc2, upd_swap dn3_mc2]
          obtain ⟨yc2_0, gc2, oc2_0, vc2, wc2, hgc2⟩ := app_row HVal.bool (l := x.fKnown) (sz := 1) z_mc2
          simp only [← hgc2, ← vc2]
          have z_n2 : gc2 n2 = none := by rw [hgc2, upd_ne _ _ _ _ dn2_mc2]; exact z_n2
          have z_n3 : gc2 n3 = none := by rw [hgc2, upd_ne _ _ _ _ dn3_mc2]; exact z_n3
          try simp (maxSteps := 1000000) -dsimp -implicitDefEqProofs only [go_sem, ↓reduceIte, keep78, ib78, mk78, Tryz.f78, upd_upd, upd_ne, en3_n2, fn3_n2, oc0_0.flat, oc0_0.one, oc0_3.flat, oc0_3.one, oc0_4.flat, oc0_4.one, oc1_0.flat, oc1_0.one, oc2_0.flat, oc2_0.one, OV.map_val, OV.map_val_nil, OV.val_v]
          refine HFnF.wn2 (l00Own x.fOwners (by omega)) z_n2 ⟨dn3_n2, z_n3⟩ ?_
          rintro r l_ gc3 ⟨yc3_0, oc3_0, rfl, rfl⟩ wc3 z_n2 z_n3
          try simp (maxSteps := 1000000) -dsimp -implicitDefEqProofs only [go_sem, ↓reduceIte, keep78, ib78, mk78, Tryz.f78, upd_upd, upd_ne, en3_n2, fn3_n2, oc0_0.flat, oc0_0.one, oc0_3.flat, oc0_3.one, oc0_4.flat, oc0_4.one, oc1_0.flat, oc1_0.one, oc2_0.flat, oc2_0.one, oc3_0.flat, oc3_0.one, OV.map_val, OV.map_val_nil, OV.val_v]
          repeat' (with_reducible first | refine And.intro (by first | omega | decide | rfl | trivial | exact Nat.le_of_eq (reps_len _ _).symm | exact Nat.le_of_eq (cells_len _).symm) ?_)
          try (with_reducible intro _)
          refine loopF (keep := keep78) (ib := ib78) (mk := mk78) mix (by kernel_rfl) (fun s : Nat × List (List OV) × Heap × Option Nat => [(0, .ip 9 [[(sls 3 DFunc.c x.fJob.fProgram.fFuncs), (.int .i64 x.fJob.fFunc), (.int .i64 x.fJob.fShared), (sls 1 (fun n => [I n]) x.fJob.fPoint), (sls 1 (fun x => [sls 1 (fun n => [I n]) x]) x.fJob.fTerms), (sls 1 (fun n => [I n]) x.fStamps), (sls 1 (fun b => [.bool b]) x.fKnown), (sls 3 DPart.c x.fParts), (sls 1 (fun n => [I n]) x.fOwners)]] 0 0), (2, .op n2 9 0 0), (3, .op n3 9 0 0), (4, (I s.1))]) (fun s => (upd (upd (oheap s.2.2.1 (.row 3 (OV.cells s.2.1)) s.2.2.2) n2 (.row 9 [[.v (.nilsl), .v (.int .i64 0), .v (.int .i64 0), .v (.nilsl), .v (.nilsl), .v (.nilsl), .v (.nilsl), .v (.nilsl), .v (.nilsl)]])) n3 (.row 9 [[.v (yc0_0.val), .v (.int .i64 x.fJob.fFunc), .v (.int .i64 x.fJob.fShared), .v (yc0_3.val), .v (yc0_4.val), .v (yc1_0.val), .v (yc2_0.val), .v (onil 3 s.2.1.length s.2.2.2), .v (yc3_0.val)]]))) (fun s => s.1 ≤ x.fParts.length ∧ OR DPart.o (x.fParts.take s.1) s.2.1 ∧ New gc3 (OV.rowsRows s.2.1) s.2.2.1 ∧ s.2.2.1 n2 = none ∧ s.2.2.1 n3 = none ∧ gside s.2.2.1 s.2.1 s.2.2.2 ∧ ∀ n : Nat, s.2.2.2 = some n → n ≠ n2 ∧ n ≠ n3) (fun s => x.fParts.length - s.1) (0, [], gc3, none) ?_ ?_
          · exact ⟨by simp [SatL, tget], (by intro q_; simp only [upd_get, oheap_none, oheap_some, onil_none, onil_some, take_cells, cells_snoc, cells_one, cells_nil, cellv_cons, cellv_nil, OV.val_v, List.nil_append, List.length_append, List.length_cons, List.length_nil, Nat.zero_add]; grind), Nat.zero_le _, trivial, New.nil _, z_n2, z_n3, rfl, by simp⟩
          rintro ⟨k, es, g_, o_⟩ ⟨hkk, hor, hnew, z_n2, z_n3, hos, hon⟩
          simp only at hkk hor hnew z_n2 z_n3 hos hon ⊢
          have hlen : es.length = k := by have := hor.length; simp at this; omega
          rcases Nat.lt_or_ge k x.fParts.length with hlt | hge
          · have ea : x.fParts[k]? = some x.fParts[k] := List.getElem?_eq_getElem hlt
            have hx := l08OwnPart x.fParts[k] (by have := sum_mem DPart.s (List.getElem_mem hlt); omega)
            simp only [DPart.c_eq] at hx
            cases o_ with
            | none =>
              rw [gside_none] at hos
              subst hos
              try simp (maxSteps := 1000000) -dsimp -implicitDefEqProofs only [go_sem, ↓reduceIte, keep78, ib78, mk78, Tryz.f78, upd_upd, upd_ne, en3_n2, fn3_n2, ea, hlt, oheap_none, onil_none, oc0_0.flat, oc0_0.one, oc0_3.flat, oc0_3.one, oc0_4.flat, oc0_4.one, oc1_0.flat, oc1_0.one, oc2_0.flat, oc2_0.one, oc3_0.flat, oc3_0.one, DPart.c_eq]
              try (with_reducible intro _)
              refine HFnF.wn2 (hx) z_n2 ⟨dn3_n2, z_n3⟩ ?_
              rintro r l_ gb ⟨e_b, oeb, rfl, rfl⟩ wb z_n2 z_n3
              have oob := oeb
              obtain ⟨yb_2, rfl, ob_2⟩ := oob
              try simp (maxSteps := 1000000) -dsimp -implicitDefEqProofs only [go_sem, ↓reduceIte, keep78, ib78, mk78, Tryz.f78, upd_upd, upd_ne, en3_n2, fn3_n2, ea, hlt, oheap_none, onil_none, oc0_0.flat, oc0_0.one, oc0_3.flat, oc0_3.one, oc0_4.flat, oc0_4.one, oc1_0.flat, oc1_0.one, oc2_0.flat, oc2_0.one, oc3_0.flat, oc3_0.one, ob_2.flat, ob_2.one, OV.map_val, OV.map_val_nil, OV.val_v, DPart.c_eq]
              repeat' (with_reducible first | refine And.intro (by first | omega | decide | rfl | trivial | exact Nat.le_of_eq (reps_len _ _).symm | exact Nat.le_of_eq (cells_len _).symm) ?_)
              intro m qm
              have dm_n3 : ¬ m = n3 := qm.1
              have em_n3 : (m = n3) = False := eq_false dm_n3
              have fm_n3 : (n3 = m) = False := eq_false (fun e => dm_n3 e.symm)
              have dn3_m : ¬ n3 = m := fun e => dm_n3 e.symm
              have dm_n2 : ¬ m = n2 := qm.2.1
              have em_n2 : (m = n2) = False := eq_false dm_n2
              have fm_n2 : (n2 = m) = False := eq_false (fun e => dm_n2 e.symm)
              have dn2_m : ¬ n2 = m := fun e => dm_n2 e.symm
              have z_m := qm.2.2
              try simp (maxSteps := 1000000) -dsimp -implicitDefEqProofs only [go_sem, ↓reduceIte, keep78, ib78, mk78, Tryz.f78, upd_upd, upd_ne, en3_n2, fn3_n2, em_n3, fm_n3, em_n2, fm_n2, ea, hlt, oheap_none, onil_none, oc0_0.flat, oc0_0.one, oc0_3.flat, oc0_3.one, oc0_4.flat, oc0_4.one, oc1_0.flat, oc1_0.one, oc2_0.flat, oc2_0.one, oc3_0.flat, oc3_0.one, ob_2.flat, ob_2.one, OV.map_val, OV.map_val_nil, OV.val_v]
              refine ⟨(k + 1, ([] : List (List OV)) ++ [[.v (.int .i64 x.fParts[k].fCode), .v (.int .i64 x.fParts[k].fValue), yb_2]], gb, some m), ?_⟩
              simp only
              refine ⟨?_, (by intro q_; simp only [upd_get, oheap_none, oheap_some, onil_none, onil_some, take_cells, cells_snoc, cells_one, cells_nil, cellv_cons, cellv_nil, OV.val_v, List.nil_append, List.length_append, List.length_cons, List.length_nil, Nat.zero_add]; grind), ⟨by omega, OR.snoc hor hlt oeb, hnew.snoc wb, z_n2, z_n3, z_m, (fun n_ e_ => by obtain rfl := Option.some.inj e_; exact ⟨dm_n2, dm_n3⟩)⟩, by omega⟩
              all_goals (repeat' (with_reducible refine And.intro ?_ ?_))
              all_goals first | rfl | trivial | (rw [IntWalk.i64_in _ (by omega)]; omega)
            | some n =>
              rw [gside_some] at hos
              have z_n := hos
              have hn := hon n rfl
              have dn_n2 : ¬ n = n2 := hn.1
              have en_n2 : (n = n2) = False := eq_false dn_n2
              have fn_n2 : (n2 = n) = False := eq_false (fun e => dn_n2 e.symm)
              have dn2_n : ¬ n2 = n := fun e => dn_n2 e.symm
              have dn_n3 : ¬ n = n3 := hn.2
              have en_n3 : (n = n3) = False := eq_false dn_n3
              have fn_n3 : (n3 = n) = False := eq_false (fun e => dn_n3 e.symm)
              have dn3_n : ¬ n3 = n := fun e => dn_n3 e.symm
              try simp (maxSteps := 1000000) -dsimp -implicitDefEqProofs only [go_sem, ↓reduceIte, keep78, ib78, mk78, Tryz.f78, upd_upd, upd_ne, en3_n2, fn3_n2, en_n2, fn_n2, en_n3, fn_n3, ea, hlt, oheap_some, onil_some, oc0_0.flat, oc0_0.one, oc0_3.flat, oc0_3.one, oc0_4.flat, oc0_4.one, oc1_0.flat, oc1_0.one, oc2_0.flat, oc2_0.one, oc3_0.flat, oc3_0.one, DPart.c_eq]
              try (with_reducible intro _)
              refine HFnF.wn3 (hx) z_n ⟨dn2_n, z_n2⟩ ⟨dn3_n2, dn3_n, z_n3⟩ ?_
              rintro r l_ gb ⟨e_b, oeb, rfl, rfl⟩ wb z_n z_n2 z_n3
              have oob := oeb
              obtain ⟨yb_2, rfl, ob_2⟩ := oob
              try simp (maxSteps := 1000000) -dsimp -implicitDefEqProofs only [go_sem, ↓reduceIte, keep78, ib78, mk78, Tryz.f78, upd_upd, upd_ne, en3_n2, fn3_n2, en_n2, fn_n2, en_n3, fn_n3, ea, hlt, oheap_some, onil_some, oc0_0.flat, oc0_0.one, oc0_3.flat, oc0_3.one, oc0_4.flat, oc0_4.one, oc1_0.flat, oc1_0.one, oc2_0.flat, oc2_0.one, oc3_0.flat, oc3_0.one, ob_2.flat, ob_2.one, OV.map_val, OV.map_val_nil, OV.val_v, DPart.c_eq]
              repeat' (with_reducible first | refine And.intro (by first | omega | decide | rfl | trivial | exact Nat.le_of_eq (reps_len _ _).symm | exact Nat.le_of_eq (cells_len _).symm) ?_)
              intro m qm
              have dm_n3 : ¬ m = n3 := qm.1
              have em_n3 : (m = n3) = False := eq_false dm_n3
              have fm_n3 : (n3 = m) = False := eq_false (fun e => dm_n3 e.symm)
              have dn3_m : ¬ n3 = m := fun e => dm_n3 e.symm
              have dm_n2 : ¬ m = n2 := qm.2.1
              have em_n2 : (m = n2) = False := eq_false dm_n2
              have fm_n2 : (n2 = m) = False := eq_false (fun e => dm_n2 e.symm)
              have dn2_m : ¬ n2 = m := fun e => dm_n2 e.symm
              have dm_n : ¬ m = n := qm.2.2.1
              have em_n : (m = n) = False := eq_false dm_n
              have fm_n : (n = m) = False := eq_false (fun e => dm_n e.symm)
              have dn_m : ¬ n = m := fun e => dm_n e.symm
              have z_m := qm.2.2.2
              try simp (maxSteps := 1000000) -dsimp -implicitDefEqProofs only [go_sem, ↓reduceIte, keep78, ib78, mk78, Tryz.f78, upd_upd, upd_ne, en3_n2, fn3_n2, en_n2, fn_n2, en_n3, fn_n3, em_n3, fm_n3, em_n2, fm_n2, em_n, fm_n, ea, hlt, oheap_some, onil_some, oc0_0.flat, oc0_0.one, oc0_3.flat, oc0_3.one, oc0_4.flat, oc0_4.one, oc1_0.flat, oc1_0.one, oc2_0.flat, oc2_0.one, oc3_0.flat, oc3_0.one, ob_2.flat, ob_2.one, OV.map_val, OV.map_val_nil, OV.val_v]
              refine ⟨(k + 1, es ++ [[.v (.int .i64 x.fParts[k].fCode), .v (.int .i64 x.fParts[k].fValue), yb_2]], gb, some m), ?_⟩
              simp only
              refine ⟨?_, (by intro q_; simp only [upd_get, oheap_none, oheap_some, onil_none, onil_some, take_cells, cells_snoc, cells_one, cells_nil, cellv_cons, cellv_nil, OV.val_v, List.nil_append, List.length_append, List.length_cons, List.length_nil, Nat.zero_add]; grind), ⟨by omega, OR.snoc hor hlt oeb, hnew.snoc wb, z_n2, z_n3, z_m, (fun n_ e_ => by obtain rfl := Option.some.inj e_; exact ⟨dm_n2, dm_n3⟩)⟩, by omega⟩
              all_goals (repeat' (with_reducible refine And.intro ?_ ?_))
              all_goals first | rfl | trivial | (rw [IntWalk.i64_in _ (by omega)]; omega)
          · have hk2 : k = x.fParts.length := by omega
            subst hk2
            rw [List.take_length] at hor
            have zz_n2 : oheap g_ (.row 3 (OV.cells es)) o_ n2 = none := oheap_at z_n2 fun n_ e_ => (hon n_ e_).1
            have zz_n3 : oheap g_ (.row 3 (OV.cells es)) o_ n3 = none := oheap_at z_n3 fun n_ e_ => (hon n_ e_).2
            try simp (maxSteps := 1000000) -dsimp -implicitDefEqProofs only [go_sem, ↓reduceIte, keep78, ib78, mk78, Tryz.f78, upd_upd, upd_ne, en3_n2, fn3_n2, onil_flat, onil_cells, oc0_0.flat, oc0_0.one, oc0_3.flat, oc0_3.one, oc0_4.flat, oc0_4.one, oc1_0.flat, oc1_0.one, oc2_0.flat, oc2_0.one, oc3_0.flat, oc3_0.one, Nat.lt_irrefl]
            try (with_reducible intro _)
            refine ⟨_, (oheap g_ (.row 3 (OV.cells es)) o_), _, Shift.of (Sub.agg (SubL.cons (Sub.refl _) (SubL.cons (Sub.refl _) (SubL.cons (Sub.refl _) (SubL.cons (Sub.refl _) (SubL.cons (Sub.refl _) (SubL.cons (Sub.refl _) (SubL.cons (Sub.refl _) (SubL.cons gov_sub (SubL.cons (Sub.refl _) SubL.nil)))))))))) (by intro q_; simp only [upd_get, oheap_none, oheap_some, onil_none, onil_some, take_cells, cells_snoc, cells_one, cells_nil, cellv_cons, cellv_nil, OV.val_v, List.nil_append, List.length_append, List.length_cons, List.length_nil, Nat.zero_add]; grind), ⟨[yc0_0, .v (.int .i64 x.fJob.fFunc), .v (.int .i64 x.fJob.fShared), yc0_3, yc0_4, yc1_0, yc2_0, (gov 3 es o_), yc3_0], ?_, rfl, rfl⟩, ?_⟩
            · exact ⟨yc0_0, yc0_3, yc0_4, yc1_0, yc2_0, (gov 3 es o_), yc3_0, rfl, oc0_0, oc0_3, oc0_4, oc1_0, oc2_0, gov_os hor hos, oc3_0⟩
            · have hq := (New.append (New.append (New.append (New.append wc0 wc1) wc2) wc3) (gov_new (sz := 3) hnew hos))
              refine New.perm (a := _) hq ?_
              simp only [OV.row_cons, OV.row_nil, OV.v_rows, OV.nil_rows, List.nil_append, List.append_nil, List.append_assoc]
              first | exact List.Perm.refl _ | (simp only [← List.append_assoc]; exact perm_last _ _ _) | (simp only [← List.append_assoc]; exact perm_last1 _ _) 
    ·
      intro n3 qn3
      have dn3_n2 : ¬ n3 = n2 := qn3.1
      have en3_n2 : (n3 = n2) = False := eq_false dn3_n2
      have fn3_n2 : (n2 = n3) = False := eq_false (fun e => dn3_n2 e.symm)
      have dn2_n3 : ¬ n2 = n3 := fun e => dn3_n2 e.symm
      have z_n3 := qn3.2
      try simp (maxSteps := 1000000) -dsimp -implicitDefEqProofs only [go_sem, ↓reduceIte, keep78, ib78, mk78, Tryz.f78, upd_upd, upd_ne, en3_n2, fn3_n2, oc0_0.flat, oc0_0.one, oc0_3.flat, oc0_3.one, oc0_4.flat, oc0_4.one, OV.map_val, OV.map_val_nil, OV.val_v]
      refine HFnF.wn2 (l00Own x.fStamps (by omega)) z_n2 ⟨dn3_n2, z_n3⟩ ?_
      rintro r l_ gc1 ⟨yc1_0, oc1_0, rfl, rfl⟩ wc1 z_n2 z_n3
      try simp (maxSteps := 1000000) -dsimp -implicitDefEqProofs only [go_sem, ↓reduceIte, keep78, ib78, mk78, Tryz.f78, upd_upd, upd_ne, en3_n2, fn3_n2, oc0_0.flat, oc0_0.one, oc0_3.flat, oc0_3.one, oc0_4.flat, oc0_4.one, oc1_0.flat, oc1_0.one, OV.map_val, OV.map_val_nil, OV.val_v]
      try (with_reducible refine And.intro Nat.zero_lt_one ?_)
      refine ⟨fun hnc2 => ?_, fun hnc2 => ?_⟩
      ·
        try simp (maxSteps := 1000000) -dsimp -implicitDefEqProofs only [go_sem, ↓reduceIte, keep78, ib78, mk78, Tryz.f78, upd_upd, upd_ne, en3_n2, fn3_n2, oc0_0.flat, oc0_0.one, oc0_3.flat, oc0_3.one, oc0_4.flat, oc0_4.one, oc1_0.flat, oc1_0.one, OV.map_val, OV.map_val_nil, OV.val_v]
        refine HFnF.wn2 (l00Own x.fOwners (by omega)) z_n2 ⟨dn3_n2, z_n3⟩ ?_
        rintro r l_ gc3 ⟨yc3_0, oc3_0, rfl, rfl⟩ wc3 z_n2 z_n3
        try simp (maxSteps := 1000000) -dsimp -implicitDefEqProofs only [go_sem, ↓reduceIte, keep78, ib78, mk78, Tryz.f78, upd_upd, upd_ne, en3_n2, fn3_n2, oc0_0.flat, oc0_0.one, oc0_3.flat, oc0_3.one, oc0_4.flat, oc0_4.one, oc1_0.flat, oc1_0.one, oc3_0.flat, oc3_0.one, OV.map_val, OV.map_val_nil, OV.val_v]
        repeat' (with_reducible first | refine And.intro (by first | omega | decide | rfl | trivial | exact Nat.le_of_eq (reps_len _ _).symm | exact Nat.le_of_eq (cells_len _).symm) ?_)
        try (with_reducible intro _)
        refine loopF (keep := keep78) (ib := ib78) (mk := mk78) mix (by kernel_rfl) (fun s : Nat × List (List OV) × Heap × Option Nat => [(0, .ip 9 [[(sls 3 DFunc.c x.fJob.fProgram.fFuncs), (.int .i64 x.fJob.fFunc), (.int .i64 x.fJob.fShared), (sls 1 (fun n => [I n]) x.fJob.fPoint), (sls 1 (fun x => [sls 1 (fun n => [I n]) x]) x.fJob.fTerms), (sls 1 (fun n => [I n]) x.fStamps), (sls 1 (fun b => [.bool b]) x.fKnown), (sls 3 DPart.c x.fParts), (sls 1 (fun n => [I n]) x.fOwners)]] 0 0), (2, .op n2 9 0 0), (3, .op n3 9 0 0), (4, (I s.1))]) (fun s => (upd (upd (oheap s.2.2.1 (.row 3 (OV.cells s.2.1)) s.2.2.2) n2 (.row 9 [[.v (.nilsl), .v (.int .i64 0), .v (.int .i64 0), .v (.nilsl), .v (.nilsl), .v (.nilsl), .v (.nilsl), .v (.nilsl), .v (.nilsl)]])) n3 (.row 9 [[.v (yc0_0.val), .v (.int .i64 x.fJob.fFunc), .v (.int .i64 x.fJob.fShared), .v (yc0_3.val), .v (yc0_4.val), .v (yc1_0.val), .v (.sl 1 [] true), .v (onil 3 s.2.1.length s.2.2.2), .v (yc3_0.val)]]))) (fun s => s.1 ≤ x.fParts.length ∧ OR DPart.o (x.fParts.take s.1) s.2.1 ∧ New gc3 (OV.rowsRows s.2.1) s.2.2.1 ∧ s.2.2.1 n2 = none ∧ s.2.2.1 n3 = none ∧ gside s.2.2.1 s.2.1 s.2.2.2 ∧ ∀ n : Nat, s.2.2.2 = some n → n ≠ n2 ∧ n ≠ n3) (fun s => x.fParts.length - s.1) (0, [], gc3, none) ?_ ?_
        · exact ⟨by simp [SatL, tget], (by intro q_; simp only [upd_get, oheap_none, oheap_some, onil_none, onil_some, take_cells, cells_snoc, cells_one, cells_nil, cellv_cons, cellv_nil, OV.val_v, List.nil_append, List.length_append, List.length_cons, List.length_nil, Nat.zero_add]; grind), Nat.zero_le _, trivial, New.nil _, z_n2, z_n3, rfl, by simp⟩
        rintro ⟨k, es, g_, o_⟩ ⟨hkk, hor, hnew, z_n2, z_n3, hos, hon⟩
        simp only at hkk hor hnew z_n2 z_n3 hos hon ⊢
        have hlen : es.length = k := by have := hor.length; simp at this; omega
        rcases Nat.lt_or_ge k x.fParts.length with hlt | hge
        · have ea : x.fParts[k]? = some x.fParts[k] := List.getElem?_eq_getElem hlt
          have hx := l08OwnPart x.fParts[k] (by have := sum_mem DPart.s (List.getElem_mem hlt); omega)
          simp only [DPart.c_eq] at hx
          cases o_ with
          | none =>
            rw [gside_none] at hos
            subst hos
            try simp (maxSteps := 1000000) -dsimp -implicitDefEqProofs only [go_sem, ↓reduceIte, keep78, ib78, mk78, Tryz.f78, upd_upd, upd_ne, en3_n2, fn3_n2, ea, hlt, oheap_none, onil_none, oc0_0.flat, oc0_0.one, oc0_3.flat, oc0_3.one, oc0_4.flat, oc0_4.one, oc1_0.flat, oc1_0.one, oc3_0.flat, oc3_0.one, DPart.c_eq]
            try (with_reducible intro _)
            refine HFnF.wn2 (hx) z_n2 ⟨dn3_n2, z_n3⟩ ?_
            rintro r l_ gb ⟨e_b, oeb, rfl, rfl⟩ wb z_n2 z_n3
            have oob := oeb
            obtain ⟨yb_2, rfl, ob_2⟩ := oob
            try simp (maxSteps := 1000000) -dsimp -implicitDefEqProofs only [go_sem, ↓reduceIte, keep78, ib78, mk78, Tryz.f78, upd_upd, upd_ne, en3_n2, fn3_n2, ea, hlt, oheap_none, onil_none, oc0_0.flat, oc0_0.one, oc0_3.flat, oc0_3.one, oc0_4.flat, oc0_4.one, oc1_0.flat, oc1_0.one, oc3_0.flat, oc3_0.one, ob_2.flat, ob_2.one, OV.map_val, OV.map_val_nil, OV.val_v, DPart.c_eq]
            repeat' (with_reducible first | refine And.intro (by first | omega | decide | rfl | trivial | exact Nat.le_of_eq (reps_len _ _).symm | exact Nat.le_of_eq (cells_len _).symm) ?_)
            intro m qm
            have dm_n3 : ¬ m = n3 := qm.1
            have em_n3 : (m = n3) = False := eq_false dm_n3
            have fm_n3 : (n3 = m) = False := eq_false (fun e => dm_n3 e.symm)
            have dn3_m : ¬ n3 = m := fun e => dm_n3 e.symm
            have dm_n2 : ¬ m = n2 := qm.2.1
            have em_n2 : (m = n2) = False := eq_false dm_n2
            have fm_n2 : (n2 = m) = False := eq_false (fun e => dm_n2 e.symm)
            have dn2_m : ¬ n2 = m := fun e => dm_n2 e.symm
            have z_m := qm.2.2
            try simp (maxSteps := 1000000) -dsimp -implicitDefEqProofs only [go_sem, ↓reduceIte, keep78, ib78, mk78, Tryz.f78, upd_upd, upd_ne, en3_n2, fn3_n2, em_n3, fm_n3, em_n2, fm_n2, ea, hlt, oheap_none, onil_none, oc0_0.flat, oc0_0.one, oc0_3.flat, oc0_3.one, oc0_4.flat, oc0_4.one, oc1_0.flat, oc1_0.one, oc3_0.flat, oc3_0.one, ob_2.flat, ob_2.one, OV.map_val, OV.map_val_nil, OV.val_v]
            refine ⟨(k + 1, ([] : List (List OV)) ++ [[.v (.int .i64 x.fParts[k].fCode), .v (.int .i64 x.fParts[k].fValue), yb_2]], gb, some m), ?_⟩
            simp only
            refine ⟨?_, (by intro q_; simp only [upd_get, oheap_none, oheap_some, onil_none, onil_some, take_cells, cells_snoc, cells_one, cells_nil, cellv_cons, cellv_nil, OV.val_v, List.nil_append, List.length_append, List.length_cons, List.length_nil, Nat.zero_add]; grind), ⟨by omega, OR.snoc hor hlt oeb, hnew.snoc wb, z_n2, z_n3, z_m, (fun n_ e_ => by obtain rfl := Option.some.inj e_; exact ⟨dm_n2, dm_n3⟩)⟩, by omega⟩
            all_goals (repeat' (with_reducible refine And.intro ?_ ?_))
            all_goals first | rfl | trivial | (rw [IntWalk.i64_in _ (by omega)]; omega)
          | some n =>
            rw [gside_some] at hos
            have z_n := hos
            have hn := hon n rfl
            have dn_n2 : ¬ n = n2 := hn.1
            have en_n2 : (n = n2) = False := eq_false dn_n2
            have fn_n2 : (n2 = n) = False := eq_false (fun e => dn_n2 e.symm)
            have dn2_n : ¬ n2 = n := fun e => dn_n2 e.symm
            have dn_n3 : ¬ n = n3 := hn.2
            have en_n3 : (n = n3) = False := eq_false dn_n3
            have fn_n3 : (n3 = n) = False := eq_false (fun e => dn_n3 e.symm)
            have dn3_n : ¬ n3 = n := fun e => dn_n3 e.symm
            try simp (maxSteps := 1000000) -dsimp -implicitDefEqProofs only [go_sem, ↓reduceIte, keep78, ib78, mk78, Tryz.f78, upd_upd, upd_ne, en3_n2, fn3_n2, en_n2, fn_n2, en_n3, fn_n3, ea, hlt, oheap_some, onil_some, oc0_0.flat, oc0_0.one, oc0_3.flat, oc0_3.one, oc0_4.flat, oc0_4.one, oc1_0.flat, oc1_0.one, oc3_0.flat, oc3_0.one, DPart.c_eq]
            try (with_reducible intro _)
            refine HFnF.wn3 (hx) z_n ⟨dn2_n, z_n2⟩ ⟨dn3_n2, dn3_n, z_n3⟩ ?_
            rintro r l_ gb ⟨e_b, oeb, rfl, rfl⟩ wb z_n z_n2 z_n3
            have oob := oeb
            obtain ⟨yb_2, rfl, ob_2⟩ := oob
            try simp (maxSteps := 1000000) -dsimp -implicitDefEqProofs only [go_sem, ↓reduceIte, keep78, ib78, mk78, Tryz.f78, upd_upd, upd_ne, en3_n2, fn3_n2, en_n2, fn_n2, en_n3, fn_n3, ea, hlt, oheap_some, onil_some, oc0_0.flat, oc0_0.one, oc0_3.flat, oc0_3.one, oc0_4.flat, oc0_4.one, oc1_0.flat, oc1_0.one, oc3_0.flat, oc3_0.one, ob_2.flat, ob_2.one, OV.map_val, OV.map_val_nil, OV.val_v, DPart.c_eq]
            repeat' (with_reducible first | refine And.intro (by first | omega | decide | rfl | trivial | exact Nat.le_of_eq (reps_len _ _).symm | exact Nat.le_of_eq (cells_len _).symm) ?_)
            intro m qm
            have dm_n3 : ¬ m = n3 := qm.1
            have em_n3 : (m = n3) = False := eq_false dm_n3
            have fm_n3 : (n3 = m) = False := eq_false (fun e => dm_n3 e.symm)
            have dn3_m : ¬ n3 = m := fun e => dm_n3 e.symm
            have dm_n2 : ¬ m = n2 := qm.2.1
            have em_n2 : (m = n2) = False := eq_false dm_n2
            have fm_n2 : (n2 = m) = False := eq_false (fun e => dm_n2 e.symm)
            have dn2_m : ¬ n2 = m := fun e => dm_n2 e.symm
            have dm_n : ¬ m = n := qm.2.2.1
            have em_n : (m = n) = False := eq_false dm_n
            have fm_n : (n = m) = False := eq_false (fun e => dm_n e.symm)
            have dn_m : ¬ n = m := fun e => dm_n e.symm
            have z_m := qm.2.2.2
            try simp (maxSteps := 1000000) -dsimp -implicitDefEqProofs only [go_sem, ↓reduceIte, keep78, ib78, mk78, Tryz.f78, upd_upd, upd_ne, en3_n2, fn3_n2, en_n2, fn_n2, en_n3, fn_n3, em_n3, fm_n3, em_n2, fm_n2, em_n, fm_n, ea, hlt, oheap_some, onil_some, oc0_0.flat, oc0_0.one, oc0_3.flat, oc0_3.one, oc0_4.flat, oc0_4.one, oc1_0.flat, oc1_0.one, oc3_0.flat, oc3_0.one, ob_2.flat, ob_2.one, OV.map_val, OV.map_val_nil, OV.val_v]
            refine ⟨(k + 1, es ++ [[.v (.int .i64 x.fParts[k].fCode), .v (.int .i64 x.fParts[k].fValue), yb_2]], gb, some m), ?_⟩
            simp only
            refine ⟨?_, (by intro q_; simp only [upd_get, oheap_none, oheap_some, onil_none, onil_some, take_cells, cells_snoc, cells_one, cells_nil, cellv_cons, cellv_nil, OV.val_v, List.nil_append, List.length_append, List.length_cons, List.length_nil, Nat.zero_add]; grind), ⟨by omega, OR.snoc hor hlt oeb, hnew.snoc wb, z_n2, z_n3, z_m, (fun n_ e_ => by obtain rfl := Option.some.inj e_; exact ⟨dm_n2, dm_n3⟩)⟩, by omega⟩
            all_goals (repeat' (with_reducible refine And.intro ?_ ?_))
            all_goals first | rfl | trivial | (rw [IntWalk.i64_in _ (by omega)]; omega)
        · have hk2 : k = x.fParts.length := by omega
          subst hk2
          rw [List.take_length] at hor
          have zz_n2 : oheap g_ (.row 3 (OV.cells es)) o_ n2 = none := oheap_at z_n2 fun n_ e_ => (hon n_ e_).1
          have zz_n3 : oheap g_ (.row 3 (OV.cells es)) o_ n3 = none := oheap_at z_n3 fun n_ e_ => (hon n_ e_).2
          try simp (maxSteps := 1000000) -dsimp -implicitDefEqProofs only [go_sem, ↓reduceIte, keep78, ib78, mk78, Tryz.f78, upd_upd, upd_ne, en3_n2, fn3_n2, onil_flat, onil_cells, oc0_0.flat, oc0_0.one, oc0_3.flat, oc0_3.one, oc0_4.flat, oc0_4.one, oc1_0.flat, oc1_0.one, oc3_0.flat, oc3_0.one, Nat.lt_irrefl]
          try (with_reducible intro _)
          refine ⟨_, (oheap g_ (.row 3 (OV.cells es)) o_), _, Shift.of (Sub.agg (SubL.cons (Sub.refl _) (SubL.cons (Sub.refl _) (SubL.cons (Sub.refl _) (SubL.cons (Sub.refl _) (SubL.cons (Sub.refl _) (SubL.cons (Sub.refl _) (SubL.cons (Sub.refl _) (SubL.cons gov_sub (SubL.cons (Sub.refl _) SubL.nil)))))))))) (by intro q_; simp only [upd_get, oheap_none, oheap_some, onil_none, onil_some, take_cells, cells_snoc, cells_one, cells_nil, cellv_cons, cellv_nil, OV.val_v, List.nil_append, List.length_append, List.length_cons, List.length_nil, Nat.zero_add]; grind), ⟨[yc0_0, .v (.int .i64 x.fJob.fFunc), .v (.int .i64 x.fJob.fShared), yc0_3, yc0_4, yc1_0, (.nil 1), (gov 3 es o_), yc3_0], ?_, rfl, rfl⟩, ?_⟩
          · exact ⟨yc0_0, yc0_3, yc0_4, yc1_0, (.nil 1), (gov 3 es o_), yc3_0, rfl, oc0_0, oc0_3, oc0_4, oc1_0, (.inl ⟨rfl, by simpa using hnc2⟩), gov_os hor hos, oc3_0⟩
          · have hq := (New.append (New.append (New.append wc0 wc1) wc3) (gov_new (sz := 3) hnew hos))
            refine New.perm (a := _) hq ?_
            simp only [OV.row_cons, OV.row_nil, OV.v_rows, OV.nil_rows, List.nil_append, List.append_nil, List.append_assoc]
            first | exact List.Perm.refl _ | (simp only [← List.append_assoc]; exact perm_last _ _ _) | (simp only [← List.append_assoc]; exact perm_last1 _ _) 
      ·
        repeat' (with_reducible first | refine And.intro (by first | omega | decide | rfl | trivial | exact Nat.le_of_eq (reps_len _ _).symm | exact Nat.le_of_eq (cells_len _).symm) ?_)
        intro mc2 qmc2
        have dmc2_n3 : ¬ mc2 = n3 := qmc2.1
        have emc2_n3 : (mc2 = n3) = False := eq_false dmc2_n3
        have fmc2_n3 : (n3 = mc2) = False := eq_false (fun e => dmc2_n3 e.symm)
        have dn3_mc2 : ¬ n3 = mc2 := fun e => dmc2_n3 e.symm
        have dmc2_n2 : ¬ mc2 = n2 := qmc2.2.1
        have emc2_n2 : (mc2 = n2) = False := eq_false dmc2_n2
        have fmc2_n2 : (n2 = mc2) = False := eq_false (fun e => dmc2_n2 e.symm)
        have dn2_mc2 : ¬ n2 = mc2 := fun e => dmc2_n2 e.symm
        have z_mc2 := qmc2.2.2
        simp only [upd_swap dn2_mc2, upd_swap dn3_mc2]
        obtain ⟨yc2_0, gc2, oc2_0, vc2, wc2, hgc2⟩ := app_row HVal.bool (l := x.fKnown) (sz := 1) z_mc2
        simp only [← hgc2, ← vc2]
        have z_n2 : gc2 n2 = none := by rw [hgc2, upd_ne _ _ _ _ dn2_mc2]; exact z_n2
        have z_n3 : gc2 n3 = none := by rw [hgc2, upd_ne _ _ _ _ dn3_mc2]; exact z_n3
        try simp (maxSteps := 1000000) -dsimp -implicitDefEqProofs only [go_sem, ↓reduceIte, keep78, ib78, mk78, Tryz.f78, upd_upd, upd_ne, en3_n2, fn3_n2, oc0_0.flat, oc0_0.one, oc0_3.flat, oc0_3.one, oc0_4.flat, oc0_4.one, oc1_0.flat, oc1_0.one, oc2_0.flat, oc2_0.one, OV.map_val, OV.map_val_nil, OV.val_v]
        refine HFnF.wn2 (l00Own x.fOwners (by omega)) z_n2 ⟨dn3_n2, z_n3⟩ ?_
        rintro r l_ gc3 ⟨yc3_0, oc3_0, rfl, rfl⟩ wc3 z_n2 z_n3
        try simp (maxSteps := 1000000) -dsimp -implicitDefEqProofs only [go_sem, ↓reduceIte, keep78, ib78, mk78, Tryz.f78, upd_upd, upd_ne, en3_n2, fn3_n2, oc0_0.flat, oc0_0.one, oc0_3.flat, oc0_3.one, oc0_4.flat, oc0_4.one, oc1_0.flat, oc1_0.one, oc2_0.flat, oc2_0.one, oc3_0.flat, oc3_0.one, OV.map_val, OV.map_val_nil, OV.val_v]
        repeat' (with_reducible first | refine And.intro (by first | omega | decide | rfl | trivial | exact Nat.le_of_eq (reps_len _ _).symm | exact Nat.le_of_eq (cells_len _).symm) ?_)
        try (with_reducible intro _)
        refine loopF (keep := keep78) (ib := ib78) (mk := mk78) mix (by kernel_rfl) (fun s : Nat × List (List OV) × Heap × Option Nat => [(0, .ip 9 [[(sls 3 DFunc.c x.fJob.fProgram.fFuncs), (.int .i64 x.fJob.fFunc), (.int .i64 x.fJob.fShared), (sls 1 (fun n => [I n]) x.fJob.fPoint), (sls 1 (fun x => [sls 1 (fun n => [I n]) x]) x.fJob.fTerms), (sls 1 (fun n => [I n]) x.fStamps), (sls 1 (fun b => [.bool b]) x.fKnown), (sls 3 DPart.c x.fParts), (sls 1 (fun n => [I n]) x.fOwners)]] 0 0), (2, .op n2 9 0 0), (3, .op n3 9 0 0), (4, (I s.1))]) (fun s => (upd (upd (oheap s.2.2.1 (.row 3 (OV.cells s.2.1)) s.2.2.2) n2 (.row 9 [[.v (.nilsl), .v (.int .i64 0), .v (.int .i64 0), .v (.nilsl), .v (.nilsl), .v (.nilsl), .v (.nilsl), .v (.nilsl), .v (.nilsl)]])) n3 (.row 9 [[.v (yc0_0.val), .v (.int .i64 x.fJob.fFunc), .v (.int .i64 x.fJob.fShared), .v (yc0_3.val), .v (yc0_4.val), .v (yc1_0.val), .v (yc2_0.val), .v (onil 3 s.2.1.length s.2.2.2), .v (yc3_0.val)]]))) (fun s => s.1 ≤ x.fParts.length ∧ OR DPart.o (x.fParts.take s.1) s.2.1 ∧ New gc3 (OV.rowsRows s.2.1) s.2.2.1 ∧ s.2.2.1 n2 = none ∧ s.2.2.1 n3 = none ∧ gside s.2.2.1 s.2.1 s.2.2.2 ∧ ∀ n : Nat, s.2.2.2 = some n → n ≠ n2 ∧ n ≠ n3) (fun s => x.fParts.length - s.1) (0, [], gc3, none) ?_ ?_
        · exact ⟨by simp [SatL, tget], (by intro q_; simp only [upd_get, oheap_none, oheap_some, onil_none, onil_some, take_cells, cells_snoc, cells_one, cells_nil, cellv_cons, cellv_nil, OV.val_v, List.nil_append, List.length_append, List.length_cons, List.length_nil, Nat.zero_add]; grind), Nat.zero_le _, trivial, New.nil _, z_n2, z_n3, rfl, by simp⟩
        rintro ⟨k, es, g_, o_⟩ ⟨hkk, hor, hnew, z_n2, z_n3, hos, hon⟩
        simp only at hkk hor hnew z_n2 z_n3 hos hon ⊢
        have hlen : es.length = k := by have := hor.length; simp at this; omega
        rcases Nat.lt_or_ge k x.fParts.length with hlt | hge
        · have ea : x.fParts[k]? = some x.fParts[k] := List.getElem?_eq_getElem hlt
          have hx := l08OwnPart x.fParts[k] (by have := sum_mem DPart.s (List.getElem_mem hlt); omega)
          simp only [DPart.c_eq] at hx
          cases o_ with
          | none =>
            rw [gside_none] at hos
            subst hos
            try simp (maxSteps := 1000000) -dsimp -implicitDefEqProofs only [go_sem, ↓reduceIte, keep78, ib78, mk78, Tryz.f78, upd_upd, upd_ne, en3_n2, fn3_n2, ea, hlt, oheap_none, onil_none, oc0_0.flat, oc0_0.one, oc0_3.flat, oc0_3.one, oc0_4.flat, oc0_4.one, oc1_0.flat, oc1_0.one, oc2_0.flat, oc2_0.one, oc3_0.flat, oc3_0.one, DPart.c_eq]
            try (with_reducible intro _)
            refine HFnF.wn2 (hx) z_n2 ⟨dn3_n2, z_n3⟩ ?_
            rintro r l_ gb ⟨e_b, oeb, rfl, rfl⟩ wb z_n2 z_n3
            have oob := oeb
            obtain ⟨yb_2, rfl, ob_2⟩ := oob
            try simp (maxSteps := 1000000) -dsimp -implicitDefEqProofs only [go_sem, ↓reduceIte, keep78, ib78, mk78, Tryz.f78, upd_upd, upd_ne, en3_n2, fn3_n2, ea, hlt, oheap_none, onil_none, oc0_0.flat, oc0_0.one, oc0_3.flat, oc0_3.one, oc0_4.flat, oc0_4.one, oc1_0.flat, oc1_0.one, oc2_0.flat, oc2_0.one, oc3_0.flat, oc3_0.one, ob_2.flat, ob_2.one, OV.map_val, OV.map_val_nil, OV.val_v, DPart.c_eq]
            repeat' (with_reducible first | refine And.intro (by first | omega | decide | rfl | trivial | exact Nat.le_of_eq (reps_len _ _).symm | exact Nat.le_of_eq (cells_len _).symm) ?_)
            intro m qm
            have dm_n3 : ¬ m = n3 := qm.1
            have em_n3 : (m = n3) = False := eq_false dm_n3
            have fm_n3 : (n3 = m) = False := eq_false (fun e => dm_n3 e.symm)
            have dn3_m : ¬ n3 = m := fun e => dm_n3 e.symm
            have dm_n2 : ¬ m = n2 := qm.2.1
            have em_n2 : (m = n2) = False := eq_false dm_n2
            have fm_n2 : (n2 = m) = False := eq_false (fun e => dm_n2 e.symm)
            have dn2_m : ¬ n2 = m := fun e => dm_n2 e.symm
            have z_m := qm.2.2
            try simp (maxSteps := 1000000) -dsimp -implicitDefEqProofs only [go_sem, ↓reduceIte, keep78, ib78, mk78, Tryz.f78, upd_upd, upd_ne, en3_n2, fn3_n2, em_n3, fm_n3, em_n2, fm_n2, ea, hlt, oheap_none, onil_none, oc0_0.flat, oc0_0.one, oc0_3.flat, oc0_3.one, oc0_4.flat, oc0_4.one, oc1_0.flat, oc1_0.one, oc2_0.flat, oc2_0.one, oc3_0.flat, oc3_0.one, ob_2.flat, ob_2.one, OV.map_val, OV.map_val_nil, OV.val_v]
            refine ⟨(k + 1, ([] : List (List OV)) ++ [[.v (.int .i64 x.fParts[k].fCode), .v (.int .i64 x.fParts[k].fValue), yb_2]], gb, some m), ?_⟩
            simp only
            refine ⟨?_, (by intro q_; simp only [upd_get, oheap_none, oheap_some, onil_none, onil_some, take_cells, cells_snoc, cells_one, cells_nil, cellv_cons, cellv_nil, OV.val_v, List.nil_append, List.length_append, List.length_cons, List.length_nil, Nat.zero_add]; grind), ⟨by omega, OR.snoc hor hlt oeb, hnew.snoc wb, z_n2, z_n3, z_m, (fun n_ e_ => by obtain rfl := Option.some.inj e_; exact ⟨dm_n2, dm_n3⟩)⟩, by omega⟩
            all_goals (repeat' (with_reducible refine And.intro ?_ ?_))
            all_goals first | rfl | trivial | (rw [IntWalk.i64_in _ (by omega)]; omega)
          | some n =>
            rw [gside_some] at hos
            have z_n := hos
            have hn := hon n rfl
            have dn_n2 : ¬ n = n2 := hn.1
            have en_n2 : (n = n2) = False := eq_false dn_n2
            have fn_n2 : (n2 = n) = False := eq_false (fun e => dn_n2 e.symm)
            have dn2_n : ¬ n2 = n := fun e => dn_n2 e.symm
            have dn_n3 : ¬ n = n3 := hn.2
            have en_n3 : (n = n3) = False := eq_false dn_n3
            have fn_n3 : (n3 = n) = False := eq_false (fun e => dn_n3 e.symm)
            have dn3_n : ¬ n3 = n := fun e => dn_n3 e.symm
            try simp (maxSteps := 1000000) -dsimp -implicitDefEqProofs only [go_sem, ↓reduceIte, keep78, ib78, mk78, Tryz.f78, upd_upd, upd_ne, en3_n2, fn3_n2, en_n2, fn_n2, en_n3, fn_n3, ea, hlt, oheap_some, onil_some, oc0_0.flat, oc0_0.one, oc0_3.flat, oc0_3.one, oc0_4.flat, oc0_4.one, oc1_0.flat, oc1_0.one, oc2_0.flat, oc2_0.one, oc3_0.flat, oc3_0.one, DPart.c_eq]
            try (with_reducible intro _)
            refine HFnF.wn3 (hx) z_n ⟨dn2_n, z_n2⟩ ⟨dn3_n2, dn3_n, z_n3⟩ ?_
            rintro r l_ gb ⟨e_b, oeb, rfl, rfl⟩ wb z_n z_n2 z_n3
            have oob := oeb
            obtain ⟨yb_2, rfl, ob_2⟩ := oob
            try simp (maxSteps := 1000000) -dsimp -implicitDefEqProofs only [go_sem, ↓reduceIte, keep78, ib78, mk78, Tryz.f78, upd_upd, upd_ne, en3_n2, fn3_n2, en_n2, fn_n2, en_n3, fn_n3, ea, hlt, oheap_some, onil_some, oc0_0.flat, oc0_0.one, oc0_3.flat, oc0_3.one, oc0_4.flat, oc0_4.one, oc1_0.flat, oc1_0.one, oc2_0.flat, oc2_0.one, oc3_0.flat, oc3_0.one, ob_2.flat, ob_2.one, OV.map_val, OV.map_val_nil, OV.val_v, DPart.c_eq]
            repeat' (with_reducible first | refine And.intro (by first | omega | decide | rfl | trivial | exact Nat.le_of_eq (reps_len _ _).symm | exact Nat.le_of_eq (cells_len _).symm) ?_)
            intro m qm
            have dm_n3 : ¬ m = n3 := qm.1
            have em_n3 : (m = n3) = False := eq_false dm_n3
            have fm_n3 : (n3 = m) = False := eq_false (fun e => dm_n3 e.symm)
            have dn3_m : ¬ n3 = m := fun e => dm_n3 e.symm
            have dm_n2 : ¬ m = n2 := qm.2.1
            have em_n2 : (m = n2) = False := eq_false dm_n2
            have fm_n2 : (n2 = m) = False := eq_false (fun e => dm_n2 e.symm)
            have dn2_m : ¬ n2 = m := fun e => dm_n2 e.symm
            have dm_n : ¬ m = n := qm.2.2.1
            have em_n : (m = n) = False := eq_false dm_n
            have fm_n : (n = m) = False := eq_false (fun e => dm_n e.symm)
            have dn_m : ¬ n = m := fun e => dm_n e.symm
            have z_m := qm.2.2.2
            try simp (maxSteps := 1000000) -dsimp -implicitDefEqProofs only [go_sem, ↓reduceIte, keep78, ib78, mk78, Tryz.f78, upd_upd, upd_ne, en3_n2, fn3_n2, en_n2, fn_n2, en_n3, fn_n3, em_n3, fm_n3, em_n2, fm_n2, em_n, fm_n, ea, hlt, oheap_some, onil_some, oc0_0.flat, oc0_0.one, oc0_3.flat, oc0_3.one, oc0_4.flat, oc0_4.one, oc1_0.flat, oc1_0.one, oc2_0.flat, oc2_0.one, oc3_0.flat, oc3_0.one, ob_2.flat, ob_2.one, OV.map_val, OV.map_val_nil, OV.val_v]
            refine ⟨(k + 1, es ++ [[.v (.int .i64 x.fParts[k].fCode), .v (.int .i64 x.fParts[k].fValue), yb_2]], gb, some m), ?_⟩
            simp only
            refine ⟨?_, (by intro q_; simp only [upd_get, oheap_none, oheap_some, onil_none, onil_some, take_cells, cells_snoc, cells_one, cells_nil, cellv_cons, cellv_nil, OV.val_v, List.nil_append, List.length_append, List.length_cons, List.length_nil, Nat.zero_add]; grind), ⟨by omega, OR.snoc hor hlt oeb, hnew.snoc wb, z_n2, z_n3, z_m, (fun n_ e_ => by obtain rfl := Option.some.inj e_; exact ⟨dm_n2, dm_n3⟩)⟩, by omega⟩
            all_goals (repeat' (with_reducible refine And.intro ?_ ?_))
            all_goals first | rfl | trivial | (rw [IntWalk.i64_in _ (by omega)]; omega)
        · have hk2 : k = x.fParts.length := by omega
          subst hk2
          rw [List.take_length] at hor
          have zz_n2 : oheap g_ (.row 3 (OV.cells es)) o_ n2 = none := oheap_at z_n2 fun n_ e_ => (hon n_ e_).1
          have zz_n3 : oheap g_ (.row 3 (OV.cells es)) o_ n3 = none := oheap_at z_n3 fun n_ e_ => (hon n_ e_).2
          try simp (maxSteps := 1000000) -dsimp -implicitDefEqProofs only [go_sem, ↓reduceIte, keep78, ib78, mk78, Tryz.f78, upd_upd, upd_ne, en3_n2, fn3_n2, onil_flat, onil_cells, oc0_0.flat, oc0_0.one, oc0_3.flat, oc0_3.one, oc0_4.flat, oc0_4.one, oc1_0.flat, oc1_0.one, oc2_0.flat, oc2_0.one, oc3_0.flat, oc3_0.one, Nat.lt_irrefl]
          try (with_reducible intro _)
          refine ⟨_, (oheap g_ (.row 3 (OV.cells es)) o_), _, Shift.of (Sub.agg (SubL.cons (Sub.refl _) (SubL.cons (Sub.refl _) (SubL.cons (Sub.refl _) (SubL.cons (Sub.refl _) (SubL.cons (Sub.refl _) (SubL.cons (Sub.refl _) (SubL.cons (Sub.refl _) (SubL.cons gov_sub (SubL.cons (Sub.refl _) SubL.nil)))))))))) (by intro q_; simp only [upd_get, oheap_none, oheap_some, onil_none, onil_some, take_cells, cells_snoc, cells_one, cells_nil, cellv_cons, cellv_nil, OV.val_v, List.nil_append, List.length_append, List.length_cons, List.length_nil, Nat.zero_add]; grind), ⟨[yc0_0, .v (.int .i64 x.fJob.fFunc), .v (.int .i64 x.fJob.fShared), yc0_3, yc0_4, yc1_0, yc2_0, (gov 3 es o_), yc3_0], ?_, rfl, rfl⟩, ?_⟩
          · exact ⟨yc0_0, yc0_3, yc0_4, yc1_0, yc2_0, (gov 3 es o_), yc3_0, rfl, oc0_0, oc0_3, oc0_4, oc1_0, oc2_0, gov_os hor hos, oc3_0⟩
          · have hq := (New.append (New.append (New.append (New.append wc0 wc1) wc2) wc3) (gov_new (sz := 3) hnew hos))
            refine New.perm (a := _) hq ?_
            simp only [OV.row_cons, OV.row_nil, OV.v_rows, OV.nil_rows, List.nil_append, List.append_nil, List.append_assoc]
            first | exact List.Perm.refl _ | (simp only [← List.append_assoc]; exact perm_last _ _ _) | (simp only [← List.append_assoc]; exact perm_last1 _ _) 
  ·
    intro n3 qn3
    have dn3_n2 : ¬ n3 = n2 := qn3.1
    have en3_n2 : (n3 = n2) = False := eq_false dn3_n2
    have fn3_n2 : (n2 = n3) = False := eq_false (fun e => dn3_n2 e.symm)
    have dn2_n3 : ¬ n2 = n3 := fun e => dn3_n2 e.symm
    have z_n3 := qn3.2
    try simp (maxSteps := 1000000) -dsimp -implicitDefEqProofs only [go_sem, ↓reduceIte, keep78, ib78, mk78, Tryz.f78, upd_upd, upd_ne, en3_n2, fn3_n2, OV.map_val, OV.map_val_nil, OV.val_v]
    refine HFnF.wn2 (FnN.sub (by repeat' (first | exact SubL.nil | refine SubL.cons ?_ ?_ | exact Sub.refl _ | (rw [DExpr.c_eq]; exact Sub.refl _) | exact Sub.ipAt rfl rfl rfl | exact Sub.ip (map_get (by omega)) (by simp) | exact Sub.ipAt (map_get (by omega)) rfl rfl | exact Sub.ip (by simp [*]) (by simp) | exact Sub.ipAt (by simp [*]) (by rfl) (by rfl))) (l08OwnJob x.fJob (by omega))) z_n2 ⟨dn3_n2, z_n3⟩ ?_
    rintro r l_ gc0 ⟨e_c0, oec0, rfl, rfl⟩ wc0 z_n2 z_n3
    have ooc0 := oec0
    obtain ⟨yc0_0, yc0_3, yc0_4, rfl, oc0_0, oc0_3, oc0_4⟩ := ooc0
    try simp (maxSteps := 1000000) -dsimp -implicitDefEqProofs only [go_sem, ↓reduceIte, keep78, ib78, mk78, Tryz.f78, upd_upd, upd_ne, en3_n2, fn3_n2, oc0_0.flat, oc0_0.one, oc0_3.flat, oc0_3.one, oc0_4.flat, oc0_4.one, OV.map_val, OV.map_val_nil, OV.val_v]
    refine HFnF.wn2 (l00Own x.fStamps (by omega)) z_n2 ⟨dn3_n2, z_n3⟩ ?_
    rintro r l_ gc1 ⟨yc1_0, oc1_0, rfl, rfl⟩ wc1 z_n2 z_n3
    try simp (maxSteps := 1000000) -dsimp -implicitDefEqProofs only [go_sem, ↓reduceIte, keep78, ib78, mk78, Tryz.f78, upd_upd, upd_ne, en3_n2, fn3_n2, oc0_0.flat, oc0_0.one, oc0_3.flat, oc0_3.one, oc0_4.flat, oc0_4.one, oc1_0.flat, oc1_0.one, OV.map_val, OV.map_val_nil, OV.val_v]
    try (with_reducible refine And.intro Nat.zero_lt_one ?_)
    refine ⟨fun hnc2 => ?_, fun hnc2 => ?_⟩
    ·
      try simp (maxSteps := 1000000) -dsimp -implicitDefEqProofs only [go_sem, ↓reduceIte, keep78, ib78, mk78, Tryz.f78, upd_upd, upd_ne, en3_n2, fn3_n2, oc0_0.flat, oc0_0.one, oc0_3.flat, oc0_3.one, oc0_4.flat, oc0_4.one, oc1_0.flat, oc1_0.one, OV.map_val, OV.map_val_nil, OV.val_v]
      refine HFnF.wn2 (l00Own x.fOwners (by omega)) z_n2 ⟨dn3_n2, z_n3⟩ ?_
      rintro r l_ gc3 ⟨yc3_0, oc3_0, rfl, rfl⟩ wc3 z_n2 z_n3
      try simp (maxSteps := 1000000) -dsimp -implicitDefEqProofs only [go_sem, ↓reduceIte, keep78, ib78, mk78, Tryz.f78, upd_upd, upd_ne, en3_n2, fn3_n2, oc0_0.flat, oc0_0.one, oc0_3.flat, oc0_3.one, oc0_4.flat, oc0_4.one, oc1_0.flat, oc1_0.one, oc3_0.flat, oc3_0.one, OV.map_val, OV.map_val_nil, OV.val_v]
      repeat' (with_reducible first | refine And.intro (by first | omega | decide | rfl | trivial | exact Nat.le_of_eq (reps_len _ _).symm | exact Nat.le_of_eq (cells_len _).symm) ?_)
      try (with_reducible intro _)
      refine loopF (keep := keep78) (ib := ib78) (mk := mk78) mix (by kernel_rfl) (fun s : Nat × List (List OV) × Heap × Option Nat => [(0, .ip 9 [[(sls 3 DFunc.c x.fJob.fProgram.fFuncs), (.int .i64 x.fJob.fFunc), (.int .i64 x.fJob.fShared), (sls 1 (fun n => [I n]) x.fJob.fPoint), (sls 1 (fun x => [sls 1 (fun n => [I n]) x]) x.fJob.fTerms), (sls 1 (fun n => [I n]) x.fStamps), (sls 1 (fun b => [.bool b]) x.fKnown), (sls 3 DPart.c x.fParts), (sls 1 (fun n => [I n]) x.fOwners)]] 0 0), (2, .op n2 9 0 0), (3, .op n3 9 0 0), (4, (I s.1))]) (fun s => (upd (upd (oheap s.2.2.1 (.row 3 (OV.cells s.2.1)) s.2.2.2) n2 (.row 9 [[.v (.nilsl), .v (.int .i64 0), .v (.int .i64 0), .v (.nilsl), .v (.nilsl), .v (.nilsl), .v (.nilsl), .v (.nilsl), .v (.nilsl)]])) n3 (.row 9 [[.v (yc0_0.val), .v (.int .i64 x.fJob.fFunc), .v (.int .i64 x.fJob.fShared), .v (yc0_3.val), .v (yc0_4.val), .v (yc1_0.val), .v (.sl 1 [] true), .v (onil 3 s.2.1.length s.2.2.2), .v (yc3_0.val)]]))) (fun s => s.1 ≤ x.fParts.length ∧ OR DPart.o (x.fParts.take s.1) s.2.1 ∧ New gc3 (OV.rowsRows s.2.1) s.2.2.1 ∧ s.2.2.1 n2 = none ∧ s.2.2.1 n3 = none ∧ gside s.2.2.1 s.2.1 s.2.2.2 ∧ ∀ n : Nat, s.2.2.2 = some n → n ≠ n2 ∧ n ≠ n3) (fun s => x.fParts.length - s.1) (0, [], gc3, none) ?_ ?_
      · exact ⟨by simp [SatL, tget], (by intro q_; simp only [upd_get, oheap_none, oheap_some, onil_none, onil_some, take_cells, cells_snoc, cells_one, cells_nil, cellv_cons, cellv_nil, OV.val_v, List.nil_append, List.length_append, List.length_cons, List.length_nil, Nat.zero_add]; grind), Nat.zero_le _, trivial, New.nil _, z_n2, z_n3, rfl, by simp⟩
      rintro ⟨k, es, g_, o_⟩ ⟨hkk, hor, hnew, z_n2, z_n3, hos, hon⟩
      simp only at hkk hor hnew z_n2 z_n3 hos hon ⊢
      have hlen : es.length = k := by have := hor.length; simp at this; omega
      rcases Nat.lt_or_ge k x.fParts.length with hlt | hge
      · have ea : x.fParts[k]? = some x.fParts[k] := List.getElem?_eq_getElem hlt
        have hx := l08OwnPart x.fParts[k] (by have := sum_mem DPart.s (List.getElem_mem hlt); omega)
        simp only [DPart.c_eq] at hx
        cases o_ with
        | none =>
          rw [gside_none] at hos
          subst hos
          try simp (maxSteps := 1000000) -dsimp -implicitDefEqProofs only [go_sem, ↓reduceIte, keep78, ib78, mk78, Tryz.f78, upd_upd, upd_ne, en3_n2, fn3_n2, ea, hlt, oheap_none, onil_none, oc0_0.flat, oc0_0.one, oc0_3.flat, oc0_3.one, oc0_4.flat, oc0_4.one, oc1_0.flat, oc1_0.one, oc3_0.flat, oc3_0.one, DPart.c_eq]
          try (with_reducible intro _)
          refine HFnF.wn2 (hx) z_n2 ⟨dn3_n2, z_n3⟩ ?_
          rintro r l_ gb ⟨e_b, oeb, rfl, rfl⟩ wb z_n2 z_n3
          have oob := oeb
          obtain ⟨yb_2, rfl, ob_2⟩ := oob
          try simp (maxSteps := 1000000) -dsimp -implicitDefEqProofs only [go_sem, ↓reduceIte, keep78, ib78, mk78, Tryz.f78, upd_upd, upd_ne, en3_n2, fn3_n2, ea, hlt, oheap_none, onil_none, oc0_0.flat, oc0_0.one, oc0_3.flat, oc0_3.one, oc0_4.flat, oc0_4.one, oc1_0.flat, oc1_0.one, oc3_0.flat, oc3_0.one, ob_2.flat, ob_2.one, OV.map_val, OV.map_val_nil, OV.val_v, DPart.c_eq]
          repeat' (with_reducible first | refine And.intro (by first | omega | decide | rfl | trivial | exact Nat.le_of_eq (reps_len _ _).symm | exact Nat.le_of_eq (cells_len _).symm) ?_)
          intro m qm
          have dm_n3 : ¬ m = n3 := qm.1
          have em_n3 : (m = n3) = False := eq_false dm_n3
          have fm_n3 : (n3 = m) = False := eq_false (fun e => dm_n3 e.symm)
          have dn3_m : ¬ n3 = m := fun e => dm_n3 e.symm
          have dm_n2 : ¬ m = n2 := qm.2.1
          have em_n2 : (m = n2) = False := eq_false dm_n2
          have fm_n2 : (n2 = m) = False := eq_false (fun e => dm_n2 e.symm)
          have dn2_m : ¬ n2 = m := fun e => dm_n2 e.symm
          have z_m := qm.2.2
          try simp (maxSteps := 1000000) -dsimp -implicitDefEqProofs only [go_sem, ↓reduceIte, keep78, ib78, mk78, Tryz.f78, upd_upd, upd_ne, en3_n2, fn3_n2, em_n3, fm_n3, em_n2, fm_n2, ea, hlt, oheap_none, onil_none, oc0_0.flat, oc0_0.one, oc0_3.flat, oc0_3.one, oc0_4.flat, oc0_4.one, oc1_0.flat, oc1_0.one, oc3_0.flat, oc3_0.one, ob_2.flat, ob_2.one, OV.map_val, OV.map_val_nil, OV.val_v]
          refine ⟨(k + 1, ([] : List (List OV)) ++ [[.v (.int .i64 x.fParts[k].fCode), .v (.int .i64 x.fParts[k].fValue), yb_2]], gb, some m), ?_⟩
          simp only
          refine ⟨?_, (by intro q_; simp only [upd_get, oheap_none, oheap_some, onil_none, onil_some, take_cells, cells_snoc, cells_one, cells_nil, cellv_cons, cellv_nil, OV.val_v, List.nil_append, List.length_append, List.length_cons, List.length_nil, Nat.zero_add]; grind), ⟨by omega, OR.snoc hor hlt oeb, hnew.snoc wb, z_n2, z_n3, z_m, (fun n_ e_ => by obtain rfl := Option.some.inj e_; exact ⟨dm_n2, dm_n3⟩)⟩, by omega⟩
          all_goals (repeat' (with_reducible refine And.intro ?_ ?_))
          all_goals first | rfl | trivial | (rw [IntWalk.i64_in _ (by omega)]; omega)
        | some n =>
          rw [gside_some] at hos
          have z_n := hos
          have hn := hon n rfl
          have dn_n2 : ¬ n = n2 := hn.1
          have en_n2 : (n = n2) = False := eq_false dn_n2
          have fn_n2 : (n2 = n) = False := eq_false (fun e => dn_n2 e.symm)
          have dn2_n : ¬ n2 = n := fun e => dn_n2 e.symm
          have dn_n3 : ¬ n = n3 := hn.2
          have en_n3 : (n = n3) = False := eq_false dn_n3
          have fn_n3 : (n3 = n) = False := eq_false (fun e => dn_n3 e.symm)
          have dn3_n : ¬ n3 = n := fun e => dn_n3 e.symm
          try simp (maxSteps := 1000000) -dsimp -implicitDefEqProofs only [go_sem, ↓reduceIte, keep78, ib78, mk78, Tryz.f78, upd_upd, upd_ne, en3_n2, fn3_n2, en_n2, fn_n2, en_n3, fn_n3, ea, hlt, oheap_some, onil_some, oc0_0.flat, oc0_0.one, oc0_3.flat, oc0_3.one, oc0_4.flat, oc0_4.one, oc1_0.flat, oc1_0.one, oc3_0.flat, oc3_0.one, DPart.c_eq]
          try (with_reducible intro _)
          refine HFnF.wn3 (hx) z_n ⟨dn2_n, z_n2⟩ ⟨dn3_n2, dn3_n, z_n3⟩ ?_
          rintro r l_ gb ⟨e_b, oeb, rfl, rfl⟩ wb z_n z_n2 z_n3
          have oob := oeb
          obtain ⟨yb_2, rfl, ob_2⟩ := oob
          try simp (maxSteps := 1000000) -dsimp -implicitDefEqProofs only [go_sem, ↓reduceIte, keep78, ib78, mk78, Tryz.f78, upd_upd, upd_ne, en3_n2, fn3_n2, en_n2, fn_n2, en_n3, fn_n3, ea, hlt, oheap_some, onil_some, oc0_0.flat, oc0_0.one, oc0_3.flat, oc0_3.one, oc0_4.flat, oc0_4.one, oc1_0.flat, oc1_0.one, oc3_0.flat, oc3_0.one, ob_2.flat, ob_2.one, OV.map_val, OV.map_val_nil, OV.val_v, DPart.c_eq]
          repeat' (with_reducible first | refine And.intro (by first | omega | decide | rfl | trivial | exact Nat.le_of_eq (reps_len _ _).symm | exact Nat.le_of_eq (cells_len _).symm) ?_)
          intro m qm
          have dm_n3 : ¬ m = n3 := qm.1
          have em_n3 : (m = n3) = False := eq_false dm_n3
          have fm_n3 : (n3 = m) = False := eq_false (fun e => dm_n3 e.symm)
          have dn3_m : ¬ n3 = m := fun e => dm_n3 e.symm
          have dm_n2 : ¬ m = n2 := qm.2.1
          have em_n2 : (m = n2) = False := eq_false dm_n2
          have fm_n2 : (n2 = m) = False := eq_false (fun e => dm_n2 e.symm)
          have dn2_m : ¬ n2 = m := fun e => dm_n2 e.symm
          have dm_n : ¬ m = n := qm.2.2.1
          have em_n : (m = n) = False := eq_false dm_n
          have fm_n : (n = m) = False := eq_false (fun e => dm_n e.symm)
          have dn_m : ¬ n = m := fun e => dm_n e.symm
          have z_m := qm.2.2.2
          try simp (maxSteps := 1000000) -dsimp -implicitDefEqProofs only [go_sem, ↓reduceIte, keep78, ib78, mk78, Tryz.f78, upd_upd, upd_ne, en3_n2, fn3_n2, en_n2, fn_n2, en_n3, fn_n3, em_n3, fm_n3, em_n2, fm_n2, em_n, fm_n, ea, hlt, oheap_some, onil_some, oc0_0.flat, oc0_0.one, oc0_3.flat, oc0_3.one, oc0_4.flat, oc0_4.one, oc1_0.flat, oc1_0.one, oc3_0.flat, oc3_0.one, ob_2.flat, ob_2.one, OV.map_val, OV.map_val_nil, OV.val_v]
          refine ⟨(k + 1, es ++ [[.v (.int .i64 x.fParts[k].fCode), .v (.int .i64 x.fParts[k].fValue), yb_2]], gb, some m), ?_⟩
          simp only
          refine ⟨?_, (by intro q_; simp only [upd_get, oheap_none, oheap_some, onil_none, onil_some, take_cells, cells_snoc, cells_one, cells_nil, cellv_cons, cellv_nil, OV.val_v, List.nil_append, List.length_append, List.length_cons, List.length_nil, Nat.zero_add]; grind), ⟨by omega, OR.snoc hor hlt oeb, hnew.snoc wb, z_n2, z_n3, z_m, (fun n_ e_ => by obtain rfl := Option.some.inj e_; exact ⟨dm_n2, dm_n3⟩)⟩, by omega⟩
          all_goals (repeat' (with_reducible refine And.intro ?_ ?_))
          all_goals first | rfl | trivial | (rw [IntWalk.i64_in _ (by omega)]; omega)
      · have hk2 : k = x.fParts.length := by omega
        subst hk2
        rw [List.take_length] at hor
        have zz_n2 : oheap g_ (.row 3 (OV.cells es)) o_ n2 = none := oheap_at z_n2 fun n_ e_ => (hon n_ e_).1
        have zz_n3 : oheap g_ (.row 3 (OV.cells es)) o_ n3 = none := oheap_at z_n3 fun n_ e_ => (hon n_ e_).2
        try simp (maxSteps := 1000000) -dsimp -implicitDefEqProofs only [go_sem, ↓reduceIte, keep78, ib78, mk78, Tryz.f78, upd_upd, upd_ne, en3_n2, fn3_n2, onil_flat, onil_cells, oc0_0.flat, oc0_0.one, oc0_3.flat, oc0_3.one, oc0_4.flat, oc0_4.one, oc1_0.flat, oc1_0.one, oc3_0.flat, oc3_0.one, Nat.lt_irrefl]
        try (with_reducible intro _)
        refine ⟨_, (oheap g_ (.row 3 (OV.cells es)) o_), _, Shift.of (Sub.agg (SubL.cons (Sub.refl _) (SubL.cons (Sub.refl _) (SubL.cons (Sub.refl _) (SubL.cons (Sub.refl _) (SubL.cons (Sub.refl _) (SubL.cons (Sub.refl _) (SubL.cons (Sub.refl _) (SubL.cons gov_sub (SubL.cons (Sub.refl _) SubL.nil)))))))))) (by intro q_; simp only [upd_get, oheap_none, oheap_some, onil_none, onil_some, take_cells, cells_snoc, cells_one, cells_nil, cellv_cons, cellv_nil, OV.val_v, List.nil_append, List.length_append, List.length_cons, List.length_nil, Nat.zero_add]; grind), ⟨[yc0_0, .v (.int .i64 x.fJob.fFunc), .v (.int .i64 x.fJob.fShared), yc0_3, yc0_4, yc1_0, (.nil 1), (gov 3 es o_), yc3_0], ?_, rfl, rfl⟩, ?_⟩
        · exact ⟨yc0_0, yc0_3, yc0_4, yc1_0, (.nil 1), (gov 3 es o_), yc3_0, rfl, oc0_0, oc0_3, oc0_4, oc1_0, (.inl ⟨rfl, by simpa using hnc2⟩), gov_os hor hos, oc3_0⟩
        · have hq := (New.append (New.append (New.append wc0 wc1) wc3) (gov_new (sz := 3) hnew hos))
          refine New.perm (a := _) hq ?_
          simp only [OV.row_cons, OV.row_nil, OV.v_rows, OV.nil_rows, List.nil_append, List.append_nil, List.append_assoc]
          first | exact List.Perm.refl _ | (simp only [← List.append_assoc]; exact perm_last _ _ _) | (simp only [← List.append_assoc]; exact perm_last1 _ _) 
    ·
      repeat' (with_reducible first | refine And.intro (by first | omega | decide | rfl | trivial | exact Nat.le_of_eq (reps_len _ _).symm | exact Nat.le_of_eq (cells_len _).symm) ?_)
      intro mc2 qmc2
      have dmc2_n3 : ¬ mc2 = n3 := qmc2.1
      have emc2_n3 : (mc2 = n3) = False := eq_false dmc2_n3
      have fmc2_n3 : (n3 = mc2) = False := eq_false (fun e => dmc2_n3 e.symm)
      have dn3_mc2 : ¬ n3 = mc2 := fun e => dmc2_n3 e.symm
      have dmc2_n2 : ¬ mc2 = n2 := qmc2.2.1
      have emc2_n2 : (mc2 = n2) = False := eq_false dmc2_n2
      have fmc2_n2 : (n2 = mc2) = False := eq_false (fun e => dmc2_n2 e.symm)
      have dn2_mc2 : ¬ n2 = mc2 := fun e => dmc2_n2 e.symm
      have z_mc2 := qmc2.2.2
      simp only [upd_swap dn2_mc2, upd_swap dn3_mc2]
      obtain ⟨yc2_0, gc2, oc2_0, vc2, wc2, hgc2⟩ := app_row HVal.bool (l := x.fKnown) (sz := 1) z_mc2
      simp only [← hgc2, ← vc2]
      have z_n2 : gc2 n2 = none := by rw [hgc2, upd_ne _ _ _ _ dn2_mc2]; exact z_n2
      have z_n3 : gc2 n3 = none := by rw [hgc2, upd_ne _ _ _ _ dn3_mc2]; exact z_n3
      try simp (maxSteps := 1000000) -dsimp -implicitDefEqProofs only [go_sem, ↓reduceIte, keep78, ib78, mk78, Tryz.f78, upd_upd, upd_ne, en3_n2, fn3_n2, oc0_0.flat, oc0_0.one, oc0_3.flat, oc0_3.one, oc0_4.flat, oc0_4.one, oc1_0.flat, oc1_0.one, oc2_0.flat, oc2_0.one, OV.map_val, OV.map_val_nil, OV.val_v]
      refine HFnF.wn2 (l00Own x.fOwners (by omega)) z_n2 ⟨dn3_n2, z_n3⟩ ?_
      rintro r l_ gc3 ⟨yc3_0, oc3_0, rfl, rfl⟩ wc3 z_n2 z_n3
      try simp (maxSteps := 1000000) -dsimp -implicitDefEqProofs only [go_sem, ↓reduceIte, keep78, ib78, mk78, Tryz.f78, upd_upd, upd_ne, en3_n2, fn3_n2, oc0_0.flat, oc0_0.one, oc0_3.flat, oc0_3.one, oc0_4.flat, oc0_4.one, oc1_0.flat, oc1_0.one, oc2_0.flat, oc2_0.one, oc3_0.flat, oc3_0.one, OV.map_val, OV.map_val_nil, OV.val_v]
      repeat' (with_reducible first | refine And.intro (by first | omega | decide | rfl | trivial | exact Nat.le_of_eq (reps_len _ _).symm | exact Nat.le_of_eq (cells_len _).symm) ?_)
      try (with_reducible intro _)
      refine loopF (keep := keep78) (ib := ib78) (mk := mk78) mix (by kernel_rfl) (fun s : Nat × List (List OV) × Heap × Option Nat => [(0, .ip 9 [[(sls 3 DFunc.c x.fJob.fProgram.fFuncs), (.int .i64 x.fJob.fFunc), (.int .i64 x.fJob.fShared), (sls 1 (fun n => [I n]) x.fJob.fPoint), (sls 1 (fun x => [sls 1 (fun n => [I n]) x]) x.fJob.fTerms), (sls 1 (fun n => [I n]) x.fStamps), (sls 1 (fun b => [.bool b]) x.fKnown), (sls 3 DPart.c x.fParts), (sls 1 (fun n => [I n]) x.fOwners)]] 0 0), (2, .op n2 9 0 0), (3, .op n3 9 0 0), (4, (I s.1))]) (fun s => (upd (upd (oheap s.2.2.1 (.row 3 (OV.cells s.2.1)) s.2.2.2) n2 (.row 9 [[.v (.nilsl), .v (.int .i64 0), .v (.int .i64 0), .v (.nilsl), .v (.nilsl), .v (.nilsl), .v (.nilsl), .v (.nilsl), .v (.nilsl)]])) n3 (.row 9 [[.v (yc0_0.val), .v (.int .i64 x.fJob.fFunc), .v (.int .i64 x.fJob.fShared), .v (yc0_3.val), .v (yc0_4.val), .v (yc1_0.val), .v (yc2_0.val), .v (onil 3 s.2.1.length s.2.2.2), .v (yc3_0.val)]]))) (fun s => s.1 ≤ x.fParts.length ∧ OR DPart.o (x.fParts.take s.1) s.2.1 ∧ New gc3 (OV.rowsRows s.2.1) s.2.2.1 ∧ s.2.2.1 n2 = none ∧ s.2.2.1 n3 = none ∧ gside s.2.2.1 s.2.1 s.2.2.2 ∧ ∀ n : Nat, s.2.2.2 = some n → n ≠ n2 ∧ n ≠ n3) (fun s => x.fParts.length - s.1) (0, [], gc3, none) ?_ ?_
      · exact ⟨by simp [SatL, tget], (by intro q_; simp only [upd_get, oheap_none, oheap_some, onil_none, onil_some, take_cells, cells_snoc, cells_one, cells_nil, cellv_cons, cellv_nil, OV.val_v, List.nil_append, List.length_append, List.length_cons, List.length_nil, Nat.zero_add]; grind), Nat.zero_le _, trivial, New.nil _, z_n2, z_n3, rfl, by simp⟩
      rintro ⟨k, es, g_, o_⟩ ⟨hkk, hor, hnew, z_n2, z_n3, hos, hon⟩
      simp only at hkk hor hnew z_n2 z_n3 hos hon ⊢
      have hlen : es.length = k := by have := hor.length; simp at this; omega
      rcases Nat.lt_or_ge k x.fParts.length with hlt | hge
      · have ea : x.fParts[k]? = some x.fParts[k] := List.getElem?_eq_getElem hlt
        have hx := l08OwnPart x.fParts[k] (by have := sum_mem DPart.s (List.getElem_mem hlt); omega)
        simp only [DPart.c_eq] at hx
        cases o_ with
        | none =>
          rw [gside_none] at hos
          subst hos
          try simp (maxSteps := 1000000) -dsimp -implicitDefEqProofs only [go_sem, ↓reduceIte, keep78, ib78, mk78, Tryz.f78, upd_upd, upd_ne, en3_n2, fn3_n2, ea, hlt, oheap_none, onil_none, oc0_0.flat, oc0_0.one, oc0_3.flat, oc0_3.one, oc0_4.flat, oc0_4.one, oc1_0.flat, oc1_0.one, oc2_0.flat, oc2_0.one, oc3_0.flat, oc3_0.one, DPart.c_eq]
          try (with_reducible intro _)
          refine HFnF.wn2 (hx) z_n2 ⟨dn3_n2, z_n3⟩ ?_
          rintro r l_ gb ⟨e_b, oeb, rfl, rfl⟩ wb z_n2 z_n3
          have oob := oeb
          obtain ⟨yb_2, rfl, ob_2⟩ := oob
          try simp (maxSteps := 1000000) -dsimp -implicitDefEqProofs only [go_sem, ↓reduceIte, keep78, ib78, mk78, Tryz.f78, upd_upd, upd_ne, en3_n2, fn3_n2, ea, hlt, oheap_none, onil_none, oc0_0.flat, oc0_0.one, oc0_3.flat, oc0_3.one, oc0_4.flat, oc0_4.one, oc1_0.flat, oc1_0.one, oc2_0.flat, oc2_0.one, oc3_0.flat, oc3_0.one, ob_2.flat, ob_2.one, OV.map_val, OV.map_val_nil, OV.val_v, DPart.c_eq]
          repeat' (with_reducible first | refine And.intro (by first | omega | decide | rfl | trivial | exact Nat.le_of_eq (reps_len _ _).symm | exact Nat.le_of_eq (cells_len _).symm) ?_)
          intro m qm
          have dm_n3 : ¬ m = n3 := qm.1
          have em_n3 : (m = n3) = False := eq_false dm_n3
          have fm_n3 : (n3 = m) = False := eq_false (fun e => dm_n3 e.symm)
          have dn3_m : ¬ n3 = m := fun e => dm_n3 e.symm
          have dm_n2 : ¬ m = n2 := qm.2.1
          have em_n2 : (m = n2) = False := eq_false dm_n2
          have fm_n2 : (n2 = m) = False := eq_false (fun e => dm_n2 e.symm)
          have dn2_m : ¬ n2 = m := fun e => dm_n2 e.symm
          have z_m := qm.2.2
          try simp (maxSteps := 1000000) -dsimp -implicitDefEqProofs only [go_sem, ↓reduceIte, keep78, ib78, mk78, Tryz.f78, upd_upd, upd_ne, en3_n2, fn3_n2, em_n3, fm_n3, em_n2, fm_n2, ea, hlt, oheap_none, onil_none, oc0_0.flat, oc0_0.one, oc0_3.flat, oc0_3.one, oc0_4.flat, oc0_4.one, oc1_0.flat, oc1_0.one, oc2_0.flat, oc2_0.one, oc3_0.flat, oc3_0.one, ob_2.flat, ob_2.one, OV.map_val, OV.map_val_nil, OV.val_v]
          refine ⟨(k + 1, ([] : List (List OV)) ++ [[.v (.int .i64 x.fParts[k].fCode), .v (.int .i64 x.fParts[k].fValue), yb_2]], gb, some m), ?_⟩
          simp only
          refine ⟨?_, (by intro q_; simp only [upd_get, oheap_none, oheap_some, onil_none, onil_some, take_cells, cells_snoc, cells_one, cells_nil, cellv_cons, cellv_nil, OV.val_v, List.nil_append, List.length_append, List.length_cons, List.length_nil, Nat.zero_add]; grind), ⟨by omega, OR.snoc hor hlt oeb, hnew.snoc wb, z_n2, z_n3, z_m, (fun n_ e_ => by obtain rfl := Option.some.inj e_; exact ⟨dm_n2, dm_n3⟩)⟩, by omega⟩
          all_goals (repeat' (with_reducible refine And.intro ?_ ?_))
          all_goals first | rfl | trivial | (rw [IntWalk.i64_in _ (by omega)]; omega)
        | some n =>
          rw [gside_some] at hos
          have z_n := hos
          have hn := hon n rfl
          have dn_n2 : ¬ n = n2 := hn.1
          have en_n2 : (n = n2) = False := eq_false dn_n2
          have fn_n2 : (n2 = n) = False := eq_false (fun e => dn_n2 e.symm)
          have dn2_n : ¬ n2 = n := fun e => dn_n2 e.symm
          have dn_n3 : ¬ n = n3 := hn.2
          have en_n3 : (n = n3) = False := eq_false dn_n3
          have fn_n3 : (n3 = n) = False := eq_false (fun e => dn_n3 e.symm)
          have dn3_n : ¬ n3 = n := fun e => dn_n3 e.symm
          try simp (maxSteps := 1000000) -dsimp -implicitDefEqProofs only [go_sem, ↓reduceIte, keep78, ib78, mk78, Tryz.f78, upd_upd, upd_ne, en3_n2, fn3_n2, en_n2, fn_n2, en_n3, fn_n3, ea, hlt, oheap_some, onil_some, oc0_0.flat, oc0_0.one, oc0_3.flat, oc0_3.one, oc0_4.flat, oc0_4.one, oc1_0.flat, oc1_0.one, oc2_0.flat, oc2_0.one, oc3_0.flat, oc3_0.one, DPart.c_eq]
          try (with_reducible intro _)
          refine HFnF.wn3 (hx) z_n ⟨dn2_n, z_n2⟩ ⟨dn3_n2, dn3_n, z_n3⟩ ?_
          rintro r l_ gb ⟨e_b, oeb, rfl, rfl⟩ wb z_n z_n2 z_n3
          have oob := oeb
          obtain ⟨yb_2, rfl, ob_2⟩ := oob
          try simp (maxSteps := 1000000) -dsimp -implicitDefEqProofs only [go_sem, ↓reduceIte, keep78, ib78, mk78, Tryz.f78, upd_upd, upd_ne, en3_n2, fn3_n2, en_n2, fn_n2, en_n3, fn_n3, ea, hlt, oheap_some, onil_some, oc0_0.flat, oc0_0.one, oc0_3.flat, oc0_3.one, oc0_4.flat, oc0_4.one, oc1_0.flat, oc1_0.one, oc2_0.flat, oc2_0.one, oc3_0.flat, oc3_0.one, ob_2.flat, ob_2.one, OV.map_val, OV.map_val_nil, OV.val_v, DPart.c_eq]
          repeat' (with_reducible first | refine And.intro (by first | omega | decide | rfl | trivial | exact Nat.le_of_eq (reps_len _ _).symm | exact Nat.le_of_eq (cells_len _).symm) ?_)
          intro m qm
          have dm_n3 : ¬ m = n3 := qm.1
          have em_n3 : (m = n3) = False := eq_false dm_n3
          have fm_n3 : (n3 = m) = False := eq_false (fun e => dm_n3 e.symm)
          have dn3_m : ¬ n3 = m := fun e => dm_n3 e.symm
          have dm_n2 : ¬ m = n2 := qm.2.1
          have em_n2 : (m = n2) = False := eq_false dm_n2
          have fm_n2 : (n2 = m) = False := eq_false (fun e => dm_n2 e.symm)
          have dn2_m : ¬ n2 = m := fun e => dm_n2 e.symm
          have dm_n : ¬ m = n := qm.2.2.1
          have em_n : (m = n) = False := eq_false dm_n
          have fm_n : (n = m) = False := eq_false (fun e => dm_n e.symm)
          have dn_m : ¬ n = m := fun e => dm_n e.symm
          have z_m := qm.2.2.2
          try simp (maxSteps := 1000000) -dsimp -implicitDefEqProofs only [go_sem, ↓reduceIte, keep78, ib78, mk78, Tryz.f78, upd_upd, upd_ne, en3_n2, fn3_n2, en_n2, fn_n2, en_n3, fn_n3, em_n3, fm_n3, em_n2, fm_n2, em_n, fm_n, ea, hlt, oheap_some, onil_some, oc0_0.flat, oc0_0.one, oc0_3.flat, oc0_3.one, oc0_4.flat, oc0_4.one, oc1_0.flat, oc1_0.one, oc2_0.flat, oc2_0.one, oc3_0.flat, oc3_0.one, ob_2.flat, ob_2.one, OV.map_val, OV.map_val_nil, OV.val_v]
          refine ⟨(k + 1, es ++ [[.v (.int .i64 x.fParts[k].fCode), .v (.int .i64 x.fParts[k].fValue), yb_2]], gb, some m), ?_⟩
          simp only
          refine ⟨?_, (by intro q_; simp only [upd_get, oheap_none, oheap_some, onil_none, onil_some, take_cells, cells_snoc, cells_one, cells_nil, cellv_cons, cellv_nil, OV.val_v, List.nil_append, List.length_append, List.length_cons, List.length_nil, Nat.zero_add]; grind), ⟨by omega, OR.snoc hor hlt oeb, hnew.snoc wb, z_n2, z_n3, z_m, (fun n_ e_ => by obtain rfl := Option.some.inj e_; exact ⟨dm_n2, dm_n3⟩)⟩, by omega⟩
          all_goals (repeat' (with_reducible refine And.intro ?_ ?_))
          all_goals first | rfl | trivial | (rw [IntWalk.i64_in _ (by omega)]; omega)
      · have hk2 : k = x.fParts.length := by omega
        subst hk2
        rw [List.take_length] at hor
        have zz_n2 : oheap g_ (.row 3 (OV.cells es)) o_ n2 = none := oheap_at z_n2 fun n_ e_ => (hon n_ e_).1
        have zz_n3 : oheap g_ (.row 3 (OV.cells es)) o_ n3 = none := oheap_at z_n3 fun n_ e_ => (hon n_ e_).2
        try simp (maxSteps := 1000000) -dsimp -implicitDefEqProofs only [go_sem, ↓reduceIte, keep78, ib78, mk78, Tryz.f78, upd_upd, upd_ne, en3_n2, fn3_n2, onil_flat, onil_cells, oc0_0.flat, oc0_0.one, oc0_3.flat, oc0_3.one, oc0_4.flat, oc0_4.one, oc1_0.flat, oc1_0.one, oc2_0.flat, oc2_0.one, oc3_0.flat, oc3_0.one, Nat.lt_irrefl]
        try (with_reducible intro _)
        refine ⟨_, (oheap g_ (.row 3 (OV.cells es)) o_), _, Shift.of (Sub.agg (SubL.cons (Sub.refl _) (SubL.cons (Sub.refl _) (SubL.cons (Sub.refl _) (SubL.cons (Sub.refl _) (SubL.cons (Sub.refl _) (SubL.cons (Sub.refl _) (SubL.cons (Sub.refl _) (SubL.cons gov_sub (SubL.cons (Sub.refl _) SubL.nil)))))))))) (by intro q_; simp only [upd_get, oheap_none, oheap_some, onil_none, onil_some, take_cells, cells_snoc, cells_one, cells_nil, cellv_cons, cellv_nil, OV.val_v, List.nil_append, List.length_append, List.length_cons, List.length_nil, Nat.zero_add]; grind), ⟨[yc0_0, .v (.int .i64 x.fJob.fFunc), .v (.int .i64 x.fJob.fShared), yc0_3, yc0_4, yc1_0, yc2_0, (gov 3 es o_), yc3_0], ?_, rfl, rfl⟩, ?_⟩
        · exact ⟨yc0_0, yc0_3, yc0_4, yc1_0, yc2_0, (gov 3 es o_), yc3_0, rfl, oc0_0, oc0_3, oc0_4, oc1_0, oc2_0, gov_os hor hos, oc3_0⟩
        · have hq := (New.append (New.append (New.append (New.append wc0 wc1) wc2) wc3) (gov_new (sz := 3) hnew hos))
          refine New.perm (a := _) hq ?_
          simp only [OV.row_cons, OV.row_nil, OV.v_rows, OV.nil_rows, List.nil_append, List.append_nil, List.append_assoc]
          first | exact List.Perm.refl _ | (simp only [← List.append_assoc]; exact perm_last _ _ _) | (simp only [← List.append_assoc]; exact perm_last1 _ _) 


end Go.Hl

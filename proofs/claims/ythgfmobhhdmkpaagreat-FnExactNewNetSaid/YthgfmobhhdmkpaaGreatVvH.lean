/-
  Contracts of functions and laws of the layer over the walk.
-/
import Derived.Test.YthgfmobhhdmkpaaGreatVvG
import Derived.Test.YthgfmobhhdmkpaaGreatVvD
import Derived.Test.YthgfmobhhdmkpaaGreatVvF
import Derived.Test.YthgfmobhhdmkpaaGreatVvA
import Derived.Test.YthgfmobhhdmkpaaGreatVvB
import Derived.Test.YthgfmobhhdmkpaaGreatVvC
namespace Go.Hl
open Go.Proofs
set_option linter.unusedVariables false
set_option linter.unusedSimpArgs false
theorem sum_reps (k n : Nat) : ((List.replicate k n).sum) = k * n := by simp
theorem newS_s (a : DJob) : (newS a).s ≤ 5 * a.s := by
  have h1 := a.s_eq
  have h2 := (newS a).s_eq
  have h3 : (⟨0, 0, []⟩ : DPart).s = 0 := rfl
  simp only [newS, szs_eq, List.length_replicate, List.map_replicate, sum_reps, h3] at h1 h2 ⊢
  omega
open Go.Proofs
set_option linter.unusedVariables false
set_option linter.unusedSimpArgs false
def workerOK (w : Int) : Prop := 0 ≤ w ∧ w ≤ 3
noncomputable instance (w : Int) : Decidable (workerOK w) := Classical.propDecidable _
open Go.Proofs
set_option linter.unusedVariables false
set_option linter.unusedSimpArgs false
def zNet : DNet := ⟨⟨⟨[]⟩, 0, 0, [], []⟩, ⟨⟨⟨[]⟩, 0, 0, [], []⟩, [], [], [], []⟩, [], 0, [], []⟩
theorem zNet_o : ZeroO zNet.o [(.nilsl), (.int .i64 0), (.int .i64 0), (.nilsl), (.nilsl), (.nilsl), (.int .i64 0), (.int .i64 0), (.nilsl), (.nilsl), (.nilsl), (.nilsl), (.nilsl), (.nilsl), (.str []), (.int .i64 0), (.nilsl), (.nilsl)] := ⟨[(.nil 3), .v (.int .i64 0), .v (.int .i64 0), (.nil 1), (.nil 1), (.nil 3), .v (.int .i64 0), .v (.int .i64 0), (.nil 1), (.nil 1), (.nil 1), (.nil 1), (.nil 3), (.nil 1), .v (.str []), .v (.int .i64 0), (.nil 1), (.nil 5)], ⟨(.nil 3), (.nil 1), (.nil 1), (.nil 3), (.nil 1), (.nil 1), (.nil 1), (.nil 1), (.nil 3), (.nil 1), (.nil 1), (.nil 5), rfl, OS.nil, OS.nil, OS.nil, OS.nil, OS.nil, OS.nil, OS.nil, OS.nil, OS.nil, OS.nil, OS.nil, OS.nil⟩, rfl, Sub.agg (SubL.cons (Sub.nil _ _) (SubL.cons (Sub.refl _) (SubL.cons (Sub.refl _) (SubL.cons (Sub.nil _ _) (SubL.cons (Sub.nil _ _) (SubL.cons (Sub.nil _ _) (SubL.cons (Sub.refl _) (SubL.cons (Sub.refl _) (SubL.cons (Sub.nil _ _) (SubL.cons (Sub.nil _ _) (SubL.cons (Sub.nil _ _) (SubL.cons (Sub.nil _ _) (SubL.cons (Sub.nil _ _) (SubL.cons (Sub.nil _ _) (SubL.cons (Sub.refl _) (SubL.cons (Sub.refl _) (SubL.cons (Sub.nil _ _) (SubL.cons (Sub.nil _ _) SubL.nil))))))))))))))))))⟩

def netN (j : DJob) (w : Int) : DNet := ⟨j, newS j, [], 0, List.replicate w.toNat [], []⟩
def wkOK (w : Int) : Prop := 1 ≤ w ∧ w ≤ 4
noncomputable instance (w : Int) : Decidable (wkOK w) := Classical.propDecidable _
noncomputable def netRes (j : DJob) (w : Int) : DNet × Int := if j.ok then (if wkOK w then (netN j w, 0) else (zNet, 2)) else (zNet, 1)
theorem netRes_1 {j : DJob} {w : Int} (h : ¬ j.ok) : netRes j w = (zNet, 1) := if_neg h
theorem netRes_2 {j : DJob} {w : Int} (h : j.ok) (h2 : ¬ wkOK w) : netRes j w = (zNet, 2) := by rw [netRes, if_pos h, if_neg h2]
theorem netRes_ok {j : DJob} {w : Int} (h : j.ok) (h2 : wkOK w) : netRes j w = (netN j w, 0) := by rw [netRes, if_pos h, if_pos h2]
theorem rows_map_reps (k : Nat) (e : List HVal) : (List.replicate k e).map (List.map Cell.v) = reps k (e.map .v) := by simp [reps]
def keep21 : List Nat := [0, 1, 2, 4, 5, 6, 11]
def ib21 : List Nat := [2]
def mk21 : Marks := fun id => match id with | 5 => ([1, 3, 5, 7], (.op 0 (.op 2 (.op 4 (.alt 1 (.alt 3 (.op 5 (.op 6 (.op 7 (.op 8 .nil)))) 5 (.op 3 (.op 6 (.op 7 (.op 8 .nil))))) 5 (.op 1 (.op 3 (.op 6 (.op 7 (.op 8 .nil))))))))), []) | _ => ([], .nil, [])
set_option maxRecDepth 100000 in
set_option maxHeartbeats 2000000 in
theorem NewNet (x : DJob) (w : Int) (hs : x.s ≤ 1048576) : FnN Tryz.prog 21 [.agg x.c, I w] (QA (netRes x w).1.o (fun y => .tup [y, I (netRes x w).2])) := by
  have hs' := x.s_eq
  try simp only [szs_eq] at hs'
  have hok := ValidJob x (by omega)
  have hcj := cloneJob x hs
  have hnw := newService x hs (by omega)
  simp only [DJob.c_eq] at hok hcj hnw ⊢
  refine fnNF 23 keep21 ib21 mk21 mix Tryz.func21 rfl (by kernel_rfl) (by simp) fun h => ?_
  simp (maxSteps := 1000000) -dsimp -implicitDefEqProofs only [go_sem, ↓reduceIte, keep21, ib21, mk21, Tryz.f21]
  intro n4 z4
  try simp (maxSteps := 1000000) -dsimp -implicitDefEqProofs only [go_sem, ↓reduceIte, keep21, ib21, mk21, Tryz.f21]
  first | refine HFnF.mk (hok) ?_ | refine CallSF.mk (hok) ?_ | refine HFnF.mkAt (hok) ?_ | refine CallSF.mk (FnAt.fn0 (hok)) ?_
  simp (maxSteps := 1000000) -dsimp -implicitDefEqProofs only [go_sem, ↓reduceIte, keep21, ib21, mk21, Tryz.f21]
  refine ⟨fun hn => ?_, fun hy => ?_⟩
  · have hn' : ¬ x.ok := by simpa using hn
    rw [netRes_1 hn']
    try simp (maxSteps := 1000000) -dsimp -implicitDefEqProofs only [go_sem, ↓reduceIte, keep21, ib21, mk21, Tryz.f21, upd_upd]
    exact own_zero zNet_o (wsub_tup [] [_]) (by repeat' (first | exact Heap.le_refl _ | refine Heap.le_both ?_ | refine Heap.le_upd (by first | assumption | (rw [upd_ne _ _ _ _ (by assumption)]; assumption) | (rw [upd_ne _ _ _ _ (by assumption), upd_ne _ _ _ _ (by assumption)]; assumption) | (rw [upd_ne _ _ _ _ (by assumption), upd_ne _ _ _ _ (by assumption), upd_ne _ _ _ _ (by assumption)]; assumption)) ?_))
  have hy' : x.ok := by simpa using hy
  try simp (maxSteps := 1000000) -dsimp -implicitDefEqProofs only [go_sem, ↓reduceIte, keep21, ib21, mk21, Tryz.f21]
  first | refine HFnF.mk (within w 1 4) ?_ | refine CallSF.mk (within w 1 4) ?_ | refine HFnF.mkAt (within w 1 4) ?_ | refine CallSF.mk (FnAt.fn0 (within w 1 4)) ?_
  simp (maxSteps := 1000000) -dsimp -implicitDefEqProofs only [go_sem, ↓reduceIte, keep21, ib21, mk21, Tryz.f21]
  refine ⟨fun hn => ?_, fun hw => ?_⟩
  · have hn' : ¬ wkOK w := by simpa [wkOK] using hn
    rw [netRes_2 hy' hn']
    try simp (maxSteps := 1000000) -dsimp -implicitDefEqProofs only [go_sem, ↓reduceIte, keep21, ib21, mk21, Tryz.f21, upd_upd]
    exact own_zero zNet_o (wsub_tup [] [_]) (by repeat' (first | exact Heap.le_refl _ | refine Heap.le_both ?_ | refine Heap.le_upd (by first | assumption | (rw [upd_ne _ _ _ _ (by assumption)]; assumption) | (rw [upd_ne _ _ _ _ (by assumption), upd_ne _ _ _ _ (by assumption)]; assumption) | (rw [upd_ne _ _ _ _ (by assumption), upd_ne _ _ _ _ (by assumption), upd_ne _ _ _ _ (by assumption)]; assumption)) ?_))
  have hw' : wkOK w := by simpa [wkOK] using hw
  have hw1 := hw'.1
  have hw2 := hw'.2
  rw [netRes_ok hy' hw']
  try simp (maxSteps := 1000000) -dsimp -implicitDefEqProofs only [go_sem, ↓reduceIte, keep21, ib21, mk21, Tryz.f21]
  refine ⟨?_, Nat.zero_lt_one, by omega, Int.le_refl _, by omega, by omega, ?_⟩
  · refine HFnF.wn1 hcj z4 ?_
    rintro r l_ g1 ⟨e, oe, rfl, rfl⟩ wj z4
    have oe1 := oe
    obtain ⟨yj_0, yj_3, yj_4, rfl, oj_0, oj_3, oj_4⟩ := oe1
    simp (maxSteps := 1000000) -dsimp -implicitDefEqProofs only [go_sem, ↓reduceIte, keep21, ib21, mk21, Tryz.f21, OV.map_val, OV.map_val_nil, OV.val_v, upd_upd, upd_ne, oj_0.flat, oj_0.one, oj_3.flat, oj_3.one, oj_4.flat, oj_4.one]
    refine ⟨?_, Nat.zero_lt_one, by omega, Int.le_refl _, by omega, by omega, ?_⟩
    · refine HFnF.wn1 hnw z4 ?_
      rintro r l_ g2 ⟨e2, oe2, rfl, rfl⟩ ws z4
      have oe3 := oe2
      obtain ⟨ys_0, ys_3, ys_4, ys_5, ys_6, ys_7, ys_8, rfl, os_0, os_3, os_4, os_5, os_6, os_7, os_8⟩ := oe3
      simp (maxSteps := 1000000) -dsimp -implicitDefEqProofs only [go_sem, ↓reduceIte, keep21, ib21, mk21, Tryz.f21, OV.map_val, OV.map_val_nil, OV.val_v, upd_upd, upd_ne, oj_0.flat, oj_0.one, oj_3.flat, oj_3.one, oj_4.flat, oj_4.one, os_0.flat, os_0.one, os_3.flat, os_3.one, os_4.flat, os_4.one, os_5.flat, os_5.one, os_6.flat, os_6.one, os_7.flat, os_7.one, os_8.flat, os_8.one]
      refine ⟨Nat.zero_lt_one, by omega, Int.le_refl _, by omega, by omega, ?_⟩
      intro nq q_nq
      have d_nq_n4 : ¬ nq = n4 := by first | exact q_nq.1 | exact q_nq | exact q_nq.2.1 | exact q_nq.2 | exact q_nq.2.2.1 | exact q_nq.2.2 | exact q_nq.2.2.2.1 | exact q_nq.2.2.2 | exact q_nq.2.2.2.2.1 | exact q_nq.2.2.2.2 | exact q_nq.2.2.2.2.2.1 | exact q_nq.2.2.2.2.2 | exact q_nq.2.2.2.2.2.2.1 | exact q_nq.2.2.2.2.2.2 | exact q_nq.2.2.2.2.2.2.2.1 | exact q_nq.2.2.2.2.2.2.2 | exact q_nq.2.2.2.2.2.2.2.2.1 | exact q_nq.2.2.2.2.2.2.2.2 | exact q_nq.2.2.2.2.2.2.2.2.2.1 | exact q_nq.2.2.2.2.2.2.2.2.2 | exact q_nq.2.2.2.2.2.2.2.2.2.2.1 | exact q_nq.2.2.2.2.2.2.2.2.2.2 | exact q_nq.2.2.2.2.2.2.2.2.2.2.2.1 | exact q_nq.2.2.2.2.2.2.2.2.2.2.2 | exact q_nq.2.2.2.2.2.2.2.2.2.2.2.2.1 | exact q_nq.2.2.2.2.2.2.2.2.2.2.2.2 | exact q_nq.2.2.2.2.2.2.2.2.2.2.2.2.2.1 | exact q_nq.2.2.2.2.2.2.2.2.2.2.2.2.2
      have e_nq_n4 : (nq = n4) = False := eq_false d_nq_n4
      have e_n4_nq : (n4 = nq) = False := eq_false (Ne.symm d_nq_n4)
      have d_n4_nq : ¬ n4 = nq := Ne.symm d_nq_n4
      have z_nq : g2 nq = none := by first | exact q_nq.1 | exact q_nq | exact q_nq.2.1 | exact q_nq.2 | exact q_nq.2.2.1 | exact q_nq.2.2 | exact q_nq.2.2.2.1 | exact q_nq.2.2.2 | exact q_nq.2.2.2.2.1 | exact q_nq.2.2.2.2 | exact q_nq.2.2.2.2.2.1 | exact q_nq.2.2.2.2.2 | exact q_nq.2.2.2.2.2.2.1 | exact q_nq.2.2.2.2.2.2 | exact q_nq.2.2.2.2.2.2.2.1 | exact q_nq.2.2.2.2.2.2.2 | exact q_nq.2.2.2.2.2.2.2.2.1 | exact q_nq.2.2.2.2.2.2.2.2 | exact q_nq.2.2.2.2.2.2.2.2.2.1 | exact q_nq.2.2.2.2.2.2.2.2.2 | exact q_nq.2.2.2.2.2.2.2.2.2.2.1 | exact q_nq.2.2.2.2.2.2.2.2.2.2 | exact q_nq.2.2.2.2.2.2.2.2.2.2.2.1 | exact q_nq.2.2.2.2.2.2.2.2.2.2.2 | exact q_nq.2.2.2.2.2.2.2.2.2.2.2.2.1 | exact q_nq.2.2.2.2.2.2.2.2.2.2.2.2 | exact q_nq.2.2.2.2.2.2.2.2.2.2.2.2.2.1 | exact q_nq.2.2.2.2.2.2.2.2.2.2.2.2.2
      simp (maxSteps := 1000000) -dsimp -implicitDefEqProofs only [go_sem, ↓reduceIte, keep21, ib21, mk21, Tryz.f21, OV.map_val, OV.map_val_nil, OV.val_v, upd_upd, upd_ne, oj_0.flat, oj_0.one, oj_3.flat, oj_3.one, oj_4.flat, oj_4.one, os_0.flat, os_0.one, os_3.flat, os_3.one, os_4.flat, os_4.one, os_5.flat, os_5.one, os_6.flat, os_6.one, os_7.flat, os_7.one, os_8.flat, os_8.one, e_n4_nq, e_nq_n4]
      have hqr := rows_map_reps w.toNat [HVal.nilsl]
      simp only [List.map_cons, List.map_nil] at hqr
      have hqc : OV.cells (List.replicate w.toNat [OV.nil 5]) = reps w.toNat [.v (.sl 5 [] true)] := by rw [cells_reps]; rfl
      have wall := ((wj.append ws).row (n := nq) (o := .row 1 (OV.cells (List.replicate w.toNat [OV.nil 5]))) z_nq).perm (List.perm_append_singleton _ _).symm
      rw [hqr]
      refine ⟨_, _, _, Shift.wk (Sub.tup (SubL.cons (Sub.agg ?_) (SubL.refl _))) (Heap.wk.trans (b := upd g2 nq (.row 1 (reps w.toNat [.v .nilsl]))) (Heap.wk_row (g := upd g2 nq (.row 1 (OV.cells (List.replicate w.toNat [OV.nil 5])))) (m := nq) (sz := 1) (es := reps w.toNat [.v .nilsl]) (es' := OV.cells (List.replicate w.toNat [OV.nil 5])) (fun q_ hq_ => by simp only [upd_apply, if_neg hq_]) (upd_same _ _ _) (upd_same _ _ _) (by rw [hqc]; exact RowsWk.reps (a := [.nilsl]) (b := [.sl 5 [] true]) (.cons (Sub.nil 5 true) .nil) _)) (Heap.wk_of_le (leX_nil (by repeat' (first | exact leX_refl _ _ | refine leX_put (by simp only [upd_apply, ↓reduceIte, eq_self, if_true, e_n4_nq, e_nq_n4]) ?_ | refine leX_strip (by first | exact .inr (by assumption) | exact .inl (by simp)) ?_))))), ⟨[yj_0, .v (.int .i64 x.fFunc), .v (.int .i64 x.fShared), yj_3, yj_4] ++ [ys_0, .v (.int .i64 (newS x).fJob.fFunc), .v (.int .i64 (newS x).fJob.fShared), ys_3, ys_4, ys_5, ys_6, ys_7, ys_8] ++ [.v (.str []), .v (I 0), .sl nq 1 (List.replicate w.toNat [.nil 5]), .nil 5], ?_, rfl, rfl⟩, ?_⟩
      · have hlq : (OV.sl nq 1 (List.replicate w.toNat [OV.nil 5])).val = .os nq 1 0 w.toNat := by rw [OV.val_sl, List.length_replicate]
        simp only [List.cons_append, List.nil_append, OV.map_val, OV.map_val_nil, OV.val_v, hlq, OV.val_nil]
        repeat (first | exact SubL.nil | refine SubL.cons (by first | exact Sub.refl _ | exact Sub.nil _ _) ?_)
      · exact ⟨yj_0, yj_3, yj_4, ys_0, ys_3, ys_4, ys_5, ys_6, ys_7, ys_8, _, _, rfl, oj_0, oj_3, oj_4, os_0, os_3, os_4, os_5, os_6, os_7, os_8, OS.mk (OR.reps (R := oS DReport.o 5) ⟨.nil 5, rfl, OS.nil⟩ _), OS.nil⟩
      · have htail : OV.rowsRow [OV.v (.str []), .v (I 0), .sl nq 1 (List.replicate w.toNat [.nil 5]), .nil 5] = [(nq, .row 1 (OV.cells (List.replicate w.toNat [OV.nil 5])))] := by
          simp only [OV.row_cons, OV.v_rows, OV.sl_rows, OV.nil_rows, OV.row_nil, rows_reps (e := [OV.nil 5]) rfl, List.nil_append, List.append_nil]
        rw [OV.rowsRow_append, OV.rowsRow_append, htail]
        exact wall
    · intro nq q_nq
      have d_nq_n4 : ¬ nq = n4 := by first | exact q_nq.1 | exact q_nq | exact q_nq.2.1 | exact q_nq.2 | exact q_nq.2.2.1 | exact q_nq.2.2 | exact q_nq.2.2.2.1 | exact q_nq.2.2.2 | exact q_nq.2.2.2.2.1 | exact q_nq.2.2.2.2 | exact q_nq.2.2.2.2.2.1 | exact q_nq.2.2.2.2.2 | exact q_nq.2.2.2.2.2.2.1 | exact q_nq.2.2.2.2.2.2 | exact q_nq.2.2.2.2.2.2.2.1 | exact q_nq.2.2.2.2.2.2.2 | exact q_nq.2.2.2.2.2.2.2.2.1 | exact q_nq.2.2.2.2.2.2.2.2 | exact q_nq.2.2.2.2.2.2.2.2.2.1 | exact q_nq.2.2.2.2.2.2.2.2.2 | exact q_nq.2.2.2.2.2.2.2.2.2.2.1 | exact q_nq.2.2.2.2.2.2.2.2.2.2 | exact q_nq.2.2.2.2.2.2.2.2.2.2.2.1 | exact q_nq.2.2.2.2.2.2.2.2.2.2.2 | exact q_nq.2.2.2.2.2.2.2.2.2.2.2.2.1 | exact q_nq.2.2.2.2.2.2.2.2.2.2.2.2 | exact q_nq.2.2.2.2.2.2.2.2.2.2.2.2.2.1 | exact q_nq.2.2.2.2.2.2.2.2.2.2.2.2.2
      have e_nq_n4 : (nq = n4) = False := eq_false d_nq_n4
      have e_n4_nq : (n4 = nq) = False := eq_false (Ne.symm d_nq_n4)
      have d_n4_nq : ¬ n4 = nq := Ne.symm d_nq_n4
      have z_nq : g1 nq = none := by first | exact q_nq.1 | exact q_nq | exact q_nq.2.1 | exact q_nq.2 | exact q_nq.2.2.1 | exact q_nq.2.2 | exact q_nq.2.2.2.1 | exact q_nq.2.2.2 | exact q_nq.2.2.2.2.1 | exact q_nq.2.2.2.2 | exact q_nq.2.2.2.2.2.1 | exact q_nq.2.2.2.2.2 | exact q_nq.2.2.2.2.2.2.1 | exact q_nq.2.2.2.2.2.2 | exact q_nq.2.2.2.2.2.2.2.1 | exact q_nq.2.2.2.2.2.2.2 | exact q_nq.2.2.2.2.2.2.2.2.1 | exact q_nq.2.2.2.2.2.2.2.2 | exact q_nq.2.2.2.2.2.2.2.2.2.1 | exact q_nq.2.2.2.2.2.2.2.2.2 | exact q_nq.2.2.2.2.2.2.2.2.2.2.1 | exact q_nq.2.2.2.2.2.2.2.2.2.2 | exact q_nq.2.2.2.2.2.2.2.2.2.2.2.1 | exact q_nq.2.2.2.2.2.2.2.2.2.2.2 | exact q_nq.2.2.2.2.2.2.2.2.2.2.2.2.1 | exact q_nq.2.2.2.2.2.2.2.2.2.2.2.2 | exact q_nq.2.2.2.2.2.2.2.2.2.2.2.2.2.1 | exact q_nq.2.2.2.2.2.2.2.2.2.2.2.2.2
      try simp (maxSteps := 1000000) -dsimp -implicitDefEqProofs only [go_sem, ↓reduceIte, keep21, ib21, mk21, Tryz.f21, OV.map_val, OV.map_val_nil, OV.val_v, upd_upd, upd_ne, oj_0.flat, oj_0.one, oj_3.flat, oj_3.one, oj_4.flat, oj_4.one, e_n4_nq, e_nq_n4]
      refine HFnF.wn2 hnw z4 ⟨d_nq_n4, z_nq⟩ ?_
      rintro r l_ g2 ⟨e2, oe2, rfl, rfl⟩ ws z4 z_nq
      have oe3 := oe2
      obtain ⟨ys_0, ys_3, ys_4, ys_5, ys_6, ys_7, ys_8, rfl, os_0, os_3, os_4, os_5, os_6, os_7, os_8⟩ := oe3
      simp (maxSteps := 1000000) -dsimp -implicitDefEqProofs only [go_sem, ↓reduceIte, keep21, ib21, mk21, Tryz.f21, OV.map_val, OV.map_val_nil, OV.val_v, upd_upd, upd_ne, oj_0.flat, oj_0.one, oj_3.flat, oj_3.one, oj_4.flat, oj_4.one, os_0.flat, os_0.one, os_3.flat, os_3.one, os_4.flat, os_4.one, os_5.flat, os_5.one, os_6.flat, os_6.one, os_7.flat, os_7.one, os_8.flat, os_8.one, e_n4_nq, e_nq_n4]
      have hqr := rows_map_reps w.toNat [HVal.nilsl]
      simp only [List.map_cons, List.map_nil] at hqr
      have hqc : OV.cells (List.replicate w.toNat [OV.nil 5]) = reps w.toNat [.v (.sl 5 [] true)] := by rw [cells_reps]; rfl
      have wall := ((wj.append ws).row (n := nq) (o := .row 1 (OV.cells (List.replicate w.toNat [OV.nil 5]))) z_nq).perm (List.perm_append_singleton _ _).symm
      rw [hqr]
      refine ⟨_, _, _, Shift.wk (Sub.tup (SubL.cons (Sub.agg ?_) (SubL.refl _))) (Heap.wk.trans (b := upd g2 nq (.row 1 (reps w.toNat [.v .nilsl]))) (Heap.wk_row (g := upd g2 nq (.row 1 (OV.cells (List.replicate w.toNat [OV.nil 5])))) (m := nq) (sz := 1) (es := reps w.toNat [.v .nilsl]) (es' := OV.cells (List.replicate w.toNat [OV.nil 5])) (fun q_ hq_ => by simp only [upd_apply, if_neg hq_]) (upd_same _ _ _) (upd_same _ _ _) (by rw [hqc]; exact RowsWk.reps (a := [.nilsl]) (b := [.sl 5 [] true]) (.cons (Sub.nil 5 true) .nil) _)) (Heap.wk_of_le (leX_nil (by repeat' (first | exact leX_refl _ _ | refine leX_put (by simp only [upd_apply, ↓reduceIte, eq_self, if_true, e_n4_nq, e_nq_n4]) ?_ | refine leX_strip (by first | exact .inr (by assumption) | exact .inl (by simp)) ?_))))), ⟨[yj_0, .v (.int .i64 x.fFunc), .v (.int .i64 x.fShared), yj_3, yj_4] ++ [ys_0, .v (.int .i64 (newS x).fJob.fFunc), .v (.int .i64 (newS x).fJob.fShared), ys_3, ys_4, ys_5, ys_6, ys_7, ys_8] ++ [.v (.str []), .v (I 0), .sl nq 1 (List.replicate w.toNat [.nil 5]), .nil 5], ?_, rfl, rfl⟩, ?_⟩
      · have hlq : (OV.sl nq 1 (List.replicate w.toNat [OV.nil 5])).val = .os nq 1 0 w.toNat := by rw [OV.val_sl, List.length_replicate]
        simp only [List.cons_append, List.nil_append, OV.map_val, OV.map_val_nil, OV.val_v, hlq, OV.val_nil]
        repeat (first | exact SubL.nil | refine SubL.cons (by first | exact Sub.refl _ | exact Sub.nil _ _) ?_)
      · exact ⟨yj_0, yj_3, yj_4, ys_0, ys_3, ys_4, ys_5, ys_6, ys_7, ys_8, _, _, rfl, oj_0, oj_3, oj_4, os_0, os_3, os_4, os_5, os_6, os_7, os_8, OS.mk (OR.reps (R := oS DReport.o 5) ⟨.nil 5, rfl, OS.nil⟩ _), OS.nil⟩
      · have htail : OV.rowsRow [OV.v (.str []), .v (I 0), .sl nq 1 (List.replicate w.toNat [.nil 5]), .nil 5] = [(nq, .row 1 (OV.cells (List.replicate w.toNat [OV.nil 5])))] := by
          simp only [OV.row_cons, OV.v_rows, OV.sl_rows, OV.nil_rows, OV.row_nil, rows_reps (e := [OV.nil 5]) rfl, List.nil_append, List.append_nil]
        rw [OV.rowsRow_append, OV.rowsRow_append, htail]
        exact wall
  · intro nq q_nq
    have d_nq_n4 : ¬ nq = n4 := by first | exact q_nq.1 | exact q_nq | exact q_nq.2.1 | exact q_nq.2 | exact q_nq.2.2.1 | exact q_nq.2.2 | exact q_nq.2.2.2.1 | exact q_nq.2.2.2 | exact q_nq.2.2.2.2.1 | exact q_nq.2.2.2.2 | exact q_nq.2.2.2.2.2.1 | exact q_nq.2.2.2.2.2 | exact q_nq.2.2.2.2.2.2.1 | exact q_nq.2.2.2.2.2.2 | exact q_nq.2.2.2.2.2.2.2.1 | exact q_nq.2.2.2.2.2.2.2 | exact q_nq.2.2.2.2.2.2.2.2.1 | exact q_nq.2.2.2.2.2.2.2.2 | exact q_nq.2.2.2.2.2.2.2.2.2.1 | exact q_nq.2.2.2.2.2.2.2.2.2 | exact q_nq.2.2.2.2.2.2.2.2.2.2.1 | exact q_nq.2.2.2.2.2.2.2.2.2.2 | exact q_nq.2.2.2.2.2.2.2.2.2.2.2.1 | exact q_nq.2.2.2.2.2.2.2.2.2.2.2 | exact q_nq.2.2.2.2.2.2.2.2.2.2.2.2.1 | exact q_nq.2.2.2.2.2.2.2.2.2.2.2.2 | exact q_nq.2.2.2.2.2.2.2.2.2.2.2.2.2.1 | exact q_nq.2.2.2.2.2.2.2.2.2.2.2.2.2
    have e_nq_n4 : (nq = n4) = False := eq_false d_nq_n4
    have e_n4_nq : (n4 = nq) = False := eq_false (Ne.symm d_nq_n4)
    have d_n4_nq : ¬ n4 = nq := Ne.symm d_nq_n4
    have z_nq : h nq = none := by first | exact q_nq.1 | exact q_nq | exact q_nq.2.1 | exact q_nq.2 | exact q_nq.2.2.1 | exact q_nq.2.2 | exact q_nq.2.2.2.1 | exact q_nq.2.2.2 | exact q_nq.2.2.2.2.1 | exact q_nq.2.2.2.2 | exact q_nq.2.2.2.2.2.1 | exact q_nq.2.2.2.2.2 | exact q_nq.2.2.2.2.2.2.1 | exact q_nq.2.2.2.2.2.2 | exact q_nq.2.2.2.2.2.2.2.1 | exact q_nq.2.2.2.2.2.2.2 | exact q_nq.2.2.2.2.2.2.2.2.1 | exact q_nq.2.2.2.2.2.2.2.2 | exact q_nq.2.2.2.2.2.2.2.2.2.1 | exact q_nq.2.2.2.2.2.2.2.2.2 | exact q_nq.2.2.2.2.2.2.2.2.2.2.1 | exact q_nq.2.2.2.2.2.2.2.2.2.2 | exact q_nq.2.2.2.2.2.2.2.2.2.2.2.1 | exact q_nq.2.2.2.2.2.2.2.2.2.2.2 | exact q_nq.2.2.2.2.2.2.2.2.2.2.2.2.1 | exact q_nq.2.2.2.2.2.2.2.2.2.2.2.2 | exact q_nq.2.2.2.2.2.2.2.2.2.2.2.2.2.1 | exact q_nq.2.2.2.2.2.2.2.2.2.2.2.2.2
    try simp (maxSteps := 1000000) -dsimp -implicitDefEqProofs only [go_sem, ↓reduceIte, keep21, ib21, mk21, Tryz.f21, OV.map_val, OV.map_val_nil, OV.val_v, upd_upd, upd_ne, e_n4_nq, e_nq_n4]
    refine HFnF.wn2 hcj z4 ⟨d_nq_n4, z_nq⟩ ?_
    rintro r l_ g1 ⟨e, oe, rfl, rfl⟩ wj z4 z_nq
    have oe1 := oe
    obtain ⟨yj_0, yj_3, yj_4, rfl, oj_0, oj_3, oj_4⟩ := oe1
    simp (maxSteps := 1000000) -dsimp -implicitDefEqProofs only [go_sem, ↓reduceIte, keep21, ib21, mk21, Tryz.f21, OV.map_val, OV.map_val_nil, OV.val_v, upd_upd, upd_ne, oj_0.flat, oj_0.one, oj_3.flat, oj_3.one, oj_4.flat, oj_4.one, e_n4_nq, e_nq_n4]
    refine HFnF.wn2 hnw z4 ⟨d_nq_n4, z_nq⟩ ?_
    rintro r l_ g2 ⟨e2, oe2, rfl, rfl⟩ ws z4 z_nq
    have oe3 := oe2
    obtain ⟨ys_0, ys_3, ys_4, ys_5, ys_6, ys_7, ys_8, rfl, os_0, os_3, os_4, os_5, os_6, os_7, os_8⟩ := oe3
    simp (maxSteps := 1000000) -dsimp -implicitDefEqProofs only [go_sem, ↓reduceIte, keep21, ib21, mk21, Tryz.f21, OV.map_val, OV.map_val_nil, OV.val_v, upd_upd, upd_ne, oj_0.flat, oj_0.one, oj_3.flat, oj_3.one, oj_4.flat, oj_4.one, os_0.flat, os_0.one, os_3.flat, os_3.one, os_4.flat, os_4.one, os_5.flat, os_5.one, os_6.flat, os_6.one, os_7.flat, os_7.one, os_8.flat, os_8.one, e_n4_nq, e_nq_n4]
    have hqr := rows_map_reps w.toNat [HVal.nilsl]
    simp only [List.map_cons, List.map_nil] at hqr
    have hqc : OV.cells (List.replicate w.toNat [OV.nil 5]) = reps w.toNat [.v (.sl 5 [] true)] := by rw [cells_reps]; rfl
    have wall := ((wj.append ws).row (n := nq) (o := .row 1 (OV.cells (List.replicate w.toNat [OV.nil 5]))) z_nq).perm (List.perm_append_singleton _ _).symm
    rw [hqr]
    refine ⟨_, _, _, Shift.wk (Sub.tup (SubL.cons (Sub.agg ?_) (SubL.refl _))) (Heap.wk.trans (b := upd g2 nq (.row 1 (reps w.toNat [.v .nilsl]))) (Heap.wk_row (g := upd g2 nq (.row 1 (OV.cells (List.replicate w.toNat [OV.nil 5])))) (m := nq) (sz := 1) (es := reps w.toNat [.v .nilsl]) (es' := OV.cells (List.replicate w.toNat [OV.nil 5])) (fun q_ hq_ => by simp only [upd_apply, if_neg hq_]) (upd_same _ _ _) (upd_same _ _ _) (by rw [hqc]; exact RowsWk.reps (a := [.nilsl]) (b := [.sl 5 [] true]) (.cons (Sub.nil 5 true) .nil) _)) (Heap.wk_of_le (leX_nil (by repeat' (first | exact leX_refl _ _ | refine leX_put (by simp only [upd_apply, ↓reduceIte, eq_self, if_true, e_n4_nq, e_nq_n4]) ?_ | refine leX_strip (by first | exact .inr (by assumption) | exact .inl (by simp)) ?_))))), ⟨[yj_0, .v (.int .i64 x.fFunc), .v (.int .i64 x.fShared), yj_3, yj_4] ++ [ys_0, .v (.int .i64 (newS x).fJob.fFunc), .v (.int .i64 (newS x).fJob.fShared), ys_3, ys_4, ys_5, ys_6, ys_7, ys_8] ++ [.v (.str []), .v (I 0), .sl nq 1 (List.replicate w.toNat [.nil 5]), .nil 5], ?_, rfl, rfl⟩, ?_⟩
    · have hlq : (OV.sl nq 1 (List.replicate w.toNat [OV.nil 5])).val = .os nq 1 0 w.toNat := by rw [OV.val_sl, List.length_replicate]
      simp only [List.cons_append, List.nil_append, OV.map_val, OV.map_val_nil, OV.val_v, hlq, OV.val_nil]
      repeat (first | exact SubL.nil | refine SubL.cons (by first | exact Sub.refl _ | exact Sub.nil _ _) ?_)
    · exact ⟨yj_0, yj_3, yj_4, ys_0, ys_3, ys_4, ys_5, ys_6, ys_7, ys_8, _, _, rfl, oj_0, oj_3, oj_4, os_0, os_3, os_4, os_5, os_6, os_7, os_8, OS.mk (OR.reps (R := oS DReport.o 5) ⟨.nil 5, rfl, OS.nil⟩ _), OS.nil⟩
    · have htail : OV.rowsRow [OV.v (.str []), .v (I 0), .sl nq 1 (List.replicate w.toNat [.nil 5]), .nil 5] = [(nq, .row 1 (OV.cells (List.replicate w.toNat [OV.nil 5])))] := by
        simp only [OV.row_cons, OV.v_rows, OV.sl_rows, OV.nil_rows, OV.row_nil, rows_reps (e := [OV.nil 5]) rfl, List.nil_append, List.append_nil]
      rw [OV.rowsRow_append, OV.rowsRow_append, htail]
      exact wall
def keep19 : List Nat := [0, 1, 2, 4, 5, 6, 7, 9, 13, 21]
def ib19 : List Nat := [2, 17, 26, 27]
def mk19 : Marks := fun _ => ([], .nil, [])
set_option maxRecDepth 100000 in
set_option maxHeartbeats 2000000 in
theorem specNewNet (x : DJob) (w : Int) (hs : x.s ≤ 1048576) : FnN Tryz.prog 19 [.agg x.c, I w] (QA (netRes x w).1.o (fun y => .tup [y, I (netRes x w).2])) := by
  have hs' := x.s_eq
  try simp only [szs_eq] at hs'
  have hok := l08Job x (by omega)
  have hcj := l08OwnJob x hs
  have hnw := l08New x hs (by omega)
  simp only [DJob.c_eq] at hok hcj hnw ⊢
  refine fnNF 31 keep19 ib19 mk19 mix Tryz.func19 rfl (by kernel_rfl) (by simp) fun h => ?_
  simp (maxSteps := 1000000) -dsimp -implicitDefEqProofs only [go_sem, ↓reduceIte, keep19, ib19, mk19, Tryz.f19]
  intro n4 z4
  try simp (maxSteps := 1000000) -dsimp -implicitDefEqProofs only [go_sem, ↓reduceIte, keep19, ib19, mk19, Tryz.f19]
  first | refine HFnF.mk (hok) ?_ | refine CallSF.mk (hok) ?_ | refine HFnF.mkAt (hok) ?_ | refine CallSF.mk (FnAt.fn0 (hok)) ?_
  simp (maxSteps := 1000000) -dsimp -implicitDefEqProofs only [go_sem, ↓reduceIte, keep19, ib19, mk19, Tryz.f19]
  refine ⟨fun hn => ?_, fun hy => ?_⟩
  · have hn' : ¬ x.ok := by simpa using hn
    rw [netRes_1 hn']
    try simp (maxSteps := 1000000) -dsimp -implicitDefEqProofs only [go_sem, ↓reduceIte, keep19, ib19, mk19, Tryz.f19, upd_upd]
    exact own_zero zNet_o (wsub_tup [] [_]) (by repeat' (first | exact Heap.le_refl _ | refine Heap.le_both ?_ | refine Heap.le_upd (by first | assumption | (rw [upd_ne _ _ _ _ (by assumption)]; assumption) | (rw [upd_ne _ _ _ _ (by assumption), upd_ne _ _ _ _ (by assumption)]; assumption) | (rw [upd_ne _ _ _ _ (by assumption), upd_ne _ _ _ _ (by assumption), upd_ne _ _ _ _ (by assumption)]; assumption)) ?_))
  have hy' : x.ok := by simpa using hy
  try simp (maxSteps := 1000000) -dsimp -implicitDefEqProofs only [go_sem, ↓reduceIte, keep19, ib19, mk19, Tryz.f19]
  first | refine HFnF.mk (l00In w 1 4) ?_ | refine CallSF.mk (l00In w 1 4) ?_ | refine HFnF.mkAt (l00In w 1 4) ?_ | refine CallSF.mk (FnAt.fn0 (l00In w 1 4)) ?_
  simp (maxSteps := 1000000) -dsimp -implicitDefEqProofs only [go_sem, ↓reduceIte, keep19, ib19, mk19, Tryz.f19]
  refine ⟨fun hn => ?_, fun hw => ?_⟩
  · have hn' : ¬ wkOK w := by simpa [wkOK] using hn
    rw [netRes_2 hy' hn']
    try simp (maxSteps := 1000000) -dsimp -implicitDefEqProofs only [go_sem, ↓reduceIte, keep19, ib19, mk19, Tryz.f19, upd_upd]
    exact own_zero zNet_o (wsub_tup [] [_]) (by repeat' (first | exact Heap.le_refl _ | refine Heap.le_both ?_ | refine Heap.le_upd (by first | assumption | (rw [upd_ne _ _ _ _ (by assumption)]; assumption) | (rw [upd_ne _ _ _ _ (by assumption), upd_ne _ _ _ _ (by assumption)]; assumption) | (rw [upd_ne _ _ _ _ (by assumption), upd_ne _ _ _ _ (by assumption), upd_ne _ _ _ _ (by assumption)]; assumption)) ?_))
  have hw' : wkOK w := by simpa [wkOK] using hw
  have hw1 := hw'.1
  have hw2 := hw'.2
  rw [netRes_ok hy' hw']
  try simp (maxSteps := 1000000) -dsimp -implicitDefEqProofs only [go_sem, ↓reduceIte, keep19, ib19, mk19, Tryz.f19]
  refine HFnF.wn1 hcj z4 ?_
  rintro r l_ g1 ⟨e, oe, rfl, rfl⟩ wj z4
  have oe1 := oe
  obtain ⟨yj_0, yj_3, yj_4, rfl, oj_0, oj_3, oj_4⟩ := oe1
  simp (maxSteps := 1000000) -dsimp -implicitDefEqProofs only [go_sem, ↓reduceIte, keep19, ib19, mk19, Tryz.f19, OV.map_val, OV.map_val_nil, OV.val_v, upd_upd, upd_ne, oj_0.flat, oj_0.one, oj_3.flat, oj_3.one, oj_4.flat, oj_4.one]
  refine HFnF.wn1 hnw z4 ?_
  rintro r l_ g2 ⟨e2, oe2, rfl, rfl⟩ ws z4
  have oe3 := oe2
  obtain ⟨ys_0, ys_3, ys_4, ys_5, ys_6, ys_7, ys_8, rfl, os_0, os_3, os_4, os_5, os_6, os_7, os_8⟩ := oe3
  simp (maxSteps := 1000000) -dsimp -implicitDefEqProofs only [go_sem, ↓reduceIte, keep19, ib19, mk19, Tryz.f19, OV.map_val, OV.map_val_nil, OV.val_v, upd_upd, upd_ne, oj_0.flat, oj_0.one, oj_3.flat, oj_3.one, oj_4.flat, oj_4.one, os_0.flat, os_0.one, os_3.flat, os_3.one, os_4.flat, os_4.one, os_5.flat, os_5.one, os_6.flat, os_6.one, os_7.flat, os_7.one, os_8.flat, os_8.one]
  refine ⟨by omega, ?_⟩
  intro n6 q_n6
  have d_n6_n4 : ¬ n6 = n4 := by first | exact q_n6.1 | exact q_n6 | exact q_n6.2.1 | exact q_n6.2 | exact q_n6.2.2.1 | exact q_n6.2.2 | exact q_n6.2.2.2.1 | exact q_n6.2.2.2 | exact q_n6.2.2.2.2.1 | exact q_n6.2.2.2.2 | exact q_n6.2.2.2.2.2.1 | exact q_n6.2.2.2.2.2 | exact q_n6.2.2.2.2.2.2.1 | exact q_n6.2.2.2.2.2.2 | exact q_n6.2.2.2.2.2.2.2.1 | exact q_n6.2.2.2.2.2.2.2 | exact q_n6.2.2.2.2.2.2.2.2.1 | exact q_n6.2.2.2.2.2.2.2.2 | exact q_n6.2.2.2.2.2.2.2.2.2.1 | exact q_n6.2.2.2.2.2.2.2.2.2 | exact q_n6.2.2.2.2.2.2.2.2.2.2.1 | exact q_n6.2.2.2.2.2.2.2.2.2.2 | exact q_n6.2.2.2.2.2.2.2.2.2.2.2.1 | exact q_n6.2.2.2.2.2.2.2.2.2.2.2 | exact q_n6.2.2.2.2.2.2.2.2.2.2.2.2.1 | exact q_n6.2.2.2.2.2.2.2.2.2.2.2.2 | exact q_n6.2.2.2.2.2.2.2.2.2.2.2.2.2.1 | exact q_n6.2.2.2.2.2.2.2.2.2.2.2.2.2
  have e_n6_n4 : (n6 = n4) = False := eq_false d_n6_n4
  have e_n4_n6 : (n4 = n6) = False := eq_false (Ne.symm d_n6_n4)
  have d_n4_n6 : ¬ n4 = n6 := Ne.symm d_n6_n4
  have z_n6 : g2 n6 = none := by first | exact q_n6.1 | exact q_n6 | exact q_n6.2.1 | exact q_n6.2 | exact q_n6.2.2.1 | exact q_n6.2.2 | exact q_n6.2.2.2.1 | exact q_n6.2.2.2 | exact q_n6.2.2.2.2.1 | exact q_n6.2.2.2.2 | exact q_n6.2.2.2.2.2.1 | exact q_n6.2.2.2.2.2 | exact q_n6.2.2.2.2.2.2.1 | exact q_n6.2.2.2.2.2.2 | exact q_n6.2.2.2.2.2.2.2.1 | exact q_n6.2.2.2.2.2.2.2 | exact q_n6.2.2.2.2.2.2.2.2.1 | exact q_n6.2.2.2.2.2.2.2.2 | exact q_n6.2.2.2.2.2.2.2.2.2.1 | exact q_n6.2.2.2.2.2.2.2.2.2 | exact q_n6.2.2.2.2.2.2.2.2.2.2.1 | exact q_n6.2.2.2.2.2.2.2.2.2.2 | exact q_n6.2.2.2.2.2.2.2.2.2.2.2.1 | exact q_n6.2.2.2.2.2.2.2.2.2.2.2 | exact q_n6.2.2.2.2.2.2.2.2.2.2.2.2.1 | exact q_n6.2.2.2.2.2.2.2.2.2.2.2.2 | exact q_n6.2.2.2.2.2.2.2.2.2.2.2.2.2.1 | exact q_n6.2.2.2.2.2.2.2.2.2.2.2.2.2
  refine loopF (keep := keep19) (ib := ib19) (mk := mk19) mix (by kernel_rfl) (fun q : Nat × Option Nat => [(1, I w), (4, .op n4 18 0 0), (6, .op n6 18 0 0), (7, I q.1)]) (fun q => oheap (upd (upd g2 n4 (.row 18 [[.v .nilsl, .v (I 0), .v (I 0), .v .nilsl, .v .nilsl, .v .nilsl, .v (I 0), .v (I 0), .v .nilsl, .v .nilsl, .v .nilsl, .v .nilsl, .v .nilsl, .v .nilsl, .v (.str []), .v (I 0), .v .nilsl, .v .nilsl]])) n6 (.row 18 [[.v yj_0.val, .v (I x.fFunc), .v (I x.fShared), .v yj_3.val, .v yj_4.val, .v ys_0.val, .v (I (newS x).fJob.fFunc), .v (I (newS x).fJob.fShared), .v ys_3.val, .v ys_4.val, .v ys_5.val, .v ys_6.val, .v ys_7.val, .v ys_8.val, .v (.str []), .v (I 0), .v (onil 1 q.1 q.2), .v (.sl 5 [] true)]])) (.row 1 (reps q.1 [.v (.sl 5 [] true)])) q.2) (fun q => q.1 ≤ w.toNat ∧ (q.2 = none → q.1 = 0) ∧ ∀ n, q.2 = some n → g2 n = none ∧ ¬ n = n4 ∧ ¬ n = n6) (fun q => w.toNat - q.1) (0, none) ⟨by simp [SatL, tget], Heap.le_refl _, Nat.zero_le _, fun _ => rfl, fun n z => by cases z⟩ ?_
  rintro ⟨k, o⟩ ⟨hk, ho0, hon⟩
  simp only at hk ho0 hon ⊢
  rcases Nat.lt_or_ge k w.toNat with hlt | hge
  · have hltI : (k : Int) < w := by omega
    cases o with
    | none =>
      have hk0 := ho0 rfl
      subst hk0
      simp (maxSteps := 1000000) -dsimp -implicitDefEqProofs only [go_sem, ↓reduceIte, keep19, ib19, mk19, Tryz.f19, OV.map_val, OV.map_val_nil, OV.val_v, upd_upd, upd_ne, oj_0.flat, oj_0.one, oj_3.flat, oj_3.one, oj_4.flat, oj_4.one, os_0.flat, os_0.one, os_3.flat, os_3.one, os_4.flat, os_4.one, os_5.flat, os_5.one, os_6.flat, os_6.one, os_7.flat, os_7.one, os_8.flat, os_8.one, e_n4_n6, e_n6_n4, hltI, oheap_none, onil_none]
      refine ⟨by omega, Nat.zero_lt_one, Nat.zero_lt_one, Nat.zero_lt_one, ?_⟩
      intro nb q_nb
      have d_nb_n4 : ¬ nb = n4 := by first | exact q_nb.1 | exact q_nb | exact q_nb.2.1 | exact q_nb.2 | exact q_nb.2.2.1 | exact q_nb.2.2 | exact q_nb.2.2.2.1 | exact q_nb.2.2.2 | exact q_nb.2.2.2.2.1 | exact q_nb.2.2.2.2 | exact q_nb.2.2.2.2.2.1 | exact q_nb.2.2.2.2.2 | exact q_nb.2.2.2.2.2.2.1 | exact q_nb.2.2.2.2.2.2 | exact q_nb.2.2.2.2.2.2.2.1 | exact q_nb.2.2.2.2.2.2.2 | exact q_nb.2.2.2.2.2.2.2.2.1 | exact q_nb.2.2.2.2.2.2.2.2 | exact q_nb.2.2.2.2.2.2.2.2.2.1 | exact q_nb.2.2.2.2.2.2.2.2.2 | exact q_nb.2.2.2.2.2.2.2.2.2.2.1 | exact q_nb.2.2.2.2.2.2.2.2.2.2 | exact q_nb.2.2.2.2.2.2.2.2.2.2.2.1 | exact q_nb.2.2.2.2.2.2.2.2.2.2.2 | exact q_nb.2.2.2.2.2.2.2.2.2.2.2.2.1 | exact q_nb.2.2.2.2.2.2.2.2.2.2.2.2 | exact q_nb.2.2.2.2.2.2.2.2.2.2.2.2.2.1 | exact q_nb.2.2.2.2.2.2.2.2.2.2.2.2.2
      have e_nb_n4 : (nb = n4) = False := eq_false d_nb_n4
      have e_n4_nb : (n4 = nb) = False := eq_false (Ne.symm d_nb_n4)
      have d_n4_nb : ¬ n4 = nb := Ne.symm d_nb_n4
      have d_nb_n6 : ¬ nb = n6 := by first | exact q_nb.1 | exact q_nb | exact q_nb.2.1 | exact q_nb.2 | exact q_nb.2.2.1 | exact q_nb.2.2 | exact q_nb.2.2.2.1 | exact q_nb.2.2.2 | exact q_nb.2.2.2.2.1 | exact q_nb.2.2.2.2 | exact q_nb.2.2.2.2.2.1 | exact q_nb.2.2.2.2.2 | exact q_nb.2.2.2.2.2.2.1 | exact q_nb.2.2.2.2.2.2 | exact q_nb.2.2.2.2.2.2.2.1 | exact q_nb.2.2.2.2.2.2.2 | exact q_nb.2.2.2.2.2.2.2.2.1 | exact q_nb.2.2.2.2.2.2.2.2 | exact q_nb.2.2.2.2.2.2.2.2.2.1 | exact q_nb.2.2.2.2.2.2.2.2.2 | exact q_nb.2.2.2.2.2.2.2.2.2.2.1 | exact q_nb.2.2.2.2.2.2.2.2.2.2 | exact q_nb.2.2.2.2.2.2.2.2.2.2.2.1 | exact q_nb.2.2.2.2.2.2.2.2.2.2.2 | exact q_nb.2.2.2.2.2.2.2.2.2.2.2.2.1 | exact q_nb.2.2.2.2.2.2.2.2.2.2.2.2 | exact q_nb.2.2.2.2.2.2.2.2.2.2.2.2.2.1 | exact q_nb.2.2.2.2.2.2.2.2.2.2.2.2.2
      have e_nb_n6 : (nb = n6) = False := eq_false d_nb_n6
      have e_n6_nb : (n6 = nb) = False := eq_false (Ne.symm d_nb_n6)
      have d_n6_nb : ¬ n6 = nb := Ne.symm d_nb_n6
      have z_nb : g2 nb = none := by first | exact q_nb.1 | exact q_nb | exact q_nb.2.1 | exact q_nb.2 | exact q_nb.2.2.1 | exact q_nb.2.2 | exact q_nb.2.2.2.1 | exact q_nb.2.2.2 | exact q_nb.2.2.2.2.1 | exact q_nb.2.2.2.2 | exact q_nb.2.2.2.2.2.1 | exact q_nb.2.2.2.2.2 | exact q_nb.2.2.2.2.2.2.1 | exact q_nb.2.2.2.2.2.2 | exact q_nb.2.2.2.2.2.2.2.1 | exact q_nb.2.2.2.2.2.2.2 | exact q_nb.2.2.2.2.2.2.2.2.1 | exact q_nb.2.2.2.2.2.2.2.2 | exact q_nb.2.2.2.2.2.2.2.2.2.1 | exact q_nb.2.2.2.2.2.2.2.2.2 | exact q_nb.2.2.2.2.2.2.2.2.2.2.1 | exact q_nb.2.2.2.2.2.2.2.2.2.2 | exact q_nb.2.2.2.2.2.2.2.2.2.2.2.1 | exact q_nb.2.2.2.2.2.2.2.2.2.2.2 | exact q_nb.2.2.2.2.2.2.2.2.2.2.2.2.1 | exact q_nb.2.2.2.2.2.2.2.2.2.2.2.2 | exact q_nb.2.2.2.2.2.2.2.2.2.2.2.2.2.1 | exact q_nb.2.2.2.2.2.2.2.2.2.2.2.2.2
      simp (maxSteps := 1000000) -dsimp -implicitDefEqProofs only [go_sem, ↓reduceIte, keep19, ib19, mk19, Tryz.f19, OV.map_val, OV.map_val_nil, OV.val_v, upd_upd, upd_ne, oj_0.flat, oj_0.one, oj_3.flat, oj_3.one, oj_4.flat, oj_4.one, os_0.flat, os_0.one, os_3.flat, os_3.one, os_4.flat, os_4.one, os_5.flat, os_5.one, os_6.flat, os_6.one, os_7.flat, os_7.one, os_8.flat, os_8.one, e_n4_n6, e_n4_nb, e_n6_n4, e_n6_nb, e_nb_n4, e_nb_n6]
      refine ⟨(1, some nb), ?_⟩
      simp only [oheap_some, onil_some, reps_one]
      exact ⟨by rfl, (leX_nil (by repeat' (first | exact leX_refl _ _ | refine leX_put (by simp only [upd_apply, ↓reduceIte, eq_self, if_true, e_n4_n6, e_n4_nb, e_n6_n4, e_n6_nb, e_nb_n4, e_nb_n6]) ?_ | refine leX_strip (by first | exact .inr (by assumption) | exact .inl (by simp)) ?_))), ⟨by omega, (fun z => by cases z), fun n z => by obtain rfl := Option.some.inj z; exact ⟨z_nb, d_nb_n4, d_nb_n6⟩⟩, by omega⟩
    | some m =>
      have hm := hon m rfl
      have z_m := hm.1
      have d_m_n4 : ¬ m = n4 := hm.2.1
      have d_n4_m : ¬ n4 = m := Ne.symm d_m_n4
      have e_m_n4 : (m = n4) = False := eq_false d_m_n4
      have e_n4_m : (n4 = m) = False := eq_false d_n4_m
      have d_m_n6 : ¬ m = n6 := hm.2.2
      have d_n6_m : ¬ n6 = m := Ne.symm d_m_n6
      have e_m_n6 : (m = n6) = False := eq_false d_m_n6
      have e_n6_m : (n6 = m) = False := eq_false d_n6_m
      simp (maxSteps := 1000000) -dsimp -implicitDefEqProofs only [go_sem, ↓reduceIte, keep19, ib19, mk19, Tryz.f19, OV.map_val, OV.map_val_nil, OV.val_v, upd_upd, upd_ne, oj_0.flat, oj_0.one, oj_3.flat, oj_3.one, oj_4.flat, oj_4.one, os_0.flat, os_0.one, os_3.flat, os_3.one, os_4.flat, os_4.one, os_5.flat, os_5.one, os_6.flat, os_6.one, os_7.flat, os_7.one, os_8.flat, os_8.one, e_n4_n6, e_n4_m, e_n6_n4, e_n6_m, e_m_n4, e_m_n6, hltI, oheap_some, onil_some, reps_len]
      refine ⟨by omega, Nat.zero_lt_one, Nat.zero_lt_one, Nat.zero_lt_one, Nat.le_refl _, by omega, by omega, ?_⟩
      intro nb q_nb
      have d_nb_m : ¬ nb = m := by first | exact q_nb.1 | exact q_nb | exact q_nb.2.1 | exact q_nb.2 | exact q_nb.2.2.1 | exact q_nb.2.2 | exact q_nb.2.2.2.1 | exact q_nb.2.2.2 | exact q_nb.2.2.2.2.1 | exact q_nb.2.2.2.2 | exact q_nb.2.2.2.2.2.1 | exact q_nb.2.2.2.2.2 | exact q_nb.2.2.2.2.2.2.1 | exact q_nb.2.2.2.2.2.2 | exact q_nb.2.2.2.2.2.2.2.1 | exact q_nb.2.2.2.2.2.2.2 | exact q_nb.2.2.2.2.2.2.2.2.1 | exact q_nb.2.2.2.2.2.2.2.2 | exact q_nb.2.2.2.2.2.2.2.2.2.1 | exact q_nb.2.2.2.2.2.2.2.2.2 | exact q_nb.2.2.2.2.2.2.2.2.2.2.1 | exact q_nb.2.2.2.2.2.2.2.2.2.2 | exact q_nb.2.2.2.2.2.2.2.2.2.2.2.1 | exact q_nb.2.2.2.2.2.2.2.2.2.2.2 | exact q_nb.2.2.2.2.2.2.2.2.2.2.2.2.1 | exact q_nb.2.2.2.2.2.2.2.2.2.2.2.2 | exact q_nb.2.2.2.2.2.2.2.2.2.2.2.2.2.1 | exact q_nb.2.2.2.2.2.2.2.2.2.2.2.2.2
      have e_nb_m : (nb = m) = False := eq_false d_nb_m
      have e_m_nb : (m = nb) = False := eq_false (Ne.symm d_nb_m)
      have d_m_nb : ¬ m = nb := Ne.symm d_nb_m
      have d_nb_n4 : ¬ nb = n4 := by first | exact q_nb.1 | exact q_nb | exact q_nb.2.1 | exact q_nb.2 | exact q_nb.2.2.1 | exact q_nb.2.2 | exact q_nb.2.2.2.1 | exact q_nb.2.2.2 | exact q_nb.2.2.2.2.1 | exact q_nb.2.2.2.2 | exact q_nb.2.2.2.2.2.1 | exact q_nb.2.2.2.2.2 | exact q_nb.2.2.2.2.2.2.1 | exact q_nb.2.2.2.2.2.2 | exact q_nb.2.2.2.2.2.2.2.1 | exact q_nb.2.2.2.2.2.2.2 | exact q_nb.2.2.2.2.2.2.2.2.1 | exact q_nb.2.2.2.2.2.2.2.2 | exact q_nb.2.2.2.2.2.2.2.2.2.1 | exact q_nb.2.2.2.2.2.2.2.2.2 | exact q_nb.2.2.2.2.2.2.2.2.2.2.1 | exact q_nb.2.2.2.2.2.2.2.2.2.2 | exact q_nb.2.2.2.2.2.2.2.2.2.2.2.1 | exact q_nb.2.2.2.2.2.2.2.2.2.2.2 | exact q_nb.2.2.2.2.2.2.2.2.2.2.2.2.1 | exact q_nb.2.2.2.2.2.2.2.2.2.2.2.2 | exact q_nb.2.2.2.2.2.2.2.2.2.2.2.2.2.1 | exact q_nb.2.2.2.2.2.2.2.2.2.2.2.2.2
      have e_nb_n4 : (nb = n4) = False := eq_false d_nb_n4
      have e_n4_nb : (n4 = nb) = False := eq_false (Ne.symm d_nb_n4)
      have d_n4_nb : ¬ n4 = nb := Ne.symm d_nb_n4
      have d_nb_n6 : ¬ nb = n6 := by first | exact q_nb.1 | exact q_nb | exact q_nb.2.1 | exact q_nb.2 | exact q_nb.2.2.1 | exact q_nb.2.2 | exact q_nb.2.2.2.1 | exact q_nb.2.2.2 | exact q_nb.2.2.2.2.1 | exact q_nb.2.2.2.2 | exact q_nb.2.2.2.2.2.1 | exact q_nb.2.2.2.2.2 | exact q_nb.2.2.2.2.2.2.1 | exact q_nb.2.2.2.2.2.2 | exact q_nb.2.2.2.2.2.2.2.1 | exact q_nb.2.2.2.2.2.2.2 | exact q_nb.2.2.2.2.2.2.2.2.1 | exact q_nb.2.2.2.2.2.2.2.2 | exact q_nb.2.2.2.2.2.2.2.2.2.1 | exact q_nb.2.2.2.2.2.2.2.2.2 | exact q_nb.2.2.2.2.2.2.2.2.2.2.1 | exact q_nb.2.2.2.2.2.2.2.2.2.2 | exact q_nb.2.2.2.2.2.2.2.2.2.2.2.1 | exact q_nb.2.2.2.2.2.2.2.2.2.2.2 | exact q_nb.2.2.2.2.2.2.2.2.2.2.2.2.1 | exact q_nb.2.2.2.2.2.2.2.2.2.2.2.2 | exact q_nb.2.2.2.2.2.2.2.2.2.2.2.2.2.1 | exact q_nb.2.2.2.2.2.2.2.2.2.2.2.2.2
      have e_nb_n6 : (nb = n6) = False := eq_false d_nb_n6
      have e_n6_nb : (n6 = nb) = False := eq_false (Ne.symm d_nb_n6)
      have d_n6_nb : ¬ n6 = nb := Ne.symm d_nb_n6
      have z_nb : g2 nb = none := by first | exact q_nb.1 | exact q_nb | exact q_nb.2.1 | exact q_nb.2 | exact q_nb.2.2.1 | exact q_nb.2.2 | exact q_nb.2.2.2.1 | exact q_nb.2.2.2 | exact q_nb.2.2.2.2.1 | exact q_nb.2.2.2.2 | exact q_nb.2.2.2.2.2.1 | exact q_nb.2.2.2.2.2 | exact q_nb.2.2.2.2.2.2.1 | exact q_nb.2.2.2.2.2.2 | exact q_nb.2.2.2.2.2.2.2.1 | exact q_nb.2.2.2.2.2.2.2 | exact q_nb.2.2.2.2.2.2.2.2.1 | exact q_nb.2.2.2.2.2.2.2.2 | exact q_nb.2.2.2.2.2.2.2.2.2.1 | exact q_nb.2.2.2.2.2.2.2.2.2 | exact q_nb.2.2.2.2.2.2.2.2.2.2.1 | exact q_nb.2.2.2.2.2.2.2.2.2.2 | exact q_nb.2.2.2.2.2.2.2.2.2.2.2.1 | exact q_nb.2.2.2.2.2.2.2.2.2.2.2 | exact q_nb.2.2.2.2.2.2.2.2.2.2.2.2.1 | exact q_nb.2.2.2.2.2.2.2.2.2.2.2.2 | exact q_nb.2.2.2.2.2.2.2.2.2.2.2.2.2.1 | exact q_nb.2.2.2.2.2.2.2.2.2.2.2.2.2
      simp (maxSteps := 1000000) -dsimp -implicitDefEqProofs only [go_sem, ↓reduceIte, keep19, ib19, mk19, Tryz.f19, OV.map_val, OV.map_val_nil, OV.val_v, upd_upd, upd_ne, oj_0.flat, oj_0.one, oj_3.flat, oj_3.one, oj_4.flat, oj_4.one, os_0.flat, os_0.one, os_3.flat, os_3.one, os_4.flat, os_4.one, os_5.flat, os_5.one, os_6.flat, os_6.one, os_7.flat, os_7.one, os_8.flat, os_8.one, e_n4_n6, e_n4_m, e_n4_nb, e_n6_n4, e_n6_m, e_n6_nb, e_m_n4, e_m_n6, e_m_nb, e_nb_n4, e_nb_n6, e_nb_m, reps_snoc]
      refine ⟨(k + 1, some nb), ?_⟩
      simp only [oheap_some, onil_some]
      exact ⟨by rw [IntWalk.i64_in _ (by omega)]; rfl, (leX_nil (by repeat' (first | exact leX_refl _ _ | refine leX_put (by simp only [upd_apply, ↓reduceIte, eq_self, if_true, e_n4_n6, e_n4_m, e_n4_nb, e_n6_n4, e_n6_m, e_n6_nb, e_m_n4, e_m_n6, e_m_nb, e_nb_n4, e_nb_n6, e_nb_m]) ?_ | refine leX_strip (by first | exact .inr (by assumption) | exact .inl (by simp)) ?_))), ⟨by omega, (fun z => by cases z), fun n z => by obtain rfl := Option.some.inj z; exact ⟨z_nb, d_nb_n4, d_nb_n6⟩⟩, by omega⟩
  · have hk' : k = w.toNat := by omega
    subst hk'
    have hkw : ((w.toNat : Nat) : Int) = w := by omega
    cases o with
    | none => have := ho0 rfl; omega
    | some m =>
      have hm := hon m rfl
      have z_m := hm.1
      have d_m_n4 : ¬ m = n4 := hm.2.1
      have d_n4_m : ¬ n4 = m := Ne.symm d_m_n4
      have e_m_n4 : (m = n4) = False := eq_false d_m_n4
      have e_n4_m : (n4 = m) = False := eq_false d_n4_m
      have d_m_n6 : ¬ m = n6 := hm.2.2
      have d_n6_m : ¬ n6 = m := Ne.symm d_m_n6
      have e_m_n6 : (m = n6) = False := eq_false d_m_n6
      have e_n6_m : (n6 = m) = False := eq_false d_n6_m
      simp (maxSteps := 1000000) -dsimp -implicitDefEqProofs only [go_sem, ↓reduceIte, keep19, ib19, mk19, Tryz.f19, OV.map_val, OV.map_val_nil, OV.val_v, upd_upd, upd_ne, oj_0.flat, oj_0.one, oj_3.flat, oj_3.one, oj_4.flat, oj_4.one, os_0.flat, os_0.one, os_3.flat, os_3.one, os_4.flat, os_4.one, os_5.flat, os_5.one, os_6.flat, os_6.one, os_7.flat, os_7.one, os_8.flat, os_8.one, e_n4_n6, e_n4_m, e_n6_n4, e_n6_m, e_m_n4, e_m_n6, hkw, Int.lt_irrefl, oheap_some, onil_some]
      have hqc : OV.cells (List.replicate w.toNat [OV.nil 5]) = reps w.toNat [.v (.sl 5 [] true)] := by rw [cells_reps]; rfl
      have wall := ((wj.append ws).row (n := m) (o := .row 1 (OV.cells (List.replicate w.toNat [OV.nil 5]))) z_m).perm (List.perm_append_singleton _ _).symm
      have hlq : (OV.sl m 1 (List.replicate w.toNat [OV.nil 5])).val = .os m 1 0 w.toNat := by rw [OV.val_sl, List.length_replicate]
      have htail : OV.rowsRow [OV.v (.str []), .v (I 0), .sl m 1 (List.replicate w.toNat [.nil 5]), .nil 5] = [(m, .row 1 (OV.cells (List.replicate w.toNat [OV.nil 5])))] := by
        simp only [OV.row_cons, OV.v_rows, OV.sl_rows, OV.nil_rows, OV.row_nil, rows_reps (e := [OV.nil 5]) rfl, List.nil_append, List.append_nil]
      rw [← hqc]
      refine own_endE (w := fun y => .tup [y, I 0]) (e := [yj_0, .v (.int .i64 x.fFunc), .v (.int .i64 x.fShared), yj_3, yj_4] ++ [ys_0, .v (.int .i64 (newS x).fJob.fFunc), .v (.int .i64 (newS x).fJob.fShared), ys_3, ys_4, ys_5, ys_6, ys_7, ys_8] ++ [.v (.str []), .v (I 0), .sl m 1 (List.replicate w.toNat [.nil 5]), .nil 5]) ?_ ⟨yj_0, yj_3, yj_4, ys_0, ys_3, ys_4, ys_5, ys_6, ys_7, ys_8, _, _, rfl, oj_0, oj_3, oj_4, os_0, os_3, os_4, os_5, os_6, os_7, os_8, OS.mk (OR.reps (R := oS DReport.o 5) ⟨.nil 5, rfl, OS.nil⟩ _), OS.nil⟩ (by rw [OV.rowsRow_append, OV.rowsRow_append, htail]; exact wall) (leX_nil (by repeat' (first | exact leX_refl _ _ | refine leX_put (by simp only [upd_apply, ↓reduceIte, eq_self, if_true, e_n4_n6, e_n4_m, e_n6_n4, e_n6_m, e_m_n4, e_m_n6]) ?_ | refine leX_strip (by first | exact .inr (by assumption) | exact .inl (by simp)) ?_)))
      simp only [List.cons_append, List.nil_append, OV.map_val, OV.map_val_nil, OV.val_v, hlq, OV.val_nil]
theorem netRes_s (a : DJob) (w : Int) : (netRes a w).1.s ≤ 6 * a.s + 8 := by
  by_cases h : a.ok
  · by_cases h2 : wkOK w
    · rw [netRes_ok h h2]
      have h1 := newS_s a
      have h3 := (netN a w).s_eq
      have hw := h2.2
      simp only [netN, szs_eq, List.length_replicate, List.map_replicate, sum_reps, List.length_nil, List.map_nil, List.sum_nil] at h3 ⊢
      omega
    · rw [netRes_2 h h2]
      have : zNet.s = 0 := rfl
      show zNet.s ≤ _
      omega
  · rw [netRes_1 h]
    have : zNet.s = 0 := rfl
    show zNet.s ≤ _
    omega
open Go.Proofs
set_option linter.unusedVariables false
set_option linter.unusedSimpArgs false


def keep144 : List Nat := [0, 1, 4, 5, 11, 15, 25]
def ib144 : List Nat := []
def mk144 : Marks := fun _ => ([], .nil, [])
set_option maxRecDepth 100000 in
theorem sz_ExprS (l : List DExpr) (left : Int) (h0 : 0 ≤ left) (h1 : left ≤ 1048576) (hc : ∀ x ∈ l, ∀ left : Int, 0 ≤ left → left ≤ 1048576 → Fn0 Tryz.prog 156 [(.agg (DExpr.c x)), I left] (I (lft left ((DExpr.s x))))) : Fn0 Tryz.prog 144 [sls 5 DExpr.c l, I left] (I (lft left (szs DExpr.s l))) := by
  refine fn0F 27 keep144 ib144 mk144 mix Tryz.func144 rfl (by kernel_rfl) (by simp) fun h => ?_
  simp -dsimp -implicitDefEqProofs only [go_sem, Tryz.f144, ↓reduceIte, keep144, ib144, mk144]
  intro hl
  rw [IntWalk.i64_in _ (by omega)]
  refine ⟨fun hn => ?_, fun hn => ?_⟩
  · exact (lft_neg (by rw [szs_eq]; omega)).symm
  · refine loopF (keep := keep144) (ib := ib144) (mk := mk144) mix (by kernel_rfl) (fun k : Nat => [(0, sls 5 DExpr.c l), (1, I (left - l.length - (((l.take k).map DExpr.s).sum : Int))), (5, I k)]) (fun _ => h) (fun k => k ≤ l.length ∧ 0 ≤ left - l.length - (((l.take k).map DExpr.s).sum : Int)) (fun k => l.length - k) 0 (by simp [SatL, tget, Heap.le_refl]; omega) ?_
    intro k ⟨hk, hb⟩
    rcases Nat.lt_or_ge k l.length with hlt | hge
    · have ea : l[k]? = some l[k] := List.getElem?_eq_getElem hlt
      simp -dsimp -implicitDefEqProofs only [go_sem, ↓reduceIte, keep144, ib144, mk144, Tryz.f144, ea, DExpr.c_eq]
      refine fun _ => ⟨fun _ => ⟨hlt, ?_⟩, fun hn => absurd hlt hn⟩
      have hx := hc l[k] (List.getElem_mem hlt) (left - l.length - (((l.take k).map DExpr.s).sum : Int)) (by omega) (by omega)
      simp only [DExpr.c_eq] at hx
      refine HFnF.mk hx ?_
      have hs := sum_take_succ DExpr.s l k hlt
      have hs' := sum_take_le DExpr.s l (k + 1)
      try dsimp only at hs
      rcases lft_cases (left - l.length - (((l.take k).map DExpr.s).sum : Int)) ((DExpr.s l[k])) with ⟨e, hl1⟩ | ⟨e, hl1⟩
      · simp -dsimp -implicitDefEqProofs only [go_sem, ↓reduceIte, keep144, ib144, mk144, Tryz.f144, e]
        exact (lft_neg (by rw [szs_eq]; omega)).symm
      · have hn1 : (left - l.length - (((l.take k).map DExpr.s).sum : Int) - ((DExpr.s l[k]) : Int) < 0) = False := eq_false (by omega)
        simp -dsimp -implicitDefEqProofs only [go_sem, ↓reduceIte, keep144, ib144, mk144, Tryz.f144, e, hn1]
        refine ⟨k + 1, ⟨?_, ?_⟩, ⟨by omega, by rw [hs]; omega⟩, by omega⟩
        · rw [hs]; omega
        · rw [IntWalk.i64_in _ (by omega)]; rfl
    · have hk' : k = l.length := by omega
      subst hk'
      simp -dsimp -implicitDefEqProofs only [go_sem, ↓reduceIte, keep144, ib144, mk144, Tryz.f144, Nat.lt_irrefl]
      refine fun _ => ?_
      rw [List.take_length] at hb ⊢
      rw [lft_pos (by rw [szs_eq]; omega), szs_eq]
      omega

def keep156 : List Nat := [0, 1, 2, 4, 10]
def ib156 : List Nat := [2]
def mk156 : Marks := fun _ => ([], .nil, [])
set_option maxRecDepth 100000 in
theorem sz_Expr_step (x : DExpr) (left : Int) (h0 : 0 ≤ left) (h1 : left ≤ 1048576) (hk : ∀ left : Int, 0 ≤ left → left ≤ 1048576 → Fn0 Tryz.prog 144 [(sls 5 DExpr.c x.fKids), I left] (I (lft left (szs DExpr.s x.fKids)))) : Fn0 Tryz.prog 156 [.agg x.c, I left] (I (lft left x.s)) := by
  rw [DExpr.s_eq]
  simp only [DExpr.c_eq]
  refine fn0F 12 keep156 ib156 mk156 mix Tryz.func156 rfl (by kernel_rfl) (by simp) fun h => ?_
  simp -dsimp -implicitDefEqProofs only [go_sem, Tryz.f156, ↓reduceIte, keep156, ib156, mk156]
  refine HFnF.mk (hk left (by omega) (by omega)) ?_
  rcases lft_cases left (szs DExpr.s x.fKids) with ⟨e, hl1⟩ | ⟨e, hl1⟩
  · simp -dsimp -implicitDefEqProofs only [go_sem, ↓reduceIte, keep156, ib156, mk156, Tryz.f156, e]
  · have hn1 : (left - ((szs DExpr.s x.fKids) : Int) < 0) = False := eq_false (by omega)
    simp -dsimp -implicitDefEqProofs only [go_sem, ↓reduceIte, keep156, ib156, mk156, Tryz.f156, e, hn1]
  try (rw [lft_pos (by omega)]; omega)
theorem sz_Expr (x : DExpr) (left : Int) (h0 : 0 ≤ left) (h1 : left ≤ 1048576) : Fn0 Tryz.prog 156 [.agg x.c, I left] (I (lft left x.s)) :=
  sz_Expr_step x left h0 h1 fun left h0 h1 => sz_ExprS x.fKids left h0 h1 fun y hy left h0 h1 => sz_Expr y left h0 h1
termination_by SizeOf.sizeOf x
decreasing_by exact DExpr.kid_lt hy

def keep131 : List Nat := [0, 1, 2, 4, 11, 17]
def ib131 : List Nat := [2]
def mk131 : Marks := fun _ => ([], .nil, [])
set_option maxRecDepth 100000 in
theorem sz_Func (x : DFunc) (left : Int) (h0 : 0 ≤ left) (h1 : left ≤ 1048576) : Fn0 Tryz.prog 131 [.agg x.c, I left] (I (lft left x.s)) := by
  rw [DFunc.s_eq]
  simp only [DFunc.c_eq]
  refine fn0F 19 keep131 ib131 mk131 mix Tryz.func131 rfl (by kernel_rfl) (by simp) fun h => ?_
  simp -dsimp -implicitDefEqProofs only [go_sem, Tryz.f131, ↓reduceIte, keep131, ib131, mk131]
  refine fun hl0 => ?_
  rw [IntWalk.i64_in _ (by omega)]
  generalize hL0 : left - ((x.fName.length : Nat) : Int) = L0
  refine ⟨fun hn => (lft_neg (by omega)).symm, fun hn0 => ?_⟩
  refine HFnF.mk (sz_ExprS x.fOuts (L0) (by omega) (by omega) (fun x _ left h0 h1 => sz_Expr x left h0 h1)) ?_
  generalize hL1 : lft (L0) (szs DExpr.s x.fOuts) = L1
  simp -dsimp -implicitDefEqProofs only [go_sem, ↓reduceIte, keep131, ib131, mk131, Tryz.f131]
  have hs1 := lft_step hL1
  refine ⟨fun hn => (lft_neg (by have := hs1.1 hn; omega)).symm, fun hn1 => ?_⟩
  have hp1 := hs1.2 hn1
  clear hs1 hL1
  try (rw [lft_pos (by omega)]; omega)

def keep105 : List Nat := [0, 1, 4, 5, 11, 15, 25]
def ib105 : List Nat := []
def mk105 : Marks := fun _ => ([], .nil, [])
set_option maxRecDepth 100000 in
theorem sz_FuncS (l : List DFunc) (left : Int) (h0 : 0 ≤ left) (h1 : left ≤ 1048576) (hc : ∀ x ∈ l, ∀ left : Int, 0 ≤ left → left ≤ 1048576 → Fn0 Tryz.prog 131 [(.agg (DFunc.c x)), I left] (I (lft left ((DFunc.s x))))) : Fn0 Tryz.prog 105 [sls 3 DFunc.c l, I left] (I (lft left (szs DFunc.s l))) := by
  refine fn0F 27 keep105 ib105 mk105 mix Tryz.func105 rfl (by kernel_rfl) (by simp) fun h => ?_
  simp -dsimp -implicitDefEqProofs only [go_sem, Tryz.f105, ↓reduceIte, keep105, ib105, mk105]
  intro hl
  rw [IntWalk.i64_in _ (by omega)]
  refine ⟨fun hn => ?_, fun hn => ?_⟩
  · exact (lft_neg (by rw [szs_eq]; omega)).symm
  · refine loopF (keep := keep105) (ib := ib105) (mk := mk105) mix (by kernel_rfl) (fun k : Nat => [(0, sls 3 DFunc.c l), (1, I (left - l.length - (((l.take k).map DFunc.s).sum : Int))), (5, I k)]) (fun _ => h) (fun k => k ≤ l.length ∧ 0 ≤ left - l.length - (((l.take k).map DFunc.s).sum : Int)) (fun k => l.length - k) 0 (by simp [SatL, tget, Heap.le_refl]; omega) ?_
    intro k ⟨hk, hb⟩
    rcases Nat.lt_or_ge k l.length with hlt | hge
    · have ea : l[k]? = some l[k] := List.getElem?_eq_getElem hlt
      simp -dsimp -implicitDefEqProofs only [go_sem, ↓reduceIte, keep105, ib105, mk105, Tryz.f105, ea, DFunc.c_eq]
      refine fun _ => ⟨fun _ => ⟨hlt, ?_⟩, fun hn => absurd hlt hn⟩
      have hx := hc l[k] (List.getElem_mem hlt) (left - l.length - (((l.take k).map DFunc.s).sum : Int)) (by omega) (by omega)
      simp only [DFunc.c_eq] at hx
      refine HFnF.mk hx ?_
      have hs := sum_take_succ DFunc.s l k hlt
      have hs' := sum_take_le DFunc.s l (k + 1)
      try dsimp only at hs
      rcases lft_cases (left - l.length - (((l.take k).map DFunc.s).sum : Int)) ((DFunc.s l[k])) with ⟨e, hl1⟩ | ⟨e, hl1⟩
      · simp -dsimp -implicitDefEqProofs only [go_sem, ↓reduceIte, keep105, ib105, mk105, Tryz.f105, e]
        exact (lft_neg (by rw [szs_eq]; omega)).symm
      · have hn1 : (left - l.length - (((l.take k).map DFunc.s).sum : Int) - ((DFunc.s l[k]) : Int) < 0) = False := eq_false (by omega)
        simp -dsimp -implicitDefEqProofs only [go_sem, ↓reduceIte, keep105, ib105, mk105, Tryz.f105, e, hn1]
        refine ⟨k + 1, ⟨?_, ?_⟩, ⟨by omega, by rw [hs]; omega⟩, by omega⟩
        · rw [hs]; omega
        · rw [IntWalk.i64_in _ (by omega)]; rfl
    · have hk' : k = l.length := by omega
      subst hk'
      simp -dsimp -implicitDefEqProofs only [go_sem, ↓reduceIte, keep105, ib105, mk105, Tryz.f105, Nat.lt_irrefl]
      refine fun _ => ?_
      rw [List.take_length] at hb ⊢
      rw [lft_pos (by rw [szs_eq]; omega), szs_eq]
      omega

def keep55 : List Nat := [0, 1, 2, 4, 10]
def ib55 : List Nat := [2]
def mk55 : Marks := fun _ => ([], .nil, [])
set_option maxRecDepth 100000 in
theorem sz_Program (x : DProgram) (left : Int) (h0 : 0 ≤ left) (h1 : left ≤ 1048576) : Fn0 Tryz.prog 55 [.agg x.c, I left] (I (lft left x.s)) := by
  rw [DProgram.s_eq]
  simp only [DProgram.c_eq]
  refine fn0F 12 keep55 ib55 mk55 mix Tryz.func55 rfl (by kernel_rfl) (by simp) fun h => ?_
  simp -dsimp -implicitDefEqProofs only [go_sem, Tryz.f55, ↓reduceIte, keep55, ib55, mk55]
  refine HFnF.mk (sz_FuncS x.fFuncs left (by omega) (by omega) (fun x _ left h0 h1 => sz_Func x left h0 h1)) ?_
  rcases lft_cases left (szs DFunc.s x.fFuncs) with ⟨e, hl1⟩ | ⟨e, hl1⟩
  · simp -dsimp -implicitDefEqProofs only [go_sem, ↓reduceIte, keep55, ib55, mk55, Tryz.f55, e]
  · have hn1 : (left - ((szs DFunc.s x.fFuncs) : Int) < 0) = False := eq_false (by omega)
    simp -dsimp -implicitDefEqProofs only [go_sem, ↓reduceIte, keep55, ib55, mk55, Tryz.f55, e, hn1]
  try (rw [lft_pos (by omega)]; omega)

def keep41 : List Nat := [0, 1, 4, 10]
def ib41 : List Nat := []
def mk41 : Marks := fun _ => ([], .nil, [])
set_option maxRecDepth 100000 in
theorem sz_Int64S (sz : Nat) (es : List (List HVal)) (tg : Bool) (left : Int) (h0 : 0 ≤ left) (h1 : left ≤ 1048576) : Fn0 Tryz.prog 41 [.sl sz es tg, I left] (I (lft left es.length)) := by
  refine fn0F 12 keep41 ib41 mk41 mix Tryz.func41 rfl (by kernel_rfl) (by simp) fun h => ?_
  simp -dsimp -implicitDefEqProofs only [go_sem, Tryz.f41, ↓reduceIte, keep41, ib41, mk41]
  intro hl
  rw [IntWalk.i64_in _ (by omega)]
  refine ⟨fun hn => ?_, fun hn => ?_⟩
  · exact (lft_neg hn).symm
  · exact (lft_pos (by omega)).symm

def keep56 : List Nat := [0, 1, 4, 5, 11, 15, 25]
def ib56 : List Nat := []
def mk56 : Marks := fun _ => ([], .nil, [])
set_option maxRecDepth 100000 in
theorem sz_Int64SS (l : List (List Int)) (left : Int) (h0 : 0 ≤ left) (h1 : left ≤ 1048576) (hc : ∀ x ∈ l, ∀ left : Int, 0 ≤ left → left ≤ 1048576 → Fn0 Tryz.prog 41 [(sls 1 (fun n => [I n]) x), I left] (I (lft left (x.length)))) : Fn0 Tryz.prog 56 [sls 1 (fun x => [sls 1 (fun n => [I n]) x]) l, I left] (I (lft left (szs (fun x : List Int => x.length) l))) := by
  refine fn0F 27 keep56 ib56 mk56 mix Tryz.func56 rfl (by kernel_rfl) (by simp) fun h => ?_
  simp -dsimp -implicitDefEqProofs only [go_sem, Tryz.f56, ↓reduceIte, keep56, ib56, mk56]
  intro hl
  rw [IntWalk.i64_in _ (by omega)]
  refine ⟨fun hn => ?_, fun hn => ?_⟩
  · exact (lft_neg (by rw [szs_eq]; omega)).symm
  · refine loopF (keep := keep56) (ib := ib56) (mk := mk56) mix (by kernel_rfl) (fun k : Nat => [(0, sls 1 (fun x => [sls 1 (fun n => [I n]) x]) l), (1, I (left - l.length - (((l.take k).map (fun x : List Int => x.length)).sum : Int))), (5, I k)]) (fun _ => h) (fun k => k ≤ l.length ∧ 0 ≤ left - l.length - (((l.take k).map (fun x : List Int => x.length)).sum : Int)) (fun k => l.length - k) 0 (by simp [SatL, tget, Heap.le_refl]; omega) ?_
    intro k ⟨hk, hb⟩
    rcases Nat.lt_or_ge k l.length with hlt | hge
    · have ea : l[k]? = some l[k] := List.getElem?_eq_getElem hlt
      simp -dsimp -implicitDefEqProofs only [go_sem, ↓reduceIte, keep56, ib56, mk56, Tryz.f56, ea]
      refine fun _ => ⟨fun _ => ⟨hlt, ?_⟩, fun hn => absurd hlt hn⟩
      have hx := hc l[k] (List.getElem_mem hlt) (left - l.length - (((l.take k).map (fun x : List Int => x.length)).sum : Int)) (by omega) (by omega)
      refine HFnF.mk hx ?_
      have hs := sum_take_succ (fun x : List Int => x.length) l k hlt
      have hs' := sum_take_le (fun x : List Int => x.length) l (k + 1)
      try dsimp only at hs
      rcases lft_cases (left - l.length - (((l.take k).map (fun x : List Int => x.length)).sum : Int)) (l[k].length) with ⟨e, hl1⟩ | ⟨e, hl1⟩
      · simp -dsimp -implicitDefEqProofs only [go_sem, ↓reduceIte, keep56, ib56, mk56, Tryz.f56, e]
        exact (lft_neg (by rw [szs_eq]; omega)).symm
      · have hn1 : (left - l.length - (((l.take k).map (fun x : List Int => x.length)).sum : Int) - (l[k].length : Int) < 0) = False := eq_false (by omega)
        simp -dsimp -implicitDefEqProofs only [go_sem, ↓reduceIte, keep56, ib56, mk56, Tryz.f56, e, hn1]
        refine ⟨k + 1, ⟨?_, ?_⟩, ⟨by omega, by rw [hs]; omega⟩, by omega⟩
        · rw [hs]; omega
        · rw [IntWalk.i64_in _ (by omega)]; rfl
    · have hk' : k = l.length := by omega
      subst hk'
      simp -dsimp -implicitDefEqProofs only [go_sem, ↓reduceIte, keep56, ib56, mk56, Tryz.f56, Nat.lt_irrefl]
      refine fun _ => ?_
      rw [List.take_length] at hb ⊢
      rw [lft_pos (by rw [szs_eq]; omega), szs_eq]
      omega

def keep18 : List Nat := [0, 1, 2, 4, 10, 16, 22]
def ib18 : List Nat := [2]
def mk18 : Marks := fun _ => ([], .nil, [])
set_option maxRecDepth 100000 in
theorem sz_Job (x : DJob) (left : Int) (h0 : 0 ≤ left) (h1 : left ≤ 1048576) : Fn0 Tryz.prog 18 [.agg x.c, I left] (I (lft left x.s)) := by
  rw [DJob.s_eq]
  simp only [DJob.c_eq]
  refine fn0F 24 keep18 ib18 mk18 mix Tryz.func18 rfl (by kernel_rfl) (by simp) fun h => ?_
  simp -dsimp -implicitDefEqProofs only [go_sem, Tryz.f18, ↓reduceIte, keep18, ib18, mk18]
  refine HFnF.mk (sz_Program x.fProgram (left) (by omega) (by omega)) ?_
  generalize hL0 : lft left (DProgram.s x.fProgram) = L0
  simp -dsimp -implicitDefEqProofs only [go_sem, ↓reduceIte, keep18, ib18, mk18, Tryz.f18]
  have hs0 := lft_step hL0
  refine ⟨fun hn => (lft_neg (by have := hs0.1 hn; omega)).symm, fun hn0 => ?_⟩
  have hp0 := hs0.2 hn0
  clear hs0 hL0
  refine HFnF.mk (sz_Int64S _ _ _ (L0) (by omega) (by omega)) ?_
  rw [List.length_map]
  generalize hL1 : lft (L0) x.fPoint.length = L1
  simp -dsimp -implicitDefEqProofs only [go_sem, ↓reduceIte, keep18, ib18, mk18, Tryz.f18]
  have hs1 := lft_step hL1
  refine ⟨fun hn => (lft_neg (by have := hs1.1 hn; omega)).symm, fun hn1 => ?_⟩
  have hp1 := hs1.2 hn1
  clear hs1 hL1
  refine HFnF.mk (sz_Int64SS x.fTerms (L1) (by omega) (by omega) (fun x _ left h0 h1 => (by have hq := sz_Int64S 1 (x.map (fun n => [I n])) false left h0 h1; rw [List.length_map] at hq; exact hq))) ?_
  generalize hL2 : lft (L1) (szs (fun x : List Int => x.length) x.fTerms) = L2
  simp -dsimp -implicitDefEqProofs only [go_sem, ↓reduceIte, keep18, ib18, mk18, Tryz.f18]
  have hs2 := lft_step hL2
  refine ⟨fun hn => (lft_neg (by have := hs2.1 hn; omega)).symm, fun hn2 => ?_⟩
  have hp2 := hs2.2 hn2
  clear hs2 hL2
  try (rw [lft_pos (by omega)]; omega)


open Go.Proofs
set_option linter.unusedVariables false
set_option linter.unusedSimpArgs false


def keep154 : List Nat := [0, 1, 4, 5, 10, 14, 26]
def ib154 : List Nat := []
def mk154 : Marks := fun id => match id with | 6 => ([], (.op 0 (.op 1 (.op 2 (.op 3 (.op 4 (.op 5 (.op 6 (.op 7 (.op 8 (.op 9 .nil)))))))))), []) | _ => ([], .nil, [])
set_option maxRecDepth 100000 in
theorem eq_ExprS (a b : List DExpr) (hc : ∀ x ∈ a, ∀ y, Fn0 Tryz.prog 165 [(.agg (DExpr.c x)), (.agg (DExpr.c y))] (.bool (decide (x = y)))) : Fn0 Tryz.prog 154 [(sls 5 DExpr.c a), (sls 5 DExpr.c b)] (.bool (decide (a = b))) := by
  refine fn0F 27 keep154 ib154 mk154 mix Tryz.func154 rfl (by kernel_rfl) (by simp) fun h => ?_
  simp -dsimp -implicitDefEqProofs only [go_sem, Tryz.f154, ↓reduceIte, keep154, ib154, mk154]
  refine fun _ _ => ⟨fun hne => ?_, fun heq => ?_⟩
  · exact (decide_eq_false fun e => hne (by rw [e])).symm
  · refine loopF (keep := keep154) (ib := ib154) (mk := mk154) mix (by kernel_rfl) (fun k : Nat => [(0, (sls 5 DExpr.c a)), (1, (sls 5 DExpr.c b)), (5, I k)]) (fun _ => h) (fun k => k ≤ a.length ∧ a.take k = b.take k) (fun k => a.length - k) 0 (by simp [SatL, tget, Heap.le_refl]) ?_
    intro k ⟨hk, hp⟩
    rcases Nat.lt_or_ge k a.length with hlt | hge
    · have hlb : k < b.length := by omega
      have ea : a[k]? = some a[k] := List.getElem?_eq_getElem hlt
      have eb : b[k]? = some b[k] := List.getElem?_eq_getElem hlb
      simp -dsimp -implicitDefEqProofs only [go_sem, ↓reduceIte, keep154, ib154, mk154, Tryz.f154, ea, eb, DExpr.c_eq]
      refine fun _ => ⟨fun _ => ⟨hlt, hlb, ?_⟩, fun hn => absurd hlt hn⟩
      have hx := hc a[k] (List.getElem_mem hlt) b[k]
      simp only [DExpr.c_eq] at hx
      refine CallSF.mk hx ?_
      by_cases he : a[k] = b[k]
      · have d := decide_eq_true he
        simp -dsimp -implicitDefEqProofs only [go_sem, ↓reduceIte, keep154, ib154, mk154, Tryz.f154, d]
        exact ⟨k + 1, by rw [IntWalk.i64_in _ (by omega)]; rfl, ⟨by omega, take_step hlt hlb hp he⟩, by omega⟩
      · have d := decide_eq_false he
        simp -dsimp -implicitDefEqProofs only [go_sem, ↓reduceIte, keep154, ib154, mk154, Tryz.f154, d]
        exact (decide_eq_false fun e => he (getElem_of_eq e hlt)).symm
    · have hk' : k = a.length := by omega
      subst hk'
      simp -dsimp -implicitDefEqProofs only [go_sem, ↓reduceIte, keep154, ib154, mk154, Tryz.f154, Nat.lt_irrefl]
      exact fun _ => (decide_eq_true (eq_of_take heq hp)).symm

def keep165 : List Nat := [0, 1, 2, 3, 4, 9, 14, 19, 24, 30]
def ib165 : List Nat := [2, 3]
def mk165 : Marks := fun _ => ([], .nil, [])
set_option maxRecDepth 100000 in
theorem eq_Expr_step (a b : DExpr) (hk : Fn0 Tryz.prog 154 [(sls 5 DExpr.c a.fKids), (sls 5 DExpr.c b.fKids)] (.bool (decide (a.fKids = b.fKids)))) : Fn0 Tryz.prog 165 [.agg a.c, .agg b.c] (.bool (decide (a = b))) := by
  simp only [DExpr.c_eq]
  refine fn0F 31 keep165 ib165 mk165 mix Tryz.func165 rfl (by kernel_rfl) (by simp) fun h => ?_
  simp -dsimp -implicitDefEqProofs only [go_sem, Tryz.f165, ↓reduceIte, keep165, ib165, mk165]
  refine ⟨fun hn => (decide_eq_false fun e => hn (by rw [e])).symm, fun efKind => ?_⟩
  refine ⟨fun hn => (decide_eq_false fun e => hn (by rw [e])).symm, fun efNum => ?_⟩
  refine ⟨fun hn => (decide_eq_false fun e => hn (by rw [e])).symm, fun efPick => ?_⟩
  refine ⟨fun hn => (decide_eq_false fun e => hn (by rw [e])).symm, fun efCount => ?_⟩
  refine HFnF.mk hk ?_
  by_cases efKids : a.fKids = b.fKids
  case neg =>
    have d := decide_eq_false efKids
    simp -dsimp -implicitDefEqProofs only [go_sem, ↓reduceIte, keep165, ib165, mk165, Tryz.f165, d]
    exact (decide_eq_false fun e => efKids (by rw [e])).symm
  have dfKids := decide_eq_true efKids
  simp -dsimp -implicitDefEqProofs only [go_sem, ↓reduceIte, keep165, ib165, mk165, Tryz.f165, dfKids]
  exact (decide_eq_true (DExpr.eq_iff.2 ⟨efKind, efNum, efPick, efCount, efKids⟩)).symm
theorem eq_Expr (a b : DExpr) : Fn0 Tryz.prog 165 [.agg a.c, .agg b.c] (.bool (decide (a = b))) :=
  eq_Expr_step a b (eq_ExprS a.fKids b.fKids fun x hx y => eq_Expr x y)
termination_by SizeOf.sizeOf a
decreasing_by exact DExpr.kid_lt hx

def keep138 : List Nat := [0, 1, 2, 3, 4, 9, 14, 20]
def ib138 : List Nat := [2, 3]
def mk138 : Marks := fun _ => ([], .nil, [])
set_option maxRecDepth 100000 in
theorem eq_Func (a b : DFunc) : Fn0 Tryz.prog 138 [.agg a.c, .agg b.c] (.bool (decide (a = b))) := by
  simp only [DFunc.c_eq]
  refine fn0F 21 keep138 ib138 mk138 mix Tryz.func138 rfl (by kernel_rfl) (by simp) fun h => ?_
  simp -dsimp -implicitDefEqProofs only [go_sem, Tryz.f138, ↓reduceIte, keep138, ib138, mk138]
  refine ⟨fun hn => (decide_eq_false fun e => hn (by rw [e])).symm, fun efName => ?_⟩
  refine ⟨fun hn => (decide_eq_false fun e => hn (by rw [e])).symm, fun efParams => ?_⟩
  refine HFnF.mk (eq_ExprS a.fOuts b.fOuts (fun x _ y => (eq_Expr x y))) ?_
  by_cases efOuts : a.fOuts = b.fOuts
  case neg =>
    have d := decide_eq_false efOuts
    simp -dsimp -implicitDefEqProofs only [go_sem, ↓reduceIte, keep138, ib138, mk138, Tryz.f138, d]
    exact (decide_eq_false fun e => efOuts (by rw [e])).symm
  have dfOuts := decide_eq_true efOuts
  simp -dsimp -implicitDefEqProofs only [go_sem, ↓reduceIte, keep138, ib138, mk138, Tryz.f138, dfOuts]
  exact (decide_eq_true (DFunc.eq_iff.2 ⟨efName, efParams, efOuts⟩)).symm

def keep115 : List Nat := [0, 1, 4, 5, 10, 14, 26]
def ib115 : List Nat := []
def mk115 : Marks := fun id => match id with | 6 => ([], (.op 0 (.op 1 (.op 2 (.op 3 (.op 4 (.op 5 (.op 6 (.op 7 (.op 8 (.op 9 .nil)))))))))), []) | _ => ([], .nil, [])
set_option maxRecDepth 100000 in
theorem eq_FuncS (a b : List DFunc) (hc : ∀ x ∈ a, ∀ y, Fn0 Tryz.prog 138 [(.agg (DFunc.c x)), (.agg (DFunc.c y))] (.bool (decide (x = y)))) : Fn0 Tryz.prog 115 [(sls 3 DFunc.c a), (sls 3 DFunc.c b)] (.bool (decide (a = b))) := by
  refine fn0F 27 keep115 ib115 mk115 mix Tryz.func115 rfl (by kernel_rfl) (by simp) fun h => ?_
  simp -dsimp -implicitDefEqProofs only [go_sem, Tryz.f115, ↓reduceIte, keep115, ib115, mk115]
  refine fun _ _ => ⟨fun hne => ?_, fun heq => ?_⟩
  · exact (decide_eq_false fun e => hne (by rw [e])).symm
  · refine loopF (keep := keep115) (ib := ib115) (mk := mk115) mix (by kernel_rfl) (fun k : Nat => [(0, (sls 3 DFunc.c a)), (1, (sls 3 DFunc.c b)), (5, I k)]) (fun _ => h) (fun k => k ≤ a.length ∧ a.take k = b.take k) (fun k => a.length - k) 0 (by simp [SatL, tget, Heap.le_refl]) ?_
    intro k ⟨hk, hp⟩
    rcases Nat.lt_or_ge k a.length with hlt | hge
    · have hlb : k < b.length := by omega
      have ea : a[k]? = some a[k] := List.getElem?_eq_getElem hlt
      have eb : b[k]? = some b[k] := List.getElem?_eq_getElem hlb
      simp -dsimp -implicitDefEqProofs only [go_sem, ↓reduceIte, keep115, ib115, mk115, Tryz.f115, ea, eb, DFunc.c_eq]
      refine fun _ => ⟨fun _ => ⟨hlt, hlb, ?_⟩, fun hn => absurd hlt hn⟩
      have hx := hc a[k] (List.getElem_mem hlt) b[k]
      simp only [DFunc.c_eq] at hx
      refine CallSF.mk hx ?_
      by_cases he : a[k] = b[k]
      · have d := decide_eq_true he
        simp -dsimp -implicitDefEqProofs only [go_sem, ↓reduceIte, keep115, ib115, mk115, Tryz.f115, d]
        exact ⟨k + 1, by rw [IntWalk.i64_in _ (by omega)]; rfl, ⟨by omega, take_step hlt hlb hp he⟩, by omega⟩
      · have d := decide_eq_false he
        simp -dsimp -implicitDefEqProofs only [go_sem, ↓reduceIte, keep115, ib115, mk115, Tryz.f115, d]
        exact (decide_eq_false fun e => he (getElem_of_eq e hlt)).symm
    · have hk' : k = a.length := by omega
      subst hk'
      simp -dsimp -implicitDefEqProofs only [go_sem, ↓reduceIte, keep115, ib115, mk115, Tryz.f115, Nat.lt_irrefl]
      exact fun _ => (decide_eq_true (eq_of_take heq hp)).symm

def keep69 : List Nat := [0, 1, 2, 3, 4, 10]
def ib69 : List Nat := [2, 3]
def mk69 : Marks := fun _ => ([], .nil, [])
set_option maxRecDepth 100000 in
theorem eq_Program (a b : DProgram) : Fn0 Tryz.prog 69 [.agg a.c, .agg b.c] (.bool (decide (a = b))) := by
  simp only [DProgram.c_eq]
  refine fn0F 11 keep69 ib69 mk69 mix Tryz.func69 rfl (by kernel_rfl) (by simp) fun h => ?_
  simp -dsimp -implicitDefEqProofs only [go_sem, Tryz.f69, ↓reduceIte, keep69, ib69, mk69]
  refine HFnF.mk (eq_FuncS a.fFuncs b.fFuncs (fun x _ y => (eq_Func x y))) ?_
  by_cases efFuncs : a.fFuncs = b.fFuncs
  case neg =>
    have d := decide_eq_false efFuncs
    simp -dsimp -implicitDefEqProofs only [go_sem, ↓reduceIte, keep69, ib69, mk69, Tryz.f69, d]
    exact (decide_eq_false fun e => efFuncs (by rw [e])).symm
  have dfFuncs := decide_eq_true efFuncs
  simp -dsimp -implicitDefEqProofs only [go_sem, ↓reduceIte, keep69, ib69, mk69, Tryz.f69, dfFuncs]
  exact (decide_eq_true (DProgram.eq_iff.2 efFuncs)).symm

def keep13 : List Nat := [0, 1, 4, 5, 10, 14, 25]
def ib13 : List Nat := []
def mk13 : Marks := fun id => match id with | 6 => ([], (.op 0 (.op 1 (.op 2 (.op 3 (.op 4 (.op 5 (.op 6 (.op 7 (.op 8 .nil))))))))), []) | _ => ([], .nil, [])
set_option maxRecDepth 100000 in
theorem eq_Int64S (a b : List Int) : Fn0 Tryz.prog 13 [(sls 1 (fun n => [I n]) a), (sls 1 (fun n => [I n]) b)] (.bool (decide (a = b))) := by
  refine fn0F 26 keep13 ib13 mk13 mix Tryz.func13 rfl (by kernel_rfl) (by simp) fun h => ?_
  simp -dsimp -implicitDefEqProofs only [go_sem, Tryz.f13, ↓reduceIte, keep13, ib13, mk13]
  refine fun _ _ => ⟨fun hne => ?_, fun heq => ?_⟩
  · exact (decide_eq_false fun e => hne (by rw [e])).symm
  · refine loopF (keep := keep13) (ib := ib13) (mk := mk13) mix (by kernel_rfl) (fun k : Nat => [(0, (sls 1 (fun n => [I n]) a)), (1, (sls 1 (fun n => [I n]) b)), (5, I k)]) (fun _ => h) (fun k => k ≤ a.length ∧ a.take k = b.take k) (fun k => a.length - k) 0 (by simp [SatL, tget, Heap.le_refl]) ?_
    intro k ⟨hk, hp⟩
    rcases Nat.lt_or_ge k a.length with hlt | hge
    · have hlb : k < b.length := by omega
      have ea : a[k]? = some a[k] := List.getElem?_eq_getElem hlt
      have eb : b[k]? = some b[k] := List.getElem?_eq_getElem hlb
      simp -dsimp -implicitDefEqProofs only [go_sem, ↓reduceIte, keep13, ib13, mk13, Tryz.f13, ea, eb]
      refine fun _ => ⟨fun _ => ⟨hlt, hlb, fun hne => ?_, fun he => ?_⟩, fun hn => absurd hlt hn⟩
      · first
          | exact (decide_eq_false fun e => hne (getElem_of_eq e hlt)).symm
          | exact (decide_eq_false fun e => by have := getElem_of_eq e hlt (hb := hlb); rw [this] at hne; simp at hne).symm
      · exact ⟨k + 1, by rw [IntWalk.i64_in _ (by omega)]; rfl, ⟨by omega, take_step hlt hlb hp (by first | exact he | simpa using he)⟩, by omega⟩
    · have hk' : k = a.length := by omega
      subst hk'
      simp -dsimp -implicitDefEqProofs only [go_sem, ↓reduceIte, keep13, ib13, mk13, Tryz.f13, Nat.lt_irrefl]
      exact fun _ => (decide_eq_true (eq_of_take heq hp)).symm

def keep70 : List Nat := [0, 1, 4, 5, 10, 14, 26]
def ib70 : List Nat := []
def mk70 : Marks := fun id => match id with | 6 => ([], (.op 0 (.op 1 (.op 2 (.op 3 (.op 4 (.op 5 (.op 6 (.op 7 (.op 8 (.op 9 .nil)))))))))), []) | _ => ([], .nil, [])
set_option maxRecDepth 100000 in
theorem eq_Int64SS (a b : List (List Int)) (hc : ∀ x ∈ a, ∀ y, Fn0 Tryz.prog 13 [(sls 1 (fun n => [I n]) x), (sls 1 (fun n => [I n]) y)] (.bool (decide (x = y)))) : Fn0 Tryz.prog 70 [(sls 1 (fun x => [sls 1 (fun n => [I n]) x]) a), (sls 1 (fun x => [sls 1 (fun n => [I n]) x]) b)] (.bool (decide (a = b))) := by
  refine fn0F 27 keep70 ib70 mk70 mix Tryz.func70 rfl (by kernel_rfl) (by simp) fun h => ?_
  simp -dsimp -implicitDefEqProofs only [go_sem, Tryz.f70, ↓reduceIte, keep70, ib70, mk70]
  refine fun _ _ => ⟨fun hne => ?_, fun heq => ?_⟩
  · exact (decide_eq_false fun e => hne (by rw [e])).symm
  · refine loopF (keep := keep70) (ib := ib70) (mk := mk70) mix (by kernel_rfl) (fun k : Nat => [(0, (sls 1 (fun x => [sls 1 (fun n => [I n]) x]) a)), (1, (sls 1 (fun x => [sls 1 (fun n => [I n]) x]) b)), (5, I k)]) (fun _ => h) (fun k => k ≤ a.length ∧ a.take k = b.take k) (fun k => a.length - k) 0 (by simp [SatL, tget, Heap.le_refl]) ?_
    intro k ⟨hk, hp⟩
    rcases Nat.lt_or_ge k a.length with hlt | hge
    · have hlb : k < b.length := by omega
      have ea : a[k]? = some a[k] := List.getElem?_eq_getElem hlt
      have eb : b[k]? = some b[k] := List.getElem?_eq_getElem hlb
      simp -dsimp -implicitDefEqProofs only [go_sem, ↓reduceIte, keep70, ib70, mk70, Tryz.f70, ea, eb]
      refine fun _ => ⟨fun _ => ⟨hlt, hlb, ?_⟩, fun hn => absurd hlt hn⟩
      have hx := hc a[k] (List.getElem_mem hlt) b[k]
      refine CallSF.mk hx ?_
      by_cases he : a[k] = b[k]
      · have d := decide_eq_true he
        simp -dsimp -implicitDefEqProofs only [go_sem, ↓reduceIte, keep70, ib70, mk70, Tryz.f70, d]
        exact ⟨k + 1, by rw [IntWalk.i64_in _ (by omega)]; rfl, ⟨by omega, take_step hlt hlb hp he⟩, by omega⟩
      · have d := decide_eq_false he
        simp -dsimp -implicitDefEqProofs only [go_sem, ↓reduceIte, keep70, ib70, mk70, Tryz.f70, d]
        exact (decide_eq_false fun e => he (getElem_of_eq e hlt)).symm
    · have hk' : k = a.length := by omega
      subst hk'
      simp -dsimp -implicitDefEqProofs only [go_sem, ↓reduceIte, keep70, ib70, mk70, Tryz.f70, Nat.lt_irrefl]
      exact fun _ => (decide_eq_true (eq_of_take heq hp)).symm

def keep23 : List Nat := [0, 1, 2, 3, 4, 10, 15, 20, 26, 32]
def ib23 : List Nat := [2, 3]
def mk23 : Marks := fun _ => ([], .nil, [])
set_option maxRecDepth 100000 in
theorem eq_Job (a b : DJob) : Fn0 Tryz.prog 23 [.agg a.c, .agg b.c] (.bool (decide (a = b))) := by
  simp only [DJob.c_eq]
  refine fn0F 33 keep23 ib23 mk23 mix Tryz.func23 rfl (by kernel_rfl) (by simp) fun h => ?_
  simp -dsimp -implicitDefEqProofs only [go_sem, Tryz.f23, ↓reduceIte, keep23, ib23, mk23]
  refine HFnF.mk (eq_Program a.fProgram b.fProgram) ?_
  by_cases efProgram : a.fProgram = b.fProgram
  case neg =>
    have d := decide_eq_false efProgram
    simp -dsimp -implicitDefEqProofs only [go_sem, ↓reduceIte, keep23, ib23, mk23, Tryz.f23, d]
    exact (decide_eq_false fun e => efProgram (by rw [e])).symm
  have dfProgram := decide_eq_true efProgram
  simp -dsimp -implicitDefEqProofs only [go_sem, ↓reduceIte, keep23, ib23, mk23, Tryz.f23, dfProgram]
  refine ⟨fun hn => (decide_eq_false fun e => hn (by rw [e])).symm, fun efFunc => ?_⟩
  refine ⟨fun hn => (decide_eq_false fun e => hn (by rw [e])).symm, fun efShared => ?_⟩
  refine HFnF.mk (eq_Int64S a.fPoint b.fPoint) ?_
  by_cases efPoint : a.fPoint = b.fPoint
  case neg =>
    have d := decide_eq_false efPoint
    simp -dsimp -implicitDefEqProofs only [go_sem, ↓reduceIte, keep23, ib23, mk23, Tryz.f23, d]
    exact (decide_eq_false fun e => efPoint (by rw [e])).symm
  have dfPoint := decide_eq_true efPoint
  simp -dsimp -implicitDefEqProofs only [go_sem, ↓reduceIte, keep23, ib23, mk23, Tryz.f23, dfPoint]
  refine HFnF.mk (eq_Int64SS a.fTerms b.fTerms (fun x _ y => (eq_Int64S x y))) ?_
  by_cases efTerms : a.fTerms = b.fTerms
  case neg =>
    have d := decide_eq_false efTerms
    simp -dsimp -implicitDefEqProofs only [go_sem, ↓reduceIte, keep23, ib23, mk23, Tryz.f23, d]
    exact (decide_eq_false fun e => efTerms (by rw [e])).symm
  have dfTerms := decide_eq_true efTerms
  simp -dsimp -implicitDefEqProofs only [go_sem, ↓reduceIte, keep23, ib23, mk23, Tryz.f23, dfTerms]
  exact (decide_eq_true (DJob.eq_iff.2 ⟨efProgram, efFunc, efShared, efPoint, efTerms⟩)).symm


def keep51 : List Nat := [0, 1, 4, 5, 10, 14, 25]
def ib51 : List Nat := []
def mk51 : Marks := fun id => match id with | 6 => ([], (.op 0 (.op 1 (.op 2 (.op 3 (.op 4 (.op 5 (.op 6 (.op 7 (.op 8 .nil))))))))), []) | _ => ([], .nil, [])
set_option maxRecDepth 100000 in
theorem eq_BoolS (a b : List Bool) : Fn0 Tryz.prog 51 [(sls 1 (fun b => [.bool b]) a), (sls 1 (fun b => [.bool b]) b)] (.bool (decide (a = b))) := by
  refine fn0F 26 keep51 ib51 mk51 mix Tryz.func51 rfl (by kernel_rfl) (by simp) fun h => ?_
  simp -dsimp -implicitDefEqProofs only [go_sem, Tryz.f51, ↓reduceIte, keep51, ib51, mk51]
  refine fun _ _ => ⟨fun hne => ?_, fun heq => ?_⟩
  · exact (decide_eq_false fun e => hne (by rw [e])).symm
  · refine loopF (keep := keep51) (ib := ib51) (mk := mk51) mix (by kernel_rfl) (fun k : Nat => [(0, (sls 1 (fun b => [.bool b]) a)), (1, (sls 1 (fun b => [.bool b]) b)), (5, I k)]) (fun _ => h) (fun k => k ≤ a.length ∧ a.take k = b.take k) (fun k => a.length - k) 0 (by simp [SatL, tget, Heap.le_refl]) ?_
    intro k ⟨hk, hp⟩
    rcases Nat.lt_or_ge k a.length with hlt | hge
    · have hlb : k < b.length := by omega
      have ea : a[k]? = some a[k] := List.getElem?_eq_getElem hlt
      have eb : b[k]? = some b[k] := List.getElem?_eq_getElem hlb
      simp -dsimp -implicitDefEqProofs only [go_sem, ↓reduceIte, keep51, ib51, mk51, Tryz.f51, ea, eb]
      refine fun _ => ⟨fun _ => ⟨hlt, hlb, fun hne => ?_, fun he => ?_⟩, fun hn => absurd hlt hn⟩
      · first
          | exact (decide_eq_false fun e => hne (getElem_of_eq e hlt)).symm
          | exact (decide_eq_false fun e => by have := getElem_of_eq e hlt (hb := hlb); rw [this] at hne; simp at hne).symm
      · exact ⟨k + 1, by rw [IntWalk.i64_in _ (by omega)]; rfl, ⟨by omega, take_step hlt hlb hp (by first | exact he | simpa using he)⟩, by omega⟩
    · have hk' : k = a.length := by omega
      subst hk'
      simp -dsimp -implicitDefEqProofs only [go_sem, ↓reduceIte, keep51, ib51, mk51, Tryz.f51, Nat.lt_irrefl]
      exact fun _ => (decide_eq_true (eq_of_take heq hp)).symm

def keep96 : List Nat := [0, 1, 2, 3, 4, 9, 14, 20]
def ib96 : List Nat := [2, 3]
def mk96 : Marks := fun _ => ([], .nil, [])
set_option maxRecDepth 100000 in
theorem eq_Part (a b : DPart) : Fn0 Tryz.prog 96 [.agg a.c, .agg b.c] (.bool (decide (a = b))) := by
  simp only [DPart.c_eq]
  refine fn0F 21 keep96 ib96 mk96 mix Tryz.func96 rfl (by kernel_rfl) (by simp) fun h => ?_
  simp -dsimp -implicitDefEqProofs only [go_sem, Tryz.f96, ↓reduceIte, keep96, ib96, mk96]
  refine ⟨fun hn => (decide_eq_false fun e => hn (by rw [e])).symm, fun efCode => ?_⟩
  refine ⟨fun hn => (decide_eq_false fun e => hn (by rw [e])).symm, fun efValue => ?_⟩
  refine HFnF.mk (eq_Int64S a.fGrad b.fGrad) ?_
  by_cases efGrad : a.fGrad = b.fGrad
  case neg =>
    have d := decide_eq_false efGrad
    simp -dsimp -implicitDefEqProofs only [go_sem, ↓reduceIte, keep96, ib96, mk96, Tryz.f96, d]
    exact (decide_eq_false fun e => efGrad (by rw [e])).symm
  have dfGrad := decide_eq_true efGrad
  simp -dsimp -implicitDefEqProofs only [go_sem, ↓reduceIte, keep96, ib96, mk96, Tryz.f96, dfGrad]
  exact (decide_eq_true (DPart.eq_iff.2 ⟨efCode, efValue, efGrad⟩)).symm

def keep52 : List Nat := [0, 1, 4, 5, 10, 14, 26]
def ib52 : List Nat := []
def mk52 : Marks := fun id => match id with | 6 => ([], (.op 0 (.op 1 (.op 2 (.op 3 (.op 4 (.op 5 (.op 6 (.op 7 (.op 8 (.op 9 .nil)))))))))), []) | _ => ([], .nil, [])
set_option maxRecDepth 100000 in
theorem eq_PartS (a b : List DPart) (hc : ∀ x ∈ a, ∀ y, Fn0 Tryz.prog 96 [(.agg (DPart.c x)), (.agg (DPart.c y))] (.bool (decide (x = y)))) : Fn0 Tryz.prog 52 [(sls 3 DPart.c a), (sls 3 DPart.c b)] (.bool (decide (a = b))) := by
  refine fn0F 27 keep52 ib52 mk52 mix Tryz.func52 rfl (by kernel_rfl) (by simp) fun h => ?_
  simp -dsimp -implicitDefEqProofs only [go_sem, Tryz.f52, ↓reduceIte, keep52, ib52, mk52]
  refine fun _ _ => ⟨fun hne => ?_, fun heq => ?_⟩
  · exact (decide_eq_false fun e => hne (by rw [e])).symm
  · refine loopF (keep := keep52) (ib := ib52) (mk := mk52) mix (by kernel_rfl) (fun k : Nat => [(0, (sls 3 DPart.c a)), (1, (sls 3 DPart.c b)), (5, I k)]) (fun _ => h) (fun k => k ≤ a.length ∧ a.take k = b.take k) (fun k => a.length - k) 0 (by simp [SatL, tget, Heap.le_refl]) ?_
    intro k ⟨hk, hp⟩
    rcases Nat.lt_or_ge k a.length with hlt | hge
    · have hlb : k < b.length := by omega
      have ea : a[k]? = some a[k] := List.getElem?_eq_getElem hlt
      have eb : b[k]? = some b[k] := List.getElem?_eq_getElem hlb
      simp -dsimp -implicitDefEqProofs only [go_sem, ↓reduceIte, keep52, ib52, mk52, Tryz.f52, ea, eb, DPart.c_eq]
      refine fun _ => ⟨fun _ => ⟨hlt, hlb, ?_⟩, fun hn => absurd hlt hn⟩
      have hx := hc a[k] (List.getElem_mem hlt) b[k]
      simp only [DPart.c_eq] at hx
      refine CallSF.mk hx ?_
      by_cases he : a[k] = b[k]
      · have d := decide_eq_true he
        simp -dsimp -implicitDefEqProofs only [go_sem, ↓reduceIte, keep52, ib52, mk52, Tryz.f52, d]
        exact ⟨k + 1, by rw [IntWalk.i64_in _ (by omega)]; rfl, ⟨by omega, take_step hlt hlb hp he⟩, by omega⟩
      · have d := decide_eq_false he
        simp -dsimp -implicitDefEqProofs only [go_sem, ↓reduceIte, keep52, ib52, mk52, Tryz.f52, d]
        exact (decide_eq_false fun e => he (getElem_of_eq e hlt)).symm
    · have hk' : k = a.length := by omega
      subst hk'
      simp -dsimp -implicitDefEqProofs only [go_sem, ↓reduceIte, keep52, ib52, mk52, Tryz.f52, Nat.lt_irrefl]
      exact fun _ => (decide_eq_true (eq_of_take heq hp)).symm

def keep14 : List Nat := [0, 1, 2, 3, 4, 10, 16, 22, 28, 34]
def ib14 : List Nat := [2, 3]
def mk14 : Marks := fun _ => ([], .nil, [])
set_option maxRecDepth 100000 in
theorem eq_Service (a b : DService) : Fn0 Tryz.prog 14 [.agg a.c, .agg b.c] (.bool (decide (a = b))) := by
  simp only [DService.c_eq]
  refine fn0F 35 keep14 ib14 mk14 mix Tryz.func14 rfl (by kernel_rfl) (by simp) fun h => ?_
  simp -dsimp -implicitDefEqProofs only [go_sem, Tryz.f14, ↓reduceIte, keep14, ib14, mk14]
  refine HFnF.mk (eq_Job a.fJob b.fJob) ?_
  by_cases efJob : a.fJob = b.fJob
  case neg =>
    have d := decide_eq_false efJob
    simp -dsimp -implicitDefEqProofs only [go_sem, ↓reduceIte, keep14, ib14, mk14, Tryz.f14, d]
    exact (decide_eq_false fun e => efJob (by rw [e])).symm
  have dfJob := decide_eq_true efJob
  simp -dsimp -implicitDefEqProofs only [go_sem, ↓reduceIte, keep14, ib14, mk14, Tryz.f14, dfJob]
  refine HFnF.mk (eq_Int64S a.fStamps b.fStamps) ?_
  by_cases efStamps : a.fStamps = b.fStamps
  case neg =>
    have d := decide_eq_false efStamps
    simp -dsimp -implicitDefEqProofs only [go_sem, ↓reduceIte, keep14, ib14, mk14, Tryz.f14, d]
    exact (decide_eq_false fun e => efStamps (by rw [e])).symm
  have dfStamps := decide_eq_true efStamps
  simp -dsimp -implicitDefEqProofs only [go_sem, ↓reduceIte, keep14, ib14, mk14, Tryz.f14, dfStamps]
  refine HFnF.mk (eq_BoolS a.fKnown b.fKnown) ?_
  by_cases efKnown : a.fKnown = b.fKnown
  case neg =>
    have d := decide_eq_false efKnown
    simp -dsimp -implicitDefEqProofs only [go_sem, ↓reduceIte, keep14, ib14, mk14, Tryz.f14, d]
    exact (decide_eq_false fun e => efKnown (by rw [e])).symm
  have dfKnown := decide_eq_true efKnown
  simp -dsimp -implicitDefEqProofs only [go_sem, ↓reduceIte, keep14, ib14, mk14, Tryz.f14, dfKnown]
  refine HFnF.mk (eq_PartS a.fParts b.fParts (fun x _ y => (eq_Part x y))) ?_
  by_cases efParts : a.fParts = b.fParts
  case neg =>
    have d := decide_eq_false efParts
    simp -dsimp -implicitDefEqProofs only [go_sem, ↓reduceIte, keep14, ib14, mk14, Tryz.f14, d]
    exact (decide_eq_false fun e => efParts (by rw [e])).symm
  have dfParts := decide_eq_true efParts
  simp -dsimp -implicitDefEqProofs only [go_sem, ↓reduceIte, keep14, ib14, mk14, Tryz.f14, dfParts]
  refine HFnF.mk (eq_Int64S a.fOwners b.fOwners) ?_
  by_cases efOwners : a.fOwners = b.fOwners
  case neg =>
    have d := decide_eq_false efOwners
    simp -dsimp -implicitDefEqProofs only [go_sem, ↓reduceIte, keep14, ib14, mk14, Tryz.f14, d]
    exact (decide_eq_false fun e => efOwners (by rw [e])).symm
  have dfOwners := decide_eq_true efOwners
  simp -dsimp -implicitDefEqProofs only [go_sem, ↓reduceIte, keep14, ib14, mk14, Tryz.f14, dfOwners]
  exact (decide_eq_true (DService.eq_iff.2 ⟨efJob, efStamps, efKnown, efParts, efOwners⟩)).symm

def keep39 : List Nat := [0, 1, 2, 3, 4, 9, 14, 20]
def ib39 : List Nat := [2, 3]
def mk39 : Marks := fun _ => ([], .nil, [])
set_option maxRecDepth 100000 in
theorem eq_Report (a b : DReport) : Fn0 Tryz.prog 39 [.agg a.c, .agg b.c] (.bool (decide (a = b))) := by
  simp only [DReport.c_eq]
  refine fn0F 21 keep39 ib39 mk39 mix Tryz.func39 rfl (by kernel_rfl) (by simp) fun h => ?_
  simp -dsimp -implicitDefEqProofs only [go_sem, Tryz.f39, ↓reduceIte, keep39, ib39, mk39]
  refine ⟨fun hn => (decide_eq_false fun e => hn (by rw [e])).symm, fun efTerm => ?_⟩
  refine ⟨fun hn => (decide_eq_false fun e => hn (by rw [e])).symm, fun efStamp => ?_⟩
  refine HFnF.mk (eq_Part a.fPart b.fPart) ?_
  by_cases efPart : a.fPart = b.fPart
  case neg =>
    have d := decide_eq_false efPart
    simp -dsimp -implicitDefEqProofs only [go_sem, ↓reduceIte, keep39, ib39, mk39, Tryz.f39, d]
    exact (decide_eq_false fun e => efPart (by rw [e])).symm
  have dfPart := decide_eq_true efPart
  simp -dsimp -implicitDefEqProofs only [go_sem, ↓reduceIte, keep39, ib39, mk39, Tryz.f39, dfPart]
  exact (decide_eq_true (DReport.eq_iff.2 ⟨efTerm, efStamp, efPart⟩)).symm

def keep68 : List Nat := [0, 1, 4, 5, 10, 14, 26]
def ib68 : List Nat := []
def mk68 : Marks := fun id => match id with | 6 => ([], (.op 0 (.op 1 (.op 2 (.op 3 (.op 4 (.op 5 (.op 6 (.op 7 (.op 8 (.op 9 .nil)))))))))), []) | _ => ([], .nil, [])
set_option maxRecDepth 100000 in
theorem eq_ReportS (a b : List DReport) (hc : ∀ x ∈ a, ∀ y, Fn0 Tryz.prog 39 [(.agg (DReport.c x)), (.agg (DReport.c y))] (.bool (decide (x = y)))) : Fn0 Tryz.prog 68 [(sls 5 DReport.c a), (sls 5 DReport.c b)] (.bool (decide (a = b))) := by
  refine fn0F 27 keep68 ib68 mk68 mix Tryz.func68 rfl (by kernel_rfl) (by simp) fun h => ?_
  simp -dsimp -implicitDefEqProofs only [go_sem, Tryz.f68, ↓reduceIte, keep68, ib68, mk68]
  refine fun _ _ => ⟨fun hne => ?_, fun heq => ?_⟩
  · exact (decide_eq_false fun e => hne (by rw [e])).symm
  · refine loopF (keep := keep68) (ib := ib68) (mk := mk68) mix (by kernel_rfl) (fun k : Nat => [(0, (sls 5 DReport.c a)), (1, (sls 5 DReport.c b)), (5, I k)]) (fun _ => h) (fun k => k ≤ a.length ∧ a.take k = b.take k) (fun k => a.length - k) 0 (by simp [SatL, tget, Heap.le_refl]) ?_
    intro k ⟨hk, hp⟩
    rcases Nat.lt_or_ge k a.length with hlt | hge
    · have hlb : k < b.length := by omega
      have ea : a[k]? = some a[k] := List.getElem?_eq_getElem hlt
      have eb : b[k]? = some b[k] := List.getElem?_eq_getElem hlb
      simp -dsimp -implicitDefEqProofs only [go_sem, ↓reduceIte, keep68, ib68, mk68, Tryz.f68, ea, eb, DReport.c_eq]
      refine fun _ => ⟨fun _ => ⟨hlt, hlb, ?_⟩, fun hn => absurd hlt hn⟩
      have hx := hc a[k] (List.getElem_mem hlt) b[k]
      simp only [DReport.c_eq] at hx
      refine CallSF.mk hx ?_
      by_cases he : a[k] = b[k]
      · have d := decide_eq_true he
        simp -dsimp -implicitDefEqProofs only [go_sem, ↓reduceIte, keep68, ib68, mk68, Tryz.f68, d]
        exact ⟨k + 1, by rw [IntWalk.i64_in _ (by omega)]; rfl, ⟨by omega, take_step hlt hlb hp he⟩, by omega⟩
      · have d := decide_eq_false he
        simp -dsimp -implicitDefEqProofs only [go_sem, ↓reduceIte, keep68, ib68, mk68, Tryz.f68, d]
        exact (decide_eq_false fun e => he (getElem_of_eq e hlt)).symm
    · have hk' : k = a.length := by omega
      subst hk'
      simp -dsimp -implicitDefEqProofs only [go_sem, ↓reduceIte, keep68, ib68, mk68, Tryz.f68, Nat.lt_irrefl]
      exact fun _ => (decide_eq_true (eq_of_take heq hp)).symm

def keep67 : List Nat := [0, 1, 4, 5, 10, 14, 26]
def ib67 : List Nat := []
def mk67 : Marks := fun id => match id with | 6 => ([], (.op 0 (.op 1 (.op 2 (.op 3 (.op 4 (.op 5 (.op 6 (.op 7 (.op 8 (.op 9 .nil)))))))))), []) | _ => ([], .nil, [])
set_option maxRecDepth 100000 in
theorem eq_ReportSS (a b : List (List DReport)) (hc : ∀ x ∈ a, ∀ y, Fn0 Tryz.prog 68 [(sls 5 DReport.c x), (sls 5 DReport.c y)] (.bool (decide (x = y)))) : Fn0 Tryz.prog 67 [(sls 1 (fun x => [sls 5 DReport.c x]) a), (sls 1 (fun x => [sls 5 DReport.c x]) b)] (.bool (decide (a = b))) := by
  refine fn0F 27 keep67 ib67 mk67 mix Tryz.func67 rfl (by kernel_rfl) (by simp) fun h => ?_
  simp -dsimp -implicitDefEqProofs only [go_sem, Tryz.f67, ↓reduceIte, keep67, ib67, mk67]
  refine fun _ _ => ⟨fun hne => ?_, fun heq => ?_⟩
  · exact (decide_eq_false fun e => hne (by rw [e])).symm
  · refine loopF (keep := keep67) (ib := ib67) (mk := mk67) mix (by kernel_rfl) (fun k : Nat => [(0, (sls 1 (fun x => [sls 5 DReport.c x]) a)), (1, (sls 1 (fun x => [sls 5 DReport.c x]) b)), (5, I k)]) (fun _ => h) (fun k => k ≤ a.length ∧ a.take k = b.take k) (fun k => a.length - k) 0 (by simp [SatL, tget, Heap.le_refl]) ?_
    intro k ⟨hk, hp⟩
    rcases Nat.lt_or_ge k a.length with hlt | hge
    · have hlb : k < b.length := by omega
      have ea : a[k]? = some a[k] := List.getElem?_eq_getElem hlt
      have eb : b[k]? = some b[k] := List.getElem?_eq_getElem hlb
      simp -dsimp -implicitDefEqProofs only [go_sem, ↓reduceIte, keep67, ib67, mk67, Tryz.f67, ea, eb]
      refine fun _ => ⟨fun _ => ⟨hlt, hlb, ?_⟩, fun hn => absurd hlt hn⟩
      have hx := hc a[k] (List.getElem_mem hlt) b[k]
      refine CallSF.mk hx ?_
      by_cases he : a[k] = b[k]
      · have d := decide_eq_true he
        simp -dsimp -implicitDefEqProofs only [go_sem, ↓reduceIte, keep67, ib67, mk67, Tryz.f67, d]
        exact ⟨k + 1, by rw [IntWalk.i64_in _ (by omega)]; rfl, ⟨by omega, take_step hlt hlb hp he⟩, by omega⟩
      · have d := decide_eq_false he
        simp -dsimp -implicitDefEqProofs only [go_sem, ↓reduceIte, keep67, ib67, mk67, Tryz.f67, d]
        exact (decide_eq_false fun e => he (getElem_of_eq e hlt)).symm
    · have hk' : k = a.length := by omega
      subst hk'
      simp -dsimp -implicitDefEqProofs only [go_sem, ↓reduceIte, keep67, ib67, mk67, Tryz.f67, Nat.lt_irrefl]
      exact fun _ => (decide_eq_true (eq_of_take heq hp)).symm

def keep22 : List Nat := [0, 1, 2, 3, 4, 10, 16, 21, 26, 32, 38]
def ib22 : List Nat := [2, 3]
def mk22 : Marks := fun _ => ([], .nil, [])
set_option maxRecDepth 100000 in
theorem eq_Net (a b : DNet) : Fn0 Tryz.prog 22 [.agg a.c, .agg b.c] (.bool (decide (a = b))) := by
  simp only [DNet.c_eq]
  refine fn0F 39 keep22 ib22 mk22 mix Tryz.func22 rfl (by kernel_rfl) (by simp) fun h => ?_
  simp -dsimp -implicitDefEqProofs only [go_sem, Tryz.f22, ↓reduceIte, keep22, ib22, mk22]
  refine HFnF.mk (eq_Job a.fStart b.fStart) ?_
  by_cases efStart : a.fStart = b.fStart
  case neg =>
    have d := decide_eq_false efStart
    simp -dsimp -implicitDefEqProofs only [go_sem, ↓reduceIte, keep22, ib22, mk22, Tryz.f22, d]
    exact (decide_eq_false fun e => efStart (by rw [e])).symm
  have dfStart := decide_eq_true efStart
  simp -dsimp -implicitDefEqProofs only [go_sem, ↓reduceIte, keep22, ib22, mk22, Tryz.f22, dfStart]
  refine HFnF.mk (eq_Service a.fService b.fService) ?_
  by_cases efService : a.fService = b.fService
  case neg =>
    have d := decide_eq_false efService
    simp -dsimp -implicitDefEqProofs only [go_sem, ↓reduceIte, keep22, ib22, mk22, Tryz.f22, d]
    exact (decide_eq_false fun e => efService (by rw [e])).symm
  have dfService := decide_eq_true efService
  simp -dsimp -implicitDefEqProofs only [go_sem, ↓reduceIte, keep22, ib22, mk22, Tryz.f22, dfService]
  refine ⟨fun hn => (decide_eq_false fun e => hn (by rw [e])).symm, fun efJournal => ?_⟩
  refine ⟨fun hn => (decide_eq_false fun e => hn (by rw [e])).symm, fun efSafe => ?_⟩
  refine HFnF.mk (eq_ReportSS a.fQueues b.fQueues (fun x _ y => (eq_ReportS x y (fun x _ y => (eq_Report x y))))) ?_
  by_cases efQueues : a.fQueues = b.fQueues
  case neg =>
    have d := decide_eq_false efQueues
    simp -dsimp -implicitDefEqProofs only [go_sem, ↓reduceIte, keep22, ib22, mk22, Tryz.f22, d]
    exact (decide_eq_false fun e => efQueues (by rw [e])).symm
  have dfQueues := decide_eq_true efQueues
  simp -dsimp -implicitDefEqProofs only [go_sem, ↓reduceIte, keep22, ib22, mk22, Tryz.f22, dfQueues]
  refine HFnF.mk (eq_ReportS a.fFlying b.fFlying (fun x _ y => (eq_Report x y))) ?_
  by_cases efFlying : a.fFlying = b.fFlying
  case neg =>
    have d := decide_eq_false efFlying
    simp -dsimp -implicitDefEqProofs only [go_sem, ↓reduceIte, keep22, ib22, mk22, Tryz.f22, d]
    exact (decide_eq_false fun e => efFlying (by rw [e])).symm
  have dfFlying := decide_eq_true efFlying
  simp -dsimp -implicitDefEqProofs only [go_sem, ↓reduceIte, keep22, ib22, mk22, Tryz.f22, dfFlying]
  exact (decide_eq_true (DNet.eq_iff.2 ⟨efStart, efService, efJournal, efSafe, efQueues, efFlying⟩)).symm

open Go.Proofs
set_option linter.unusedVariables false
set_option linter.unusedSimpArgs false
def keep4 : List Nat := [0, 1, 2, 4, 5, 6, 7, 8, 9, 10, 11, 12, 13, 14, 15, 20, 44, 49, 65, 73, 76, 92, 97, 100]
def ib4 : List Nat := [2]
def mk4 : Marks := fun id => match id with | 10 => ([0, 2, 3], (.op 1 (.op 0 (.op 2 (.op 3 (.op 4 .nil))))), [(0, 2)]) | _ => ([], .nil, [])
set_option maxRecDepth 100000 in
set_option maxHeartbeats 4000000 in
theorem law_FnExactNewNet (a : DJob) (w : Int) (h : Heap) : HFn Tryz.prog 4 [.agg a.c, (.int .i64 w)] h fun r _ => r = .bool true := by
  simp only [DJob.c_eq, DNet.c_eq]
  refine fnHF 101 keep4 ib4 mk4 mix Tryz.func4 rfl (by kernel_rfl) (by simp) ?_
  simp (maxSteps := 1000000) -dsimp -implicitDefEqProofs only [go_sem, ↓reduceIte, keep4, ib4, mk4, Tryz.f4, Bool.true_or, Bool.or_true, Bool.false_or, Bool.or_false, protF, eq_self, decide_true, Bool.not_true, bne_self_eq_false, upd_upd, upd_get, OV.map_val, OV.map_val_nil, OV.val_v, DJob.c_eq, DNet.c_eq]
  refine HFnF.mk (sz_Job a 1048576 (by omega) (by omega)) ?_
  generalize hL0 : lft 1048576 (DJob.s a) = L0
  have hs0 := lft_step hL0
  simp (maxSteps := 1000000) -dsimp -implicitDefEqProofs only [go_sem, ↓reduceIte, keep4, ib4, mk4, Tryz.f4, Bool.true_or, Bool.or_true, Bool.false_or, Bool.or_false, protF, eq_self, decide_true, Bool.not_true, bne_self_eq_false, upd_upd, upd_get, OV.map_val, OV.map_val_nil, OV.val_v, DJob.c_eq, DNet.c_eq]
  repeat' (with_reducible first | intro _ | refine And.intro ?_ ?_)
  all_goals try (first | exact ⟨_, Heap.le_refl _, rfl⟩ | exact ⟨_, Heap.le_refl _⟩)
  all_goals try omega
  have hn0 := hs0.2 (by omega)
  clear hs0 hL0
  have hz_a : (DJob.s a) ≤ 1048576 := by omega
  have hseal := QA.fn0W (NewNet a w (by omega)) (fun e he => DNet.o_dat he) (wrap_tup [] [I (netRes a w).2])
  first | refine HFnF.mk (to_Job a hz_a) ?_ | refine CallSF.mk (to_Job a hz_a) ?_
  simp (maxSteps := 1000000) -dsimp -implicitDefEqProofs only [go_sem, ↓reduceIte, keep4, ib4, mk4, Tryz.f4, Bool.true_or, Bool.or_true, Bool.false_or, Bool.or_false, protF, eq_self, decide_true, Bool.not_true, bne_self_eq_false, upd_upd, upd_get, OV.map_val, OV.map_val_nil, OV.val_v, DJob.c_eq, DNet.c_eq]
  repeat' (with_reducible first | intro _ | refine And.intro ?_ ?_)
  all_goals try trivial
  first | refine HFnF.mk (QA.fn0W (specNewNet a w (by omega)) (fun e he => DNet.o_dat he) (wrap_tup [] [I (netRes a w).2])) ?_ | refine CallSF.mk (QA.fn0W (specNewNet a w (by omega)) (fun e he => DNet.o_dat he) (wrap_tup [] [I (netRes a w).2])) ?_
  simp (maxSteps := 1000000) -dsimp -implicitDefEqProofs only [go_sem, ↓reduceIte, keep4, ib4, mk4, Tryz.f4, Bool.true_or, Bool.or_true, Bool.false_or, Bool.or_false, protF, eq_self, decide_true, Bool.not_true, bne_self_eq_false, upd_upd, upd_get, OV.map_val, OV.map_val_nil, OV.val_v, DJob.c_eq, DNet.c_eq]
  intro nw0 qnw0
  have z0_nw0 := qnw0
  clear qnw0
  try simp (maxSteps := 1000000) -dsimp -implicitDefEqProofs only [go_sem, ↓reduceIte, keep4, ib4, mk4, Tryz.f4, Bool.true_or, Bool.or_true, Bool.false_or, Bool.or_false, protF, eq_self, decide_true, Bool.not_true, bne_self_eq_false, upd_upd, upd_get, OV.map_val, OV.map_val_nil, OV.val_v, DJob.c_eq, DNet.c_eq]
  refine HFnF.wn1 (toO_Job a hz_a) z0_nw0 ?_
  rintro r l1 g1 ⟨e0_, oe0, rfl, rfl⟩ w1 z1_nw0
  have oo0 := oe0
  obtain ⟨ya0_0, ya0_3, ya0_4, rfl, oa0_0, oa0_3, oa0_4⟩ := oo0
  have H0x_1 : Owns g1 (OV.rowsRow [ya0_0, .v (.int .i64 a.fFunc), .v (.int .i64 a.fShared), ya0_3, ya0_4]) := w1.owns
  simp (maxSteps := 1000000) -dsimp -implicitDefEqProofs only [go_sem, ↓reduceIte, keep4, ib4, mk4, Tryz.f4, Bool.true_or, Bool.or_true, Bool.false_or, Bool.or_false, protF, eq_self, decide_true, Bool.not_true, bne_self_eq_false, upd_upd, upd_get, OV.map_val, OV.map_val_nil, OV.val_v, DJob.c_eq, DNet.c_eq, oa0_0.flat, oa0_0.one, oa0_3.flat, oa0_3.one, oa0_4.flat, oa0_4.one]
  intro nx0 qnx0
  have dnx0_nw0 : nx0 ≠ nw0 := fun e => by
    first
      | exact qnx0.1 e
      | (rw [if_pos e] at qnx0; cases qnx0)
  have enx0_nw0 : (nx0 = nw0) = False := eq_false dnx0_nw0
  have fnx0_nw0 : (nw0 = nx0) = False := eq_false (fun e => dnx0_nw0 e.symm)
  first
    | (rw [if_neg dnx0_nw0] at qnx0)
    | (replace qnx0 := qnx0.2)
  have z1_nx0 := qnx0
  clear qnx0
  try simp (maxSteps := 1000000) -dsimp -implicitDefEqProofs only [go_sem, ↓reduceIte, keep4, ib4, mk4, Tryz.f4, Bool.true_or, Bool.or_true, Bool.false_or, Bool.or_false, protF, eq_self, decide_true, Bool.not_true, bne_self_eq_false, upd_upd, upd_get, OV.map_val, OV.map_val_nil, OV.val_v, DJob.c_eq, DNet.c_eq, enx0_nw0, fnx0_nw0, oa0_0.flat, oa0_0.one, oa0_3.flat, oa0_3.one, oa0_4.flat, oa0_4.one]
  refine HFnF.wl2 (NewNet a w (by omega)) (ViewL.cons (View.aggD [ya0_0, .v (.int .i64 a.fFunc), .v (.int .i64 a.fShared), ya0_3, ya0_4] (DJob.o_dat oe0) (Owns.up2 z1_nw0 ⟨dnx0_nw0, z1_nx0⟩ H0x_1)) (ViewL.cons (View.same _ _) ViewL.nil)) (QA.solid (fun e he => DNet.o_sol _ e he) (fun x hx => by simp [HVal.solid, HVal.solidL, hx])) z1_nw0 ⟨dnx0_nw0, z1_nx0⟩ ?_
  rintro r l2 g2 ⟨eg_, oeg, rfl, rfl⟩ w2 z2_nw0 z2_nx0
  have oog := oeg
  obtain ⟨yg_0, yg_3, yg_4, yg_5, yg_8, yg_9, yg_10, yg_11, yg_12, yg_13, yg_16, yg_17, rfl, og_0, og_3, og_4, og_5, og_8, og_9, og_10, og_11, og_12, og_13, og_16, og_17⟩ := oog
  have H0x_2 : Owns g2 (OV.rowsRow [ya0_0, .v (.int .i64 a.fFunc), .v (.int .i64 a.fShared), ya0_3, ya0_4]) := fun p hp => w2.keep (H0x_1 p hp)
  have Hg_2 : Owns g2 (OV.rowsRow [yg_0, .v (.int .i64 (netRes a w).1.fStart.fFunc), .v (.int .i64 (netRes a w).1.fStart.fShared), yg_3, yg_4, yg_5, .v (.int .i64 (netRes a w).1.fService.fJob.fFunc), .v (.int .i64 (netRes a w).1.fService.fJob.fShared), yg_8, yg_9, yg_10, yg_11, yg_12, yg_13, .v (.str (netRes a w).1.fJournal), .v (.int .i64 (netRes a w).1.fSafe), yg_16, yg_17]) := w2.owns
  have apH0x : ∀ m ∈ namesOf (OV.rowsRow [ya0_0, .v (.int .i64 a.fFunc), .v (.int .i64 a.fShared), ya0_3, ya0_4]), m ∉ namesOf (OV.rowsRow [yg_0, .v (.int .i64 (netRes a w).1.fStart.fFunc), .v (.int .i64 (netRes a w).1.fStart.fShared), yg_3, yg_4, yg_5, .v (.int .i64 (netRes a w).1.fService.fJob.fFunc), .v (.int .i64 (netRes a w).1.fService.fJob.fShared), yg_8, yg_9, yg_10, yg_11, yg_12, yg_13, .v (.str (netRes a w).1.fJournal), .v (.int .i64 (netRes a w).1.fSafe), yg_16, yg_17]) := fun m hm hq => by
    obtain ⟨x, hx⟩ := mem_namesOf.1 hm
    have h1 := w2.fresh m hq
    have h2 := H0x_1 (m, x) hx
    rw [h1] at h2; cases h2
  have nd0 := w1.nodup
  have ndg := w2.nodup
  simp (maxSteps := 1000000) -dsimp -implicitDefEqProofs only [go_sem, ↓reduceIte, keep4, ib4, mk4, Tryz.f4, Bool.true_or, Bool.or_true, Bool.false_or, Bool.or_false, protF, eq_self, decide_true, Bool.not_true, bne_self_eq_false, upd_upd, upd_get, OV.map_val, OV.map_val_nil, OV.val_v, DJob.c_eq, DNet.c_eq, enx0_nw0, fnx0_nw0, oa0_0.flat, oa0_0.one, oa0_3.flat, oa0_3.one, oa0_4.flat, oa0_4.one, og_0.flat, og_0.one, og_3.flat, og_3.one, og_4.flat, og_4.one, og_5.flat, og_5.one, og_8.flat, og_8.one, og_9.flat, og_9.one, og_10.flat, og_10.one, og_11.flat, og_11.one, og_12.flat, og_12.one, og_13.flat, og_13.one, og_16.flat, og_16.one, og_17.flat, og_17.one]
  intro ng qng
  have dng_nx0 : ng ≠ nx0 := fun e => by
    first
      | exact qng.1 e
      | (rw [if_pos e] at qng; cases qng)
  have eng_nx0 : (ng = nx0) = False := eq_false dng_nx0
  have fng_nx0 : (nx0 = ng) = False := eq_false (fun e => dng_nx0 e.symm)
  first
    | (rw [if_neg dng_nx0] at qng)
    | (replace qng := qng.2)
  have dng_nw0 : ng ≠ nw0 := fun e => by
    first
      | exact qng.1 e
      | (rw [if_pos e] at qng; cases qng)
  have eng_nw0 : (ng = nw0) = False := eq_false dng_nw0
  have fng_nw0 : (nw0 = ng) = False := eq_false (fun e => dng_nw0 e.symm)
  first
    | (rw [if_neg dng_nw0] at qng)
    | (replace qng := qng.2)
  have z2_ng := qng
  clear qng
  try simp (maxSteps := 1000000) -dsimp -implicitDefEqProofs only [go_sem, ↓reduceIte, keep4, ib4, mk4, Tryz.f4, Bool.true_or, Bool.or_true, Bool.false_or, Bool.or_false, protF, eq_self, decide_true, Bool.not_true, bne_self_eq_false, upd_upd, upd_get, OV.map_val, OV.map_val_nil, OV.val_v, DJob.c_eq, DNet.c_eq, enx0_nw0, fnx0_nw0, eng_nx0, fng_nx0, eng_nw0, fng_nw0, oa0_0.flat, oa0_0.one, oa0_3.flat, oa0_3.one, oa0_4.flat, oa0_4.one, og_0.flat, og_0.one, og_3.flat, og_3.one, og_4.flat, og_4.one, og_5.flat, og_5.one, og_8.flat, og_8.one, og_9.flat, og_9.one, og_10.flat, og_10.one, og_11.flat, og_11.one, og_12.flat, og_12.one, og_13.flat, og_13.one, og_16.flat, og_16.one, og_17.flat, og_17.one]
  refine HFnF.lend0 (eq_Net (netRes a w).1 (netRes a w).1) (ViewL.cons (View.aggD [yg_0, .v (.int .i64 (netRes a w).1.fStart.fFunc), .v (.int .i64 (netRes a w).1.fStart.fShared), yg_3, yg_4, yg_5, .v (.int .i64 (netRes a w).1.fService.fJob.fFunc), .v (.int .i64 (netRes a w).1.fService.fJob.fShared), yg_8, yg_9, yg_10, yg_11, yg_12, yg_13, .v (.str (netRes a w).1.fJournal), .v (.int .i64 (netRes a w).1.fSafe), yg_16, yg_17] (DNet.o_dat oeg) (Owns.up3 z2_nw0 ⟨dnx0_nw0, z2_nx0⟩ ⟨dng_nx0, dng_nw0, z2_ng⟩ Hg_2)) (ViewL.cons (by first | exact View.same _ _ | (simp only [DJob.c_eq, DNet.c_eq]; exact View.same _ _)) ViewL.nil)) rfl ?_
  simp (maxSteps := 1000000) -dsimp -implicitDefEqProofs only [go_sem, ↓reduceIte, keep4, ib4, mk4, Tryz.f4, Bool.true_or, Bool.or_true, Bool.false_or, Bool.or_false, protF, eq_self, decide_true, Bool.not_true, bne_self_eq_false, upd_upd, upd_get, OV.map_val, OV.map_val_nil, OV.val_v, DJob.c_eq, DNet.c_eq, enx0_nw0, fnx0_nw0, eng_nx0, fng_nx0, eng_nw0, fng_nw0, oa0_0.flat, oa0_0.one, oa0_3.flat, oa0_3.one, oa0_4.flat, oa0_4.one, og_0.flat, og_0.one, og_3.flat, og_3.one, og_4.flat, og_4.one, og_5.flat, og_5.one, og_8.flat, og_8.one, og_9.flat, og_9.one, og_10.flat, og_10.one, og_11.flat, og_11.one, og_12.flat, og_12.one, og_13.flat, og_13.one, og_16.flat, og_16.one, og_17.flat, og_17.one]
  repeat' (with_reducible first | intro _ | refine And.intro ?_ ?_)
  all_goals try (first | exact ⟨_, Heap.le_refl _, rfl⟩ | exact ⟨_, Heap.le_refl _⟩)
  all_goals try omega
  refine HFnF.mk (to_Job a hz_a) ?_
  simp (maxSteps := 1000000) -dsimp -implicitDefEqProofs only [go_sem, ↓reduceIte, keep4, ib4, mk4, Tryz.f4, Bool.true_or, Bool.or_true, Bool.false_or, Bool.or_false, protF, eq_self, decide_true, Bool.not_true, bne_self_eq_false, upd_upd, upd_get, OV.map_val, OV.map_val_nil, OV.val_v, DJob.c_eq, DNet.c_eq, enx0_nw0, fnx0_nw0, eng_nx0, fng_nx0, eng_nw0, fng_nw0, oa0_0.flat, oa0_0.one, oa0_3.flat, oa0_3.one, oa0_4.flat, oa0_4.one, og_0.flat, og_0.one, og_3.flat, og_3.one, og_4.flat, og_4.one, og_5.flat, og_5.one, og_8.flat, og_8.one, og_9.flat, og_9.one, og_10.flat, og_10.one, og_11.flat, og_11.one, og_12.flat, og_12.one, og_13.flat, og_13.one, og_16.flat, og_16.one, og_17.flat, og_17.one]
  repeat' (with_reducible first | intro _ | refine And.intro ?_ ?_)
  all_goals try trivial
  refine HFnF.lend0 (eq_Job a a) (ViewL.cons (View.aggD [ya0_0, .v (.int .i64 a.fFunc), .v (.int .i64 a.fShared), ya0_3, ya0_4] (DJob.o_dat oe0) (Owns.up3 z2_nw0 ⟨dnx0_nw0, z2_nx0⟩ ⟨dng_nx0, dng_nw0, z2_ng⟩ H0x_2)) (ViewL.cons (by first | exact View.same _ _ | (simp only [DJob.c_eq, DNet.c_eq]; exact View.same _ _)) ViewL.nil)) rfl ?_
  simp (maxSteps := 1000000) -dsimp -implicitDefEqProofs only [go_sem, ↓reduceIte, keep4, ib4, mk4, Tryz.f4, Bool.true_or, Bool.or_true, Bool.false_or, Bool.or_false, protF, eq_self, decide_true, Bool.not_true, bne_self_eq_false, upd_upd, upd_get, OV.map_val, OV.map_val_nil, OV.val_v, DJob.c_eq, DNet.c_eq, enx0_nw0, fnx0_nw0, eng_nx0, fng_nx0, eng_nw0, fng_nw0, oa0_0.flat, oa0_0.one, oa0_3.flat, oa0_3.one, oa0_4.flat, oa0_4.one, og_0.flat, og_0.one, og_3.flat, og_3.one, og_4.flat, og_4.one, og_5.flat, og_5.one, og_8.flat, og_8.one, og_9.flat, og_9.one, og_10.flat, og_10.one, og_11.flat, og_11.one, og_12.flat, og_12.one, og_13.flat, og_13.one, og_16.flat, og_16.one, og_17.flat, og_17.one]
  repeat' (with_reducible first | intro _ | refine And.intro ?_ ?_)
  all_goals try (first | exact ⟨_, Heap.le_refl _, rfl⟩ | exact ⟨_, Heap.le_refl _⟩)
  all_goals try omega
  have hct0 := DJob.o_top a _ oe0
  refine HFnF.wc3 (mark_Job a [ya0_0, .v (.int .i64 a.fFunc), .v (.int .i64 a.fShared), ya0_3, ya0_4] (1 : Int) _ oe0 (by omega) (by omega) (Owns.up3 z2_nw0 ⟨dnx0_nw0, z2_nx0⟩ ⟨dng_nx0, dng_nw0, z2_ng⟩ H0x_2) nd0) H0x_2 z2_nw0 ⟨dnx0_nw0, z2_nx0⟩ ⟨dng_nx0, dng_nw0, z2_ng⟩ ?_
  rintro g3 cg3 z3_nw0 z3_nx0 z3_ng
  obtain ⟨cc0, hcc0⟩ : ∃ z : Int, z = (1 : Int) + ((OV.ctTop [ya0_0, .v (.int .i64 a.fFunc), .v (.int .i64 a.fShared), ya0_3, ya0_4] : Nat) : Int) := ⟨_, rfl⟩
  rw [← hcc0]
  have Hg_3 : Owns g3 (OV.rowsRow [yg_0, .v (.int .i64 (netRes a w).1.fStart.fFunc), .v (.int .i64 (netRes a w).1.fStart.fShared), yg_3, yg_4, yg_5, .v (.int .i64 (netRes a w).1.fService.fJob.fFunc), .v (.int .i64 (netRes a w).1.fService.fJob.fShared), yg_8, yg_9, yg_10, yg_11, yg_12, yg_13, .v (.str (netRes a w).1.fJournal), .v (.int .i64 (netRes a w).1.fSafe), yg_16, yg_17]) := fun p hp => by
    have hm : p.1 ∈ namesOf (OV.rowsRow [yg_0, .v (.int .i64 (netRes a w).1.fStart.fFunc), .v (.int .i64 (netRes a w).1.fStart.fShared), yg_3, yg_4, yg_5, .v (.int .i64 (netRes a w).1.fService.fJob.fFunc), .v (.int .i64 (netRes a w).1.fService.fJob.fShared), yg_8, yg_9, yg_10, yg_11, yg_12, yg_13, .v (.str (netRes a w).1.fJournal), .v (.int .i64 (netRes a w).1.fSafe), yg_16, yg_17]) := mem_namesOf.2 ⟨p.2, hp⟩
    rw [cg3.upto p.1 (fun hq => apH0x p.1 hq hm)]
    exact Hg_2 p hp
  simp (maxSteps := 1000000) -dsimp -implicitDefEqProofs only [go_sem, ↓reduceIte, keep4, ib4, mk4, Tryz.f4, Bool.true_or, Bool.or_true, Bool.false_or, Bool.or_false, protF, eq_self, decide_true, Bool.not_true, bne_self_eq_false, upd_upd, upd_get, OV.map_val, OV.map_val_nil, OV.val_v, DJob.c_eq, DNet.c_eq, enx0_nw0, fnx0_nw0, eng_nx0, fng_nx0, eng_nw0, fng_nw0, oa0_0.flat, oa0_0.one, oa0_3.flat, oa0_3.one, oa0_4.flat, oa0_4.one, og_0.flat, og_0.one, og_3.flat, og_3.one, og_4.flat, og_4.one, og_5.flat, og_5.one, og_8.flat, og_8.one, og_9.flat, og_9.one, og_10.flat, og_10.one, og_11.flat, og_11.one, og_12.flat, og_12.one, og_13.flat, og_13.one, og_16.flat, og_16.one, og_17.flat, og_17.one]
  repeat' (with_reducible first | intro _ | refine And.intro ?_ ?_)
  all_goals try (first | exact ⟨_, Heap.le_refl _, rfl⟩ | exact ⟨_, Heap.le_refl _⟩)
  all_goals try omega
  refine HFnF.lend0 (eq_Net (netRes a w).1 (netRes a w).1) (ViewL.cons (View.aggD [yg_0, .v (.int .i64 (netRes a w).1.fStart.fFunc), .v (.int .i64 (netRes a w).1.fStart.fShared), yg_3, yg_4, yg_5, .v (.int .i64 (netRes a w).1.fService.fJob.fFunc), .v (.int .i64 (netRes a w).1.fService.fJob.fShared), yg_8, yg_9, yg_10, yg_11, yg_12, yg_13, .v (.str (netRes a w).1.fJournal), .v (.int .i64 (netRes a w).1.fSafe), yg_16, yg_17] (DNet.o_dat oeg) (Owns.up3 z3_nw0 ⟨dnx0_nw0, z3_nx0⟩ ⟨dng_nx0, dng_nw0, z3_ng⟩ Hg_3)) (ViewL.cons (by first | exact View.same _ _ | (simp only [DJob.c_eq, DNet.c_eq]; exact View.same _ _)) ViewL.nil)) rfl ?_
  simp (maxSteps := 1000000) -dsimp -implicitDefEqProofs only [go_sem, ↓reduceIte, keep4, ib4, mk4, Tryz.f4, Bool.true_or, Bool.or_true, Bool.false_or, Bool.or_false, protF, eq_self, decide_true, Bool.not_true, bne_self_eq_false, upd_upd, upd_get, OV.map_val, OV.map_val_nil, OV.val_v, DJob.c_eq, DNet.c_eq, enx0_nw0, fnx0_nw0, eng_nx0, fng_nx0, eng_nw0, fng_nw0, oa0_0.flat, oa0_0.one, oa0_3.flat, oa0_3.one, oa0_4.flat, oa0_4.one, og_0.flat, og_0.one, og_3.flat, og_3.one, og_4.flat, og_4.one, og_5.flat, og_5.one, og_8.flat, og_8.one, og_9.flat, og_9.one, og_10.flat, og_10.one, og_11.flat, og_11.one, og_12.flat, og_12.one, og_13.flat, og_13.one, og_16.flat, og_16.one, og_17.flat, og_17.one]
  repeat' (with_reducible first | intro _ | refine And.intro ?_ ?_)
  all_goals try (first | exact ⟨_, Heap.le_refl _, rfl⟩ | exact ⟨_, Heap.le_refl _⟩)
  all_goals try omega
  have hctg : OV.ctTop [yg_0, .v (.int .i64 (netRes a w).1.fStart.fFunc), .v (.int .i64 (netRes a w).1.fStart.fShared), yg_3, yg_4, yg_5, .v (.int .i64 (netRes a w).1.fService.fJob.fFunc), .v (.int .i64 (netRes a w).1.fService.fJob.fShared), yg_8, yg_9, yg_10, yg_11, yg_12, yg_13, .v (.str (netRes a w).1.fJournal), .v (.int .i64 (netRes a w).1.fSafe), yg_16, yg_17] ≤ 4000000000000000000 := by have h1 := DNet.o_top _ _ oeg; have h2 := netRes_s a w; omega
  refine HFnF.wc3 (mark_Net _ [yg_0, .v (.int .i64 (netRes a w).1.fStart.fFunc), .v (.int .i64 (netRes a w).1.fStart.fShared), yg_3, yg_4, yg_5, .v (.int .i64 (netRes a w).1.fService.fJob.fFunc), .v (.int .i64 (netRes a w).1.fService.fJob.fShared), yg_8, yg_9, yg_10, yg_11, yg_12, yg_13, .v (.str (netRes a w).1.fJournal), .v (.int .i64 (netRes a w).1.fSafe), yg_16, yg_17] 1 _ oeg (by omega) (by omega) (Owns.up3 z3_nw0 ⟨dnx0_nw0, z3_nx0⟩ ⟨dng_nx0, dng_nw0, z3_ng⟩ Hg_3) ndg) Hg_3 z3_nw0 ⟨dnx0_nw0, z3_nx0⟩ ⟨dng_nx0, dng_nw0, z3_ng⟩ ?_
  rintro g4 cg4 z4_nw0 z4_nx0 z4_ng
  obtain ⟨ccg, hccg⟩ : ∃ z : Int, z = 1 + ((OV.ctTop [yg_0, .v (.int .i64 (netRes a w).1.fStart.fFunc), .v (.int .i64 (netRes a w).1.fStart.fShared), yg_3, yg_4, yg_5, .v (.int .i64 (netRes a w).1.fService.fJob.fFunc), .v (.int .i64 (netRes a w).1.fService.fJob.fShared), yg_8, yg_9, yg_10, yg_11, yg_12, yg_13, .v (.str (netRes a w).1.fJournal), .v (.int .i64 (netRes a w).1.fSafe), yg_16, yg_17] : Nat) : Int) := ⟨_, rfl⟩
  rw [← hccg]
  simp (maxSteps := 1000000) -dsimp -implicitDefEqProofs only [go_sem, ↓reduceIte, keep4, ib4, mk4, Tryz.f4, Bool.true_or, Bool.or_true, Bool.false_or, Bool.or_false, protF, eq_self, decide_true, Bool.not_true, bne_self_eq_false, upd_upd, upd_get, OV.map_val, OV.map_val_nil, OV.val_v, DJob.c_eq, DNet.c_eq, enx0_nw0, fnx0_nw0, eng_nx0, fng_nx0, eng_nw0, fng_nw0, oa0_0.flat, oa0_0.one, oa0_3.flat, oa0_3.one, oa0_4.flat, oa0_4.one, og_0.flat, og_0.one, og_3.flat, og_3.one, og_4.flat, og_4.one, og_5.flat, og_5.one, og_8.flat, og_8.one, og_9.flat, og_9.one, og_10.flat, og_10.one, og_11.flat, og_11.one, og_12.flat, og_12.one, og_13.flat, og_13.one, og_16.flat, og_16.one, og_17.flat, og_17.one]
  repeat' (with_reducible first | intro _ | refine And.intro ?_ ?_)
  all_goals try (first | exact ⟨_, Heap.le_refl _, rfl⟩ | exact ⟨_, Heap.le_refl _⟩)
  all_goals try omega
  have hh := held_Net _ [yg_0, .v (.int .i64 (netRes a w).1.fStart.fFunc), .v (.int .i64 (netRes a w).1.fStart.fShared), yg_3, yg_4, yg_5, .v (.int .i64 (netRes a w).1.fService.fJob.fFunc), .v (.int .i64 (netRes a w).1.fService.fJob.fShared), yg_8, yg_9, yg_10, yg_11, yg_12, yg_13, .v (.str (netRes a w).1.fJournal), .v (.int .i64 (netRes a w).1.fSafe), yg_16, yg_17] 1 oeg (by omega) (by omega)
  rw [← hccg] at hh
  refine HFnF.lend0 hh (ViewL.cons (View.aggM 1 [yg_0, .v (.int .i64 (netRes a w).1.fStart.fFunc), .v (.int .i64 (netRes a w).1.fStart.fShared), yg_3, yg_4, yg_5, .v (.int .i64 (netRes a w).1.fService.fJob.fFunc), .v (.int .i64 (netRes a w).1.fService.fJob.fShared), yg_8, yg_9, yg_10, yg_11, yg_12, yg_13, .v (.str (netRes a w).1.fJournal), .v (.int .i64 (netRes a w).1.fSafe), yg_16, yg_17] (Owns.up3 z4_nw0 ⟨dnx0_nw0, z4_nx0⟩ ⟨dng_nx0, dng_nw0, z4_ng⟩ cg4.owns)) (ViewL.cons (View.same _ _) ViewL.nil)) rfl ?_
  simp (maxSteps := 1000000) -dsimp -implicitDefEqProofs only [go_sem, ↓reduceIte, keep4, ib4, mk4, Tryz.f4, Bool.true_or, Bool.or_true, Bool.false_or, Bool.or_false, protF, eq_self, decide_true, Bool.not_true, bne_self_eq_false, upd_upd, upd_get, OV.map_val, OV.map_val_nil, OV.val_v, DJob.c_eq, DNet.c_eq, enx0_nw0, fnx0_nw0, eng_nx0, fng_nx0, eng_nw0, fng_nw0, oa0_0.flat, oa0_0.one, oa0_3.flat, oa0_3.one, oa0_4.flat, oa0_4.one, og_0.flat, og_0.one, og_3.flat, og_3.one, og_4.flat, og_4.one, og_5.flat, og_5.one, og_8.flat, og_8.one, og_9.flat, og_9.one, og_10.flat, og_10.one, og_11.flat, og_11.one, og_12.flat, og_12.one, og_13.flat, og_13.one, og_16.flat, og_16.one, og_17.flat, og_17.one]
  repeat' (with_reducible first | intro _ | refine And.intro ?_ ?_)
  all_goals try (first | exact ⟨_, Heap.le_refl _, rfl⟩ | exact ⟨_, Heap.le_refl _⟩)
  all_goals try omega
  first | refine HFnF.mk (to_Job a hz_a) ?_ | refine CallSF.mk (to_Job a hz_a) ?_
  simp (maxSteps := 1000000) -dsimp -implicitDefEqProofs only [go_sem, ↓reduceIte, keep4, ib4, mk4, Tryz.f4, Bool.true_or, Bool.or_true, Bool.false_or, Bool.or_false, protF, eq_self, decide_true, Bool.not_true, bne_self_eq_false, upd_upd, upd_get, OV.map_val, OV.map_val_nil, OV.val_v, DJob.c_eq, DNet.c_eq, enx0_nw0, fnx0_nw0, eng_nx0, fng_nx0, eng_nw0, fng_nw0, oa0_0.flat, oa0_0.one, oa0_3.flat, oa0_3.one, oa0_4.flat, oa0_4.one, og_0.flat, og_0.one, og_3.flat, og_3.one, og_4.flat, og_4.one, og_5.flat, og_5.one, og_8.flat, og_8.one, og_9.flat, og_9.one, og_10.flat, og_10.one, og_11.flat, og_11.one, og_12.flat, og_12.one, og_13.flat, og_13.one, og_16.flat, og_16.one, og_17.flat, og_17.one]
  repeat' (with_reducible first | intro _ | refine And.intro ?_ ?_)
  all_goals try trivial
  first | refine HFnF.mk (hseal) ?_ | refine CallSF.mk (hseal) ?_
  simp (maxSteps := 1000000) -dsimp -implicitDefEqProofs only [go_sem, ↓reduceIte, keep4, ib4, mk4, Tryz.f4, Bool.true_or, Bool.or_true, Bool.false_or, Bool.or_false, protF, eq_self, decide_true, Bool.not_true, bne_self_eq_false, upd_upd, upd_get, OV.map_val, OV.map_val_nil, OV.val_v, DJob.c_eq, DNet.c_eq, enx0_nw0, fnx0_nw0, eng_nx0, fng_nx0, eng_nw0, fng_nw0, oa0_0.flat, oa0_0.one, oa0_3.flat, oa0_3.one, oa0_4.flat, oa0_4.one, og_0.flat, og_0.one, og_3.flat, og_3.one, og_4.flat, og_4.one, og_5.flat, og_5.one, og_8.flat, og_8.one, og_9.flat, og_9.one, og_10.flat, og_10.one, og_11.flat, og_11.one, og_12.flat, og_12.one, og_13.flat, og_13.one, og_16.flat, og_16.one, og_17.flat, og_17.one]
  intro nh qnh
  have dnh_ng : nh ≠ ng := fun e => by
    first
      | exact qnh.1 e
      | (rw [if_pos e] at qnh; cases qnh)
  have enh_ng : (nh = ng) = False := eq_false dnh_ng
  have fnh_ng : (ng = nh) = False := eq_false (fun e => dnh_ng e.symm)
  first
    | (rw [if_neg dnh_ng] at qnh)
    | (replace qnh := qnh.2)
  have dnh_nx0 : nh ≠ nx0 := fun e => by
    first
      | exact qnh.1 e
      | (rw [if_pos e] at qnh; cases qnh)
  have enh_nx0 : (nh = nx0) = False := eq_false dnh_nx0
  have fnh_nx0 : (nx0 = nh) = False := eq_false (fun e => dnh_nx0 e.symm)
  first
    | (rw [if_neg dnh_nx0] at qnh)
    | (replace qnh := qnh.2)
  have dnh_nw0 : nh ≠ nw0 := fun e => by
    first
      | exact qnh.1 e
      | (rw [if_pos e] at qnh; cases qnh)
  have enh_nw0 : (nh = nw0) = False := eq_false dnh_nw0
  have fnh_nw0 : (nw0 = nh) = False := eq_false (fun e => dnh_nw0 e.symm)
  first
    | (rw [if_neg dnh_nw0] at qnh)
    | (replace qnh := qnh.2)
  have z4_nh := qnh
  clear qnh
  try simp (maxSteps := 1000000) -dsimp -implicitDefEqProofs only [go_sem, ↓reduceIte, keep4, ib4, mk4, Tryz.f4, Bool.true_or, Bool.or_true, Bool.false_or, Bool.or_false, protF, eq_self, decide_true, Bool.not_true, bne_self_eq_false, upd_upd, upd_get, OV.map_val, OV.map_val_nil, OV.val_v, DJob.c_eq, DNet.c_eq, enx0_nw0, fnx0_nw0, eng_nx0, fng_nx0, eng_nw0, fng_nw0, enh_ng, fnh_ng, enh_nx0, fnh_nx0, enh_nw0, fnh_nw0, oa0_0.flat, oa0_0.one, oa0_3.flat, oa0_3.one, oa0_4.flat, oa0_4.one, og_0.flat, og_0.one, og_3.flat, og_3.one, og_4.flat, og_4.one, og_5.flat, og_5.one, og_8.flat, og_8.one, og_9.flat, og_9.one, og_10.flat, og_10.one, og_11.flat, og_11.one, og_12.flat, og_12.one, og_13.flat, og_13.one, og_16.flat, og_16.one, og_17.flat, og_17.one]
  refine HFnF.mk (eq_Net (netRes a w).1 (netRes a w).1) ?_
  simp (maxSteps := 1000000) -dsimp -implicitDefEqProofs only [go_sem, ↓reduceIte, keep4, ib4, mk4, Tryz.f4, Bool.true_or, Bool.or_true, Bool.false_or, Bool.or_false, protF, eq_self, decide_true, Bool.not_true, bne_self_eq_false, upd_upd, upd_get, OV.map_val, OV.map_val_nil, OV.val_v, DJob.c_eq, DNet.c_eq, enx0_nw0, fnx0_nw0, eng_nx0, fng_nx0, eng_nw0, fng_nw0, enh_ng, fnh_ng, enh_nx0, fnh_nx0, enh_nw0, fnh_nw0, oa0_0.flat, oa0_0.one, oa0_3.flat, oa0_3.one, oa0_4.flat, oa0_4.one, og_0.flat, og_0.one, og_3.flat, og_3.one, og_4.flat, og_4.one, og_5.flat, og_5.one, og_8.flat, og_8.one, og_9.flat, og_9.one, og_10.flat, og_10.one, og_11.flat, og_11.one, og_12.flat, og_12.one, og_13.flat, og_13.one, og_16.flat, og_16.one, og_17.flat, og_17.one]
  repeat' (with_reducible first | intro _ | refine And.intro ?_ ?_)
  all_goals try (first | exact ⟨_, Heap.le_refl _, rfl⟩ | exact ⟨_, Heap.le_refl _⟩)
  all_goals try omega
  have hh := held_Net _ [yg_0, .v (.int .i64 (netRes a w).1.fStart.fFunc), .v (.int .i64 (netRes a w).1.fStart.fShared), yg_3, yg_4, yg_5, .v (.int .i64 (netRes a w).1.fService.fJob.fFunc), .v (.int .i64 (netRes a w).1.fService.fJob.fShared), yg_8, yg_9, yg_10, yg_11, yg_12, yg_13, .v (.str (netRes a w).1.fJournal), .v (.int .i64 (netRes a w).1.fSafe), yg_16, yg_17] 1 oeg (by omega) (by omega)
  rw [← hccg] at hh
  refine HFnF.lend0 hh (ViewL.cons (View.aggM 1 [yg_0, .v (.int .i64 (netRes a w).1.fStart.fFunc), .v (.int .i64 (netRes a w).1.fStart.fShared), yg_3, yg_4, yg_5, .v (.int .i64 (netRes a w).1.fService.fJob.fFunc), .v (.int .i64 (netRes a w).1.fService.fJob.fShared), yg_8, yg_9, yg_10, yg_11, yg_12, yg_13, .v (.str (netRes a w).1.fJournal), .v (.int .i64 (netRes a w).1.fSafe), yg_16, yg_17] (Owns.up4 z4_nw0 ⟨dnx0_nw0, z4_nx0⟩ ⟨dng_nx0, dng_nw0, z4_ng⟩ ⟨dnh_ng, dnh_nx0, dnh_nw0, z4_nh⟩ cg4.owns)) (ViewL.cons (View.same _ _) ViewL.nil)) rfl ?_
  simp (maxSteps := 1000000) -dsimp -implicitDefEqProofs only [go_sem, ↓reduceIte, keep4, ib4, mk4, Tryz.f4, Bool.true_or, Bool.or_true, Bool.false_or, Bool.or_false, protF, eq_self, decide_true, Bool.not_true, bne_self_eq_false, upd_upd, upd_get, OV.map_val, OV.map_val_nil, OV.val_v, DJob.c_eq, DNet.c_eq, enx0_nw0, fnx0_nw0, eng_nx0, fng_nx0, eng_nw0, fng_nw0, enh_ng, fnh_ng, enh_nx0, fnh_nx0, enh_nw0, fnh_nw0, oa0_0.flat, oa0_0.one, oa0_3.flat, oa0_3.one, oa0_4.flat, oa0_4.one, og_0.flat, og_0.one, og_3.flat, og_3.one, og_4.flat, og_4.one, og_5.flat, og_5.one, og_8.flat, og_8.one, og_9.flat, og_9.one, og_10.flat, og_10.one, og_11.flat, og_11.one, og_12.flat, og_12.one, og_13.flat, og_13.one, og_16.flat, og_16.one, og_17.flat, og_17.one]
  repeat' (with_reducible first | intro _ | refine And.intro ?_ ?_)
  all_goals try (first | exact ⟨_, Heap.le_refl _, rfl⟩ | exact ⟨_, Heap.le_refl _⟩)
  all_goals try omega

end Go.Hl

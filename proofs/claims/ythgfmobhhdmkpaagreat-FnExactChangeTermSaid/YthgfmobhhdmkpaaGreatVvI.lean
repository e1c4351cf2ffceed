/-
  Contracts of functions and laws of the layer over the walk.
-/
import Derived.Test.YthgfmobhhdmkpaaGreatVvH
import Derived.Test.YthgfmobhhdmkpaaGreatVvB
import Derived.Test.YthgfmobhhdmkpaaGreatVvA
namespace Go.Hl
open Go.Proofs
set_option linter.unusedVariables false
set_option linter.unusedSimpArgs false
def keep7 : List Nat := [0, 1, 2, 3, 6, 7, 8, 9, 10, 11, 12, 13, 14, 15, 16, 17, 18, 21, 26, 55, 60, 65, 84, 92, 95, 113, 118, 121]
def ib7 : List Nat := [3]
def mk7 : Marks := fun id => match id with | 13 => ([0, 2, 3], (.op 1 (.op 0 (.op 2 (.op 3 (.op 4 .nil))))), [(0, 2)]) | _ => ([], .nil, [])
set_option maxRecDepth 100000 in
set_option maxHeartbeats 1000000 in
theorem law_FnExactChangeTerm (a : DService) (k : Int) (ns : (List Int)) (h : Heap) : HFn Tryz.prog 7 [.agg a.c, (.int .i64 k), (sls 1 (fun n => [I n]) ns)] h fun r _ => r = .bool true := by
  simp only [DService.c_eq]
  refine fnHF 122 keep7 ib7 mk7 mix Tryz.func7 rfl (by kernel_rfl) (by simp) ?_
  simp (maxSteps := 1000000) -dsimp -implicitDefEqProofs only [go_sem, ↓reduceIte, keep7, ib7, mk7, Tryz.f7, Bool.true_or, Bool.or_true, Bool.false_or, Bool.or_false, protF, eq_self, decide_true, Bool.not_true, bne_self_eq_false, upd_upd, upd_get, OV.map_val, OV.map_val_nil, OV.val_v, DService.c_eq]
  repeat' (with_reducible first | intro _ | refine And.intro ?_ ?_)
  all_goals try (first | exact ⟨_, Heap.le_refl _, rfl⟩ | exact ⟨_, Heap.le_refl _⟩)
  all_goals try omega
  have hz_ns : ns.length ≤ 1048576 := by omega
  refine HFnF.mk (sz_Service a 1048576 (by omega) (by omega)) ?_
  generalize hL0 : lft 1048576 (DService.s a) = L0
  have hs0 := lft_step hL0
  simp (maxSteps := 1000000) -dsimp -implicitDefEqProofs only [go_sem, ↓reduceIte, keep7, ib7, mk7, Tryz.f7, Bool.true_or, Bool.or_true, Bool.false_or, Bool.or_false, protF, eq_self, decide_true, Bool.not_true, bne_self_eq_false, upd_upd, upd_get, OV.map_val, OV.map_val_nil, OV.val_v, DService.c_eq]
  repeat' (with_reducible first | intro _ | refine And.intro ?_ ?_)
  all_goals try (first | exact ⟨_, Heap.le_refl _, rfl⟩ | exact ⟨_, Heap.le_refl _⟩)
  all_goals try omega
  have hn0 := hs0.2 (by omega)
  clear hs0 hL0
  have hz_a : (DService.s a) ≤ 1048576 := by omega
  have hseal := QA.fn0W (ChangeTerm a k ns (by omega) (by omega)) (fun e he => DService.o_dat he) (wrap_tup [] [I (turnRes a k ns).2])
  first | refine HFnF.mk (to_Service a hz_a) ?_ | refine CallSF.mk (to_Service a hz_a) ?_
  simp (maxSteps := 1000000) -dsimp -implicitDefEqProofs only [go_sem, ↓reduceIte, keep7, ib7, mk7, Tryz.f7, Bool.true_or, Bool.or_true, Bool.false_or, Bool.or_false, protF, eq_self, decide_true, Bool.not_true, bne_self_eq_false, upd_upd, upd_get, OV.map_val, OV.map_val_nil, OV.val_v, DService.c_eq]
  repeat' (with_reducible first | intro _ | refine And.intro ?_ ?_)
  all_goals try trivial
  first | refine HFnF.mk (to_Int64S ns hz_ns) ?_ | refine CallSF.mk (to_Int64S ns hz_ns) ?_
  simp (maxSteps := 1000000) -dsimp -implicitDefEqProofs only [go_sem, ↓reduceIte, keep7, ib7, mk7, Tryz.f7, Bool.true_or, Bool.or_true, Bool.false_or, Bool.or_false, protF, eq_self, decide_true, Bool.not_true, bne_self_eq_false, upd_upd, upd_get, OV.map_val, OV.map_val_nil, OV.val_v, DService.c_eq]
  repeat' (with_reducible first | intro _ | refine And.intro ?_ ?_)
  all_goals try trivial
  first | refine HFnF.mk (QA.fn0W (specChangeTerm a k ns (by omega) (by omega)) (fun e he => DService.o_dat he) (wrap_tup [] [I (turnRes a k ns).2])) ?_ | refine CallSF.mk (QA.fn0W (specChangeTerm a k ns (by omega) (by omega)) (fun e he => DService.o_dat he) (wrap_tup [] [I (turnRes a k ns).2])) ?_
  simp (maxSteps := 1000000) -dsimp -implicitDefEqProofs only [go_sem, ↓reduceIte, keep7, ib7, mk7, Tryz.f7, Bool.true_or, Bool.or_true, Bool.false_or, Bool.or_false, protF, eq_self, decide_true, Bool.not_true, bne_self_eq_false, upd_upd, upd_get, OV.map_val, OV.map_val_nil, OV.val_v, DService.c_eq]
  intro nw0 qnw0
  have z0_nw0 := qnw0
  clear qnw0
  try simp (maxSteps := 1000000) -dsimp -implicitDefEqProofs only [go_sem, ↓reduceIte, keep7, ib7, mk7, Tryz.f7, Bool.true_or, Bool.or_true, Bool.false_or, Bool.or_false, protF, eq_self, decide_true, Bool.not_true, bne_self_eq_false, upd_upd, upd_get, OV.map_val, OV.map_val_nil, OV.val_v, DService.c_eq]
  refine HFnF.wn1 (toO_Service a hz_a) z0_nw0 ?_
  rintro r l1 g1 ⟨e0_, oe0, rfl, rfl⟩ w1 z1_nw0
  have oo0 := oe0
  obtain ⟨ya0_0, ya0_3, ya0_4, ya0_5, ya0_6, ya0_7, ya0_8, rfl, oa0_0, oa0_3, oa0_4, oa0_5, oa0_6, oa0_7, oa0_8⟩ := oo0
  have H0x_1 : Owns g1 (OV.rowsRow [ya0_0, .v (.int .i64 a.fJob.fFunc), .v (.int .i64 a.fJob.fShared), ya0_3, ya0_4, ya0_5, ya0_6, ya0_7, ya0_8]) := w1.owns
  simp (maxSteps := 1000000) -dsimp -implicitDefEqProofs only [go_sem, ↓reduceIte, keep7, ib7, mk7, Tryz.f7, Bool.true_or, Bool.or_true, Bool.false_or, Bool.or_false, protF, eq_self, decide_true, Bool.not_true, bne_self_eq_false, upd_upd, upd_get, OV.map_val, OV.map_val_nil, OV.val_v, DService.c_eq, oa0_0.flat, oa0_0.one, oa0_3.flat, oa0_3.one, oa0_4.flat, oa0_4.one, oa0_5.flat, oa0_5.one, oa0_6.flat, oa0_6.one, oa0_7.flat, oa0_7.one, oa0_8.flat, oa0_8.one]
  intro nx0 qnx0
  have dnx0_nw0 : nx0 ≠ nw0 := fun e => by
    first
      | exact qnx0.1 e
      | (rw [if_pos e] at qnx0; cases qnx0)
  have enx0_nw0 : (nx0 = nw0) = False := eq_false dnx0_nw0
  have fnx0_nw0 : (nw0 = nx0) = False := eq_false (fun e => dnx0_nw0 e.symm)
  first
    | (rw [if_neg dnx0_nw0] at qnx0)
    | (replace qnx0 := qnx0.2)
  have z1_nx0 := qnx0
  clear qnx0
  try simp (maxSteps := 1000000) -dsimp -implicitDefEqProofs only [go_sem, ↓reduceIte, keep7, ib7, mk7, Tryz.f7, Bool.true_or, Bool.or_true, Bool.false_or, Bool.or_false, protF, eq_self, decide_true, Bool.not_true, bne_self_eq_false, upd_upd, upd_get, OV.map_val, OV.map_val_nil, OV.val_v, DService.c_eq, enx0_nw0, fnx0_nw0, oa0_0.flat, oa0_0.one, oa0_3.flat, oa0_3.one, oa0_4.flat, oa0_4.one, oa0_5.flat, oa0_5.one, oa0_6.flat, oa0_6.one, oa0_7.flat, oa0_7.one, oa0_8.flat, oa0_8.one]
  refine HFnF.wn2 (toO_Int64S ns hz_ns) z1_nw0 ⟨dnx0_nw0, z1_nx0⟩ ?_
  rintro r l2 g2 ⟨ya1_0, oa1_0, rfl, rfl⟩ w2 z2_nw0 z2_nx0
  have H0x_2 : Owns g2 (OV.rowsRow [ya0_0, .v (.int .i64 a.fJob.fFunc), .v (.int .i64 a.fJob.fShared), ya0_3, ya0_4, ya0_5, ya0_6, ya0_7, ya0_8]) := fun p hp => w2.keep (H0x_1 p hp)
  have H1x_2 : Owns g2 ya1_0.rows := w2.owns
  simp (maxSteps := 1000000) -dsimp -implicitDefEqProofs only [go_sem, ↓reduceIte, keep7, ib7, mk7, Tryz.f7, Bool.true_or, Bool.or_true, Bool.false_or, Bool.or_false, protF, eq_self, decide_true, Bool.not_true, bne_self_eq_false, upd_upd, upd_get, OV.map_val, OV.map_val_nil, OV.val_v, DService.c_eq, enx0_nw0, fnx0_nw0, oa0_0.flat, oa0_0.one, oa0_3.flat, oa0_3.one, oa0_4.flat, oa0_4.one, oa0_5.flat, oa0_5.one, oa0_6.flat, oa0_6.one, oa0_7.flat, oa0_7.one, oa0_8.flat, oa0_8.one, oa1_0.flat, oa1_0.one]
  refine HFnF.wl2 (ChangeTerm a k ns (by omega) (by omega)) (ViewL.cons (View.aggD [ya0_0, .v (.int .i64 a.fJob.fFunc), .v (.int .i64 a.fJob.fShared), ya0_3, ya0_4, ya0_5, ya0_6, ya0_7, ya0_8] (DService.o_dat oe0) (Owns.up2 z2_nw0 ⟨dnx0_nw0, z2_nx0⟩ H0x_2)) (ViewL.cons (View.same _ _) (ViewL.cons (View.ovD ya1_0 (OS.dat (c := (fun n => [I n])) (fun _ _ q => oP_dat q) oa1_0) (Owns.up2 z2_nw0 ⟨dnx0_nw0, z2_nx0⟩ H1x_2)) ViewL.nil))) (QA.solid (fun e he => DService.o_sol _ e he) (fun x hx => by simp [HVal.solid, HVal.solidL, hx])) z2_nw0 ⟨dnx0_nw0, z2_nx0⟩ ?_
  rintro r l3 g3 ⟨eg_, oeg, rfl, rfl⟩ w3 z3_nw0 z3_nx0
  have oog := oeg
  obtain ⟨yg_0, yg_3, yg_4, yg_5, yg_6, yg_7, yg_8, rfl, og_0, og_3, og_4, og_5, og_6, og_7, og_8⟩ := oog
  have H0x_3 : Owns g3 (OV.rowsRow [ya0_0, .v (.int .i64 a.fJob.fFunc), .v (.int .i64 a.fJob.fShared), ya0_3, ya0_4, ya0_5, ya0_6, ya0_7, ya0_8]) := fun p hp => w3.keep (H0x_2 p hp)
  have H1x_3 : Owns g3 ya1_0.rows := fun p hp => w3.keep (H1x_2 p hp)
  have Hg_3 : Owns g3 (OV.rowsRow [yg_0, .v (.int .i64 (turnRes a k ns).1.fJob.fFunc), .v (.int .i64 (turnRes a k ns).1.fJob.fShared), yg_3, yg_4, yg_5, yg_6, yg_7, yg_8]) := w3.owns
  have apH0x : ∀ m ∈ namesOf (OV.rowsRow [ya0_0, .v (.int .i64 a.fJob.fFunc), .v (.int .i64 a.fJob.fShared), ya0_3, ya0_4, ya0_5, ya0_6, ya0_7, ya0_8]), m ∉ namesOf (OV.rowsRow [yg_0, .v (.int .i64 (turnRes a k ns).1.fJob.fFunc), .v (.int .i64 (turnRes a k ns).1.fJob.fShared), yg_3, yg_4, yg_5, yg_6, yg_7, yg_8]) := fun m hm hq => by
    obtain ⟨x, hx⟩ := mem_namesOf.1 hm
    have h1 := w3.fresh m hq
    have h2 := H0x_2 (m, x) hx
    rw [h1] at h2; cases h2
  have apH1x : ∀ m ∈ namesOf ya1_0.rows, m ∉ namesOf (OV.rowsRow [yg_0, .v (.int .i64 (turnRes a k ns).1.fJob.fFunc), .v (.int .i64 (turnRes a k ns).1.fJob.fShared), yg_3, yg_4, yg_5, yg_6, yg_7, yg_8]) := fun m hm hq => by
    obtain ⟨x, hx⟩ := mem_namesOf.1 hm
    have h1 := w3.fresh m hq
    have h2 := H1x_2 (m, x) hx
    rw [h1] at h2; cases h2
  have apx0_1 : ∀ m ∈ namesOf (OV.rowsRow [ya0_0, .v (.int .i64 a.fJob.fFunc), .v (.int .i64 a.fJob.fShared), ya0_3, ya0_4, ya0_5, ya0_6, ya0_7, ya0_8]), m ∉ namesOf ya1_0.rows := fun m hm hq => by
    obtain ⟨x, hx⟩ := mem_namesOf.1 hm
    have h1 := w2.fresh m hq
    have h2 := H0x_1 (m, x) hx
    rw [h1] at h2; cases h2
  have nd0 := w1.nodup
  have nd1 := w2.nodup
  have ndg := w3.nodup
  simp (maxSteps := 1000000) -dsimp -implicitDefEqProofs only [go_sem, ↓reduceIte, keep7, ib7, mk7, Tryz.f7, Bool.true_or, Bool.or_true, Bool.false_or, Bool.or_false, protF, eq_self, decide_true, Bool.not_true, bne_self_eq_false, upd_upd, upd_get, OV.map_val, OV.map_val_nil, OV.val_v, DService.c_eq, enx0_nw0, fnx0_nw0, oa0_0.flat, oa0_0.one, oa0_3.flat, oa0_3.one, oa0_4.flat, oa0_4.one, oa0_5.flat, oa0_5.one, oa0_6.flat, oa0_6.one, oa0_7.flat, oa0_7.one, oa0_8.flat, oa0_8.one, oa1_0.flat, oa1_0.one, og_0.flat, og_0.one, og_3.flat, og_3.one, og_4.flat, og_4.one, og_5.flat, og_5.one, og_6.flat, og_6.one, og_7.flat, og_7.one, og_8.flat, og_8.one]
  intro ng qng
  have dng_nx0 : ng ≠ nx0 := fun e => by
    first
      | exact qng.1 e
      | (rw [if_pos e] at qng; cases qng)
  have eng_nx0 : (ng = nx0) = False := eq_false dng_nx0
  have fng_nx0 : (nx0 = ng) = False := eq_false (fun e => dng_nx0 e.symm)
  first
    | (rw [if_neg dng_nx0] at qng)
    | (replace qng := qng.2)
  have dng_nw0 : ng ≠ nw0 := fun e => by
    first
      | exact qng.1 e
      | (rw [if_pos e] at qng; cases qng)
  have eng_nw0 : (ng = nw0) = False := eq_false dng_nw0
  have fng_nw0 : (nw0 = ng) = False := eq_false (fun e => dng_nw0 e.symm)
  first
    | (rw [if_neg dng_nw0] at qng)
    | (replace qng := qng.2)
  have z3_ng := qng
  clear qng
  try simp (maxSteps := 1000000) -dsimp -implicitDefEqProofs only [go_sem, ↓reduceIte, keep7, ib7, mk7, Tryz.f7, Bool.true_or, Bool.or_true, Bool.false_or, Bool.or_false, protF, eq_self, decide_true, Bool.not_true, bne_self_eq_false, upd_upd, upd_get, OV.map_val, OV.map_val_nil, OV.val_v, DService.c_eq, enx0_nw0, fnx0_nw0, eng_nx0, fng_nx0, eng_nw0, fng_nw0, oa0_0.flat, oa0_0.one, oa0_3.flat, oa0_3.one, oa0_4.flat, oa0_4.one, oa0_5.flat, oa0_5.one, oa0_6.flat, oa0_6.one, oa0_7.flat, oa0_7.one, oa0_8.flat, oa0_8.one, oa1_0.flat, oa1_0.one, og_0.flat, og_0.one, og_3.flat, og_3.one, og_4.flat, og_4.one, og_5.flat, og_5.one, og_6.flat, og_6.one, og_7.flat, og_7.one, og_8.flat, og_8.one]
  refine HFnF.lend0 (eq_Service (turnRes a k ns).1 (turnRes a k ns).1) (ViewL.cons (View.aggD [yg_0, .v (.int .i64 (turnRes a k ns).1.fJob.fFunc), .v (.int .i64 (turnRes a k ns).1.fJob.fShared), yg_3, yg_4, yg_5, yg_6, yg_7, yg_8] (DService.o_dat oeg) (Owns.up3 z3_nw0 ⟨dnx0_nw0, z3_nx0⟩ ⟨dng_nx0, dng_nw0, z3_ng⟩ Hg_3)) (ViewL.cons (by first | exact View.same _ _ | (simp only [DService.c_eq]; exact View.same _ _)) ViewL.nil)) rfl ?_
  simp (maxSteps := 1000000) -dsimp -implicitDefEqProofs only [go_sem, ↓reduceIte, keep7, ib7, mk7, Tryz.f7, Bool.true_or, Bool.or_true, Bool.false_or, Bool.or_false, protF, eq_self, decide_true, Bool.not_true, bne_self_eq_false, upd_upd, upd_get, OV.map_val, OV.map_val_nil, OV.val_v, DService.c_eq, enx0_nw0, fnx0_nw0, eng_nx0, fng_nx0, eng_nw0, fng_nw0, oa0_0.flat, oa0_0.one, oa0_3.flat, oa0_3.one, oa0_4.flat, oa0_4.one, oa0_5.flat, oa0_5.one, oa0_6.flat, oa0_6.one, oa0_7.flat, oa0_7.one, oa0_8.flat, oa0_8.one, oa1_0.flat, oa1_0.one, og_0.flat, og_0.one, og_3.flat, og_3.one, og_4.flat, og_4.one, og_5.flat, og_5.one, og_6.flat, og_6.one, og_7.flat, og_7.one, og_8.flat, og_8.one]
  repeat' (with_reducible first | intro _ | refine And.intro ?_ ?_)
  all_goals try (first | exact ⟨_, Heap.le_refl _, rfl⟩ | exact ⟨_, Heap.le_refl _⟩)
  all_goals try omega
  refine HFnF.mk (to_Service a hz_a) ?_
  simp (maxSteps := 1000000) -dsimp -implicitDefEqProofs only [go_sem, ↓reduceIte, keep7, ib7, mk7, Tryz.f7, Bool.true_or, Bool.or_true, Bool.false_or, Bool.or_false, protF, eq_self, decide_true, Bool.not_true, bne_self_eq_false, upd_upd, upd_get, OV.map_val, OV.map_val_nil, OV.val_v, DService.c_eq, enx0_nw0, fnx0_nw0, eng_nx0, fng_nx0, eng_nw0, fng_nw0, oa0_0.flat, oa0_0.one, oa0_3.flat, oa0_3.one, oa0_4.flat, oa0_4.one, oa0_5.flat, oa0_5.one, oa0_6.flat, oa0_6.one, oa0_7.flat, oa0_7.one, oa0_8.flat, oa0_8.one, oa1_0.flat, oa1_0.one, og_0.flat, og_0.one, og_3.flat, og_3.one, og_4.flat, og_4.one, og_5.flat, og_5.one, og_6.flat, og_6.one, og_7.flat, og_7.one, og_8.flat, og_8.one]
  repeat' (with_reducible first | intro _ | refine And.intro ?_ ?_)
  all_goals try trivial
  refine HFnF.lend0 (eq_Service a a) (ViewL.cons (View.aggD [ya0_0, .v (.int .i64 a.fJob.fFunc), .v (.int .i64 a.fJob.fShared), ya0_3, ya0_4, ya0_5, ya0_6, ya0_7, ya0_8] (DService.o_dat oe0) (Owns.up3 z3_nw0 ⟨dnx0_nw0, z3_nx0⟩ ⟨dng_nx0, dng_nw0, z3_ng⟩ H0x_3)) (ViewL.cons (by first | exact View.same _ _ | (simp only [DService.c_eq]; exact View.same _ _)) ViewL.nil)) rfl ?_
  simp (maxSteps := 1000000) -dsimp -implicitDefEqProofs only [go_sem, ↓reduceIte, keep7, ib7, mk7, Tryz.f7, Bool.true_or, Bool.or_true, Bool.false_or, Bool.or_false, protF, eq_self, decide_true, Bool.not_true, bne_self_eq_false, upd_upd, upd_get, OV.map_val, OV.map_val_nil, OV.val_v, DService.c_eq, enx0_nw0, fnx0_nw0, eng_nx0, fng_nx0, eng_nw0, fng_nw0, oa0_0.flat, oa0_0.one, oa0_3.flat, oa0_3.one, oa0_4.flat, oa0_4.one, oa0_5.flat, oa0_5.one, oa0_6.flat, oa0_6.one, oa0_7.flat, oa0_7.one, oa0_8.flat, oa0_8.one, oa1_0.flat, oa1_0.one, og_0.flat, og_0.one, og_3.flat, og_3.one, og_4.flat, og_4.one, og_5.flat, og_5.one, og_6.flat, og_6.one, og_7.flat, og_7.one, og_8.flat, og_8.one]
  repeat' (with_reducible first | intro _ | refine And.intro ?_ ?_)
  all_goals try (first | exact ⟨_, Heap.le_refl _, rfl⟩ | exact ⟨_, Heap.le_refl _⟩)
  all_goals try omega
  refine HFnF.mk (to_Int64S ns hz_ns) ?_
  simp (maxSteps := 1000000) -dsimp -implicitDefEqProofs only [go_sem, ↓reduceIte, keep7, ib7, mk7, Tryz.f7, Bool.true_or, Bool.or_true, Bool.false_or, Bool.or_false, protF, eq_self, decide_true, Bool.not_true, bne_self_eq_false, upd_upd, upd_get, OV.map_val, OV.map_val_nil, OV.val_v, DService.c_eq, enx0_nw0, fnx0_nw0, eng_nx0, fng_nx0, eng_nw0, fng_nw0, oa0_0.flat, oa0_0.one, oa0_3.flat, oa0_3.one, oa0_4.flat, oa0_4.one, oa0_5.flat, oa0_5.one, oa0_6.flat, oa0_6.one, oa0_7.flat, oa0_7.one, oa0_8.flat, oa0_8.one, oa1_0.flat, oa1_0.one, og_0.flat, og_0.one, og_3.flat, og_3.one, og_4.flat, og_4.one, og_5.flat, og_5.one, og_6.flat, og_6.one, og_7.flat, og_7.one, og_8.flat, og_8.one]
  repeat' (with_reducible first | intro _ | refine And.intro ?_ ?_)
  all_goals try trivial
  refine HFnF.lend0 (eq_Int64S ns ns) (ViewL.cons (View.ovD ya1_0 (OS.dat (c := (fun n => [I n])) (fun _ _ q => oP_dat q) oa1_0) (Owns.up3 z3_nw0 ⟨dnx0_nw0, z3_nx0⟩ ⟨dng_nx0, dng_nw0, z3_ng⟩ H1x_3)) (ViewL.cons (View.same _ _) ViewL.nil)) rfl ?_
  simp (maxSteps := 1000000) -dsimp -implicitDefEqProofs only [go_sem, ↓reduceIte, keep7, ib7, mk7, Tryz.f7, Bool.true_or, Bool.or_true, Bool.false_or, Bool.or_false, protF, eq_self, decide_true, Bool.not_true, bne_self_eq_false, upd_upd, upd_get, OV.map_val, OV.map_val_nil, OV.val_v, DService.c_eq, enx0_nw0, fnx0_nw0, eng_nx0, fng_nx0, eng_nw0, fng_nw0, oa0_0.flat, oa0_0.one, oa0_3.flat, oa0_3.one, oa0_4.flat, oa0_4.one, oa0_5.flat, oa0_5.one, oa0_6.flat, oa0_6.one, oa0_7.flat, oa0_7.one, oa0_8.flat, oa0_8.one, oa1_0.flat, oa1_0.one, og_0.flat, og_0.one, og_3.flat, og_3.one, og_4.flat, og_4.one, og_5.flat, og_5.one, og_6.flat, og_6.one, og_7.flat, og_7.one, og_8.flat, og_8.one]
  repeat' (with_reducible first | intro _ | refine And.intro ?_ ?_)
  all_goals try (first | exact ⟨_, Heap.le_refl _, rfl⟩ | exact ⟨_, Heap.le_refl _⟩)
  all_goals try omega
  have hct0 := DService.o_top a _ oe0
  refine HFnF.wc3 (mark_Service a [ya0_0, .v (.int .i64 a.fJob.fFunc), .v (.int .i64 a.fJob.fShared), ya0_3, ya0_4, ya0_5, ya0_6, ya0_7, ya0_8] (1 : Int) _ oe0 (by omega) (by omega) (Owns.up3 z3_nw0 ⟨dnx0_nw0, z3_nx0⟩ ⟨dng_nx0, dng_nw0, z3_ng⟩ H0x_3) nd0) H0x_3 z3_nw0 ⟨dnx0_nw0, z3_nx0⟩ ⟨dng_nx0, dng_nw0, z3_ng⟩ ?_
  rintro g4 cg4 z4_nw0 z4_nx0 z4_ng
  obtain ⟨cc0, hcc0⟩ : ∃ z : Int, z = (1 : Int) + ((OV.ctTop [ya0_0, .v (.int .i64 a.fJob.fFunc), .v (.int .i64 a.fJob.fShared), ya0_3, ya0_4, ya0_5, ya0_6, ya0_7, ya0_8] : Nat) : Int) := ⟨_, rfl⟩
  rw [← hcc0]
  have H1x_4 : Owns g4 ya1_0.rows := fun p hp => by
    have hm : p.1 ∈ namesOf ya1_0.rows := mem_namesOf.2 ⟨p.2, hp⟩
    rw [cg4.upto p.1 (fun hq => apx0_1 p.1 hq hm)]
    exact H1x_3 p hp
  have Hg_4 : Owns g4 (OV.rowsRow [yg_0, .v (.int .i64 (turnRes a k ns).1.fJob.fFunc), .v (.int .i64 (turnRes a k ns).1.fJob.fShared), yg_3, yg_4, yg_5, yg_6, yg_7, yg_8]) := fun p hp => by
    have hm : p.1 ∈ namesOf (OV.rowsRow [yg_0, .v (.int .i64 (turnRes a k ns).1.fJob.fFunc), .v (.int .i64 (turnRes a k ns).1.fJob.fShared), yg_3, yg_4, yg_5, yg_6, yg_7, yg_8]) := mem_namesOf.2 ⟨p.2, hp⟩
    rw [cg4.upto p.1 (fun hq => apH0x p.1 hq hm)]
    exact Hg_3 p hp
  simp (maxSteps := 1000000) -dsimp -implicitDefEqProofs only [go_sem, ↓reduceIte, keep7, ib7, mk7, Tryz.f7, Bool.true_or, Bool.or_true, Bool.false_or, Bool.or_false, protF, eq_self, decide_true, Bool.not_true, bne_self_eq_false, upd_upd, upd_get, OV.map_val, OV.map_val_nil, OV.val_v, DService.c_eq, enx0_nw0, fnx0_nw0, eng_nx0, fng_nx0, eng_nw0, fng_nw0, oa0_0.flat, oa0_0.one, oa0_3.flat, oa0_3.one, oa0_4.flat, oa0_4.one, oa0_5.flat, oa0_5.one, oa0_6.flat, oa0_6.one, oa0_7.flat, oa0_7.one, oa0_8.flat, oa0_8.one, oa1_0.flat, oa1_0.one, og_0.flat, og_0.one, og_3.flat, og_3.one, og_4.flat, og_4.one, og_5.flat, og_5.one, og_6.flat, og_6.one, og_7.flat, og_7.one, og_8.flat, og_8.one]
  repeat' (with_reducible first | intro _ | refine And.intro ?_ ?_)
  all_goals try (first | exact ⟨_, Heap.le_refl _, rfl⟩ | exact ⟨_, Heap.le_refl _⟩)
  all_goals try omega
  have hct1 := oa1_0.ctP
  refine HFnF.wc3 (mark_Int64S ns ya1_0 cc0 _ oa1_0 (by omega) (by omega) (Owns.up3 z4_nw0 ⟨dnx0_nw0, z4_nx0⟩ ⟨dng_nx0, dng_nw0, z4_ng⟩ H1x_4) nd1) H1x_4 z4_nw0 ⟨dnx0_nw0, z4_nx0⟩ ⟨dng_nx0, dng_nw0, z4_ng⟩ ?_
  rintro g5 cg5 z5_nw0 z5_nx0 z5_ng
  obtain ⟨cc1, hcc1⟩ : ∃ z : Int, z = cc0 + ((ya1_0.ct : Nat) : Int) := ⟨_, rfl⟩
  rw [← hcc1]
  have Hg_5 : Owns g5 (OV.rowsRow [yg_0, .v (.int .i64 (turnRes a k ns).1.fJob.fFunc), .v (.int .i64 (turnRes a k ns).1.fJob.fShared), yg_3, yg_4, yg_5, yg_6, yg_7, yg_8]) := fun p hp => by
    have hm : p.1 ∈ namesOf (OV.rowsRow [yg_0, .v (.int .i64 (turnRes a k ns).1.fJob.fFunc), .v (.int .i64 (turnRes a k ns).1.fJob.fShared), yg_3, yg_4, yg_5, yg_6, yg_7, yg_8]) := mem_namesOf.2 ⟨p.2, hp⟩
    rw [cg5.upto p.1 (fun hq => apH1x p.1 hq hm)]
    exact Hg_4 p hp
  simp (maxSteps := 1000000) -dsimp -implicitDefEqProofs only [go_sem, ↓reduceIte, keep7, ib7, mk7, Tryz.f7, Bool.true_or, Bool.or_true, Bool.false_or, Bool.or_false, protF, eq_self, decide_true, Bool.not_true, bne_self_eq_false, upd_upd, upd_get, OV.map_val, OV.map_val_nil, OV.val_v, DService.c_eq, enx0_nw0, fnx0_nw0, eng_nx0, fng_nx0, eng_nw0, fng_nw0, oa0_0.flat, oa0_0.one, oa0_3.flat, oa0_3.one, oa0_4.flat, oa0_4.one, oa0_5.flat, oa0_5.one, oa0_6.flat, oa0_6.one, oa0_7.flat, oa0_7.one, oa0_8.flat, oa0_8.one, oa1_0.flat, oa1_0.one, og_0.flat, og_0.one, og_3.flat, og_3.one, og_4.flat, og_4.one, og_5.flat, og_5.one, og_6.flat, og_6.one, og_7.flat, og_7.one, og_8.flat, og_8.one]
  repeat' (with_reducible first | intro _ | refine And.intro ?_ ?_)
  all_goals try (first | exact ⟨_, Heap.le_refl _, rfl⟩ | exact ⟨_, Heap.le_refl _⟩)
  all_goals try omega
  refine HFnF.lend0 (eq_Service (turnRes a k ns).1 (turnRes a k ns).1) (ViewL.cons (View.aggD [yg_0, .v (.int .i64 (turnRes a k ns).1.fJob.fFunc), .v (.int .i64 (turnRes a k ns).1.fJob.fShared), yg_3, yg_4, yg_5, yg_6, yg_7, yg_8] (DService.o_dat oeg) (Owns.up3 z5_nw0 ⟨dnx0_nw0, z5_nx0⟩ ⟨dng_nx0, dng_nw0, z5_ng⟩ Hg_5)) (ViewL.cons (by first | exact View.same _ _ | (simp only [DService.c_eq]; exact View.same _ _)) ViewL.nil)) rfl ?_
  simp (maxSteps := 1000000) -dsimp -implicitDefEqProofs only [go_sem, ↓reduceIte, keep7, ib7, mk7, Tryz.f7, Bool.true_or, Bool.or_true, Bool.false_or, Bool.or_false, protF, eq_self, decide_true, Bool.not_true, bne_self_eq_false, upd_upd, upd_get, OV.map_val, OV.map_val_nil, OV.val_v, DService.c_eq, enx0_nw0, fnx0_nw0, eng_nx0, fng_nx0, eng_nw0, fng_nw0, oa0_0.flat, oa0_0.one, oa0_3.flat, oa0_3.one, oa0_4.flat, oa0_4.one, oa0_5.flat, oa0_5.one, oa0_6.flat, oa0_6.one, oa0_7.flat, oa0_7.one, oa0_8.flat, oa0_8.one, oa1_0.flat, oa1_0.one, og_0.flat, og_0.one, og_3.flat, og_3.one, og_4.flat, og_4.one, og_5.flat, og_5.one, og_6.flat, og_6.one, og_7.flat, og_7.one, og_8.flat, og_8.one]
  repeat' (with_reducible first | intro _ | refine And.intro ?_ ?_)
  all_goals try (first | exact ⟨_, Heap.le_refl _, rfl⟩ | exact ⟨_, Heap.le_refl _⟩)
  all_goals try omega
  have hctg : OV.ctTop [yg_0, .v (.int .i64 (turnRes a k ns).1.fJob.fFunc), .v (.int .i64 (turnRes a k ns).1.fJob.fShared), yg_3, yg_4, yg_5, yg_6, yg_7, yg_8] ≤ 4000000000000000000 := by have h1 := DService.o_top _ _ oeg; have h2 := turnRes_s a k ns; omega
  refine HFnF.wc3 (mark_Service _ [yg_0, .v (.int .i64 (turnRes a k ns).1.fJob.fFunc), .v (.int .i64 (turnRes a k ns).1.fJob.fShared), yg_3, yg_4, yg_5, yg_6, yg_7, yg_8] 1 _ oeg (by omega) (by omega) (Owns.up3 z5_nw0 ⟨dnx0_nw0, z5_nx0⟩ ⟨dng_nx0, dng_nw0, z5_ng⟩ Hg_5) ndg) Hg_5 z5_nw0 ⟨dnx0_nw0, z5_nx0⟩ ⟨dng_nx0, dng_nw0, z5_ng⟩ ?_
  rintro g6 cg6 z6_nw0 z6_nx0 z6_ng
  obtain ⟨ccg, hccg⟩ : ∃ z : Int, z = 1 + ((OV.ctTop [yg_0, .v (.int .i64 (turnRes a k ns).1.fJob.fFunc), .v (.int .i64 (turnRes a k ns).1.fJob.fShared), yg_3, yg_4, yg_5, yg_6, yg_7, yg_8] : Nat) : Int) := ⟨_, rfl⟩
  rw [← hccg]
  simp (maxSteps := 1000000) -dsimp -implicitDefEqProofs only [go_sem, ↓reduceIte, keep7, ib7, mk7, Tryz.f7, Bool.true_or, Bool.or_true, Bool.false_or, Bool.or_false, protF, eq_self, decide_true, Bool.not_true, bne_self_eq_false, upd_upd, upd_get, OV.map_val, OV.map_val_nil, OV.val_v, DService.c_eq, enx0_nw0, fnx0_nw0, eng_nx0, fng_nx0, eng_nw0, fng_nw0, oa0_0.flat, oa0_0.one, oa0_3.flat, oa0_3.one, oa0_4.flat, oa0_4.one, oa0_5.flat, oa0_5.one, oa0_6.flat, oa0_6.one, oa0_7.flat, oa0_7.one, oa0_8.flat, oa0_8.one, oa1_0.flat, oa1_0.one, og_0.flat, og_0.one, og_3.flat, og_3.one, og_4.flat, og_4.one, og_5.flat, og_5.one, og_6.flat, og_6.one, og_7.flat, og_7.one, og_8.flat, og_8.one]
  repeat' (with_reducible first | intro _ | refine And.intro ?_ ?_)
  all_goals try (first | exact ⟨_, Heap.le_refl _, rfl⟩ | exact ⟨_, Heap.le_refl _⟩)
  all_goals try omega
  have hh := held_Service _ [yg_0, .v (.int .i64 (turnRes a k ns).1.fJob.fFunc), .v (.int .i64 (turnRes a k ns).1.fJob.fShared), yg_3, yg_4, yg_5, yg_6, yg_7, yg_8] 1 oeg (by omega) (by omega)
  rw [← hccg] at hh
  refine HFnF.lend0 hh (ViewL.cons (View.aggM 1 [yg_0, .v (.int .i64 (turnRes a k ns).1.fJob.fFunc), .v (.int .i64 (turnRes a k ns).1.fJob.fShared), yg_3, yg_4, yg_5, yg_6, yg_7, yg_8] (Owns.up3 z6_nw0 ⟨dnx0_nw0, z6_nx0⟩ ⟨dng_nx0, dng_nw0, z6_ng⟩ cg6.owns)) (ViewL.cons (View.same _ _) ViewL.nil)) rfl ?_
  simp (maxSteps := 1000000) -dsimp -implicitDefEqProofs only [go_sem, ↓reduceIte, keep7, ib7, mk7, Tryz.f7, Bool.true_or, Bool.or_true, Bool.false_or, Bool.or_false, protF, eq_self, decide_true, Bool.not_true, bne_self_eq_false, upd_upd, upd_get, OV.map_val, OV.map_val_nil, OV.val_v, DService.c_eq, enx0_nw0, fnx0_nw0, eng_nx0, fng_nx0, eng_nw0, fng_nw0, oa0_0.flat, oa0_0.one, oa0_3.flat, oa0_3.one, oa0_4.flat, oa0_4.one, oa0_5.flat, oa0_5.one, oa0_6.flat, oa0_6.one, oa0_7.flat, oa0_7.one, oa0_8.flat, oa0_8.one, oa1_0.flat, oa1_0.one, og_0.flat, og_0.one, og_3.flat, og_3.one, og_4.flat, og_4.one, og_5.flat, og_5.one, og_6.flat, og_6.one, og_7.flat, og_7.one, og_8.flat, og_8.one]
  repeat' (with_reducible first | intro _ | refine And.intro ?_ ?_)
  all_goals try (first | exact ⟨_, Heap.le_refl _, rfl⟩ | exact ⟨_, Heap.le_refl _⟩)
  all_goals try omega
  first | refine HFnF.mk (to_Service a hz_a) ?_ | refine CallSF.mk (to_Service a hz_a) ?_
  simp (maxSteps := 1000000) -dsimp -implicitDefEqProofs only [go_sem, ↓reduceIte, keep7, ib7, mk7, Tryz.f7, Bool.true_or, Bool.or_true, Bool.false_or, Bool.or_false, protF, eq_self, decide_true, Bool.not_true, bne_self_eq_false, upd_upd, upd_get, OV.map_val, OV.map_val_nil, OV.val_v, DService.c_eq, enx0_nw0, fnx0_nw0, eng_nx0, fng_nx0, eng_nw0, fng_nw0, oa0_0.flat, oa0_0.one, oa0_3.flat, oa0_3.one, oa0_4.flat, oa0_4.one, oa0_5.flat, oa0_5.one, oa0_6.flat, oa0_6.one, oa0_7.flat, oa0_7.one, oa0_8.flat, oa0_8.one, oa1_0.flat, oa1_0.one, og_0.flat, og_0.one, og_3.flat, og_3.one, og_4.flat, og_4.one, og_5.flat, og_5.one, og_6.flat, og_6.one, og_7.flat, og_7.one, og_8.flat, og_8.one]
  repeat' (with_reducible first | intro _ | refine And.intro ?_ ?_)
  all_goals try trivial
  first | refine HFnF.mk (to_Int64S ns hz_ns) ?_ | refine CallSF.mk (to_Int64S ns hz_ns) ?_
  simp (maxSteps := 1000000) -dsimp -implicitDefEqProofs only [go_sem, ↓reduceIte, keep7, ib7, mk7, Tryz.f7, Bool.true_or, Bool.or_true, Bool.false_or, Bool.or_false, protF, eq_self, decide_true, Bool.not_true, bne_self_eq_false, upd_upd, upd_get, OV.map_val, OV.map_val_nil, OV.val_v, DService.c_eq, enx0_nw0, fnx0_nw0, eng_nx0, fng_nx0, eng_nw0, fng_nw0, oa0_0.flat, oa0_0.one, oa0_3.flat, oa0_3.one, oa0_4.flat, oa0_4.one, oa0_5.flat, oa0_5.one, oa0_6.flat, oa0_6.one, oa0_7.flat, oa0_7.one, oa0_8.flat, oa0_8.one, oa1_0.flat, oa1_0.one, og_0.flat, og_0.one, og_3.flat, og_3.one, og_4.flat, og_4.one, og_5.flat, og_5.one, og_6.flat, og_6.one, og_7.flat, og_7.one, og_8.flat, og_8.one]
  repeat' (with_reducible first | intro _ | refine And.intro ?_ ?_)
  all_goals try trivial
  first | refine HFnF.mk (hseal) ?_ | refine CallSF.mk (hseal) ?_
  simp (maxSteps := 1000000) -dsimp -implicitDefEqProofs only [go_sem, ↓reduceIte, keep7, ib7, mk7, Tryz.f7, Bool.true_or, Bool.or_true, Bool.false_or, Bool.or_false, protF, eq_self, decide_true, Bool.not_true, bne_self_eq_false, upd_upd, upd_get, OV.map_val, OV.map_val_nil, OV.val_v, DService.c_eq, enx0_nw0, fnx0_nw0, eng_nx0, fng_nx0, eng_nw0, fng_nw0, oa0_0.flat, oa0_0.one, oa0_3.flat, oa0_3.one, oa0_4.flat, oa0_4.one, oa0_5.flat, oa0_5.one, oa0_6.flat, oa0_6.one, oa0_7.flat, oa0_7.one, oa0_8.flat, oa0_8.one, oa1_0.flat, oa1_0.one, og_0.flat, og_0.one, og_3.flat, og_3.one, og_4.flat, og_4.one, og_5.flat, og_5.one, og_6.flat, og_6.one, og_7.flat, og_7.one, og_8.flat, og_8.one]
  intro nh qnh
  have dnh_ng : nh ≠ ng := fun e => by
    first
      | exact qnh.1 e
      | (rw [if_pos e] at qnh; cases qnh)
  have enh_ng : (nh = ng) = False := eq_false dnh_ng
  have fnh_ng : (ng = nh) = False := eq_false (fun e => dnh_ng e.symm)
  first
    | (rw [if_neg dnh_ng] at qnh)
    | (replace qnh := qnh.2)
  have dnh_nx0 : nh ≠ nx0 := fun e => by
    first
      | exact qnh.1 e
      | (rw [if_pos e] at qnh; cases qnh)
  have enh_nx0 : (nh = nx0) = False := eq_false dnh_nx0
  have fnh_nx0 : (nx0 = nh) = False := eq_false (fun e => dnh_nx0 e.symm)
  first
    | (rw [if_neg dnh_nx0] at qnh)
    | (replace qnh := qnh.2)
  have dnh_nw0 : nh ≠ nw0 := fun e => by
    first
      | exact qnh.1 e
      | (rw [if_pos e] at qnh; cases qnh)
  have enh_nw0 : (nh = nw0) = False := eq_false dnh_nw0
  have fnh_nw0 : (nw0 = nh) = False := eq_false (fun e => dnh_nw0 e.symm)
  first
    | (rw [if_neg dnh_nw0] at qnh)
    | (replace qnh := qnh.2)
  have z6_nh := qnh
  clear qnh
  try simp (maxSteps := 1000000) -dsimp -implicitDefEqProofs only [go_sem, ↓reduceIte, keep7, ib7, mk7, Tryz.f7, Bool.true_or, Bool.or_true, Bool.false_or, Bool.or_false, protF, eq_self, decide_true, Bool.not_true, bne_self_eq_false, upd_upd, upd_get, OV.map_val, OV.map_val_nil, OV.val_v, DService.c_eq, enx0_nw0, fnx0_nw0, eng_nx0, fng_nx0, eng_nw0, fng_nw0, enh_ng, fnh_ng, enh_nx0, fnh_nx0, enh_nw0, fnh_nw0, oa0_0.flat, oa0_0.one, oa0_3.flat, oa0_3.one, oa0_4.flat, oa0_4.one, oa0_5.flat, oa0_5.one, oa0_6.flat, oa0_6.one, oa0_7.flat, oa0_7.one, oa0_8.flat, oa0_8.one, oa1_0.flat, oa1_0.one, og_0.flat, og_0.one, og_3.flat, og_3.one, og_4.flat, og_4.one, og_5.flat, og_5.one, og_6.flat, og_6.one, og_7.flat, og_7.one, og_8.flat, og_8.one]
  refine HFnF.mk (eq_Service (turnRes a k ns).1 (turnRes a k ns).1) ?_
  simp (maxSteps := 1000000) -dsimp -implicitDefEqProofs only [go_sem, ↓reduceIte, keep7, ib7, mk7, Tryz.f7, Bool.true_or, Bool.or_true, Bool.false_or, Bool.or_false, protF, eq_self, decide_true, Bool.not_true, bne_self_eq_false, upd_upd, upd_get, OV.map_val, OV.map_val_nil, OV.val_v, DService.c_eq, enx0_nw0, fnx0_nw0, eng_nx0, fng_nx0, eng_nw0, fng_nw0, enh_ng, fnh_ng, enh_nx0, fnh_nx0, enh_nw0, fnh_nw0, oa0_0.flat, oa0_0.one, oa0_3.flat, oa0_3.one, oa0_4.flat, oa0_4.one, oa0_5.flat, oa0_5.one, oa0_6.flat, oa0_6.one, oa0_7.flat, oa0_7.one, oa0_8.flat, oa0_8.one, oa1_0.flat, oa1_0.one, og_0.flat, og_0.one, og_3.flat, og_3.one, og_4.flat, og_4.one, og_5.flat, og_5.one, og_6.flat, og_6.one, og_7.flat, og_7.one, og_8.flat, og_8.one]
  repeat' (with_reducible first | intro _ | refine And.intro ?_ ?_)
  all_goals try (first | exact ⟨_, Heap.le_refl _, rfl⟩ | exact ⟨_, Heap.le_refl _⟩)
  all_goals try omega
  have hh := held_Service _ [yg_0, .v (.int .i64 (turnRes a k ns).1.fJob.fFunc), .v (.int .i64 (turnRes a k ns).1.fJob.fShared), yg_3, yg_4, yg_5, yg_6, yg_7, yg_8] 1 oeg (by omega) (by omega)
  rw [← hccg] at hh
  refine HFnF.lend0 hh (ViewL.cons (View.aggM 1 [yg_0, .v (.int .i64 (turnRes a k ns).1.fJob.fFunc), .v (.int .i64 (turnRes a k ns).1.fJob.fShared), yg_3, yg_4, yg_5, yg_6, yg_7, yg_8] (Owns.up4 z6_nw0 ⟨dnx0_nw0, z6_nx0⟩ ⟨dng_nx0, dng_nw0, z6_ng⟩ ⟨dnh_ng, dnh_nx0, dnh_nw0, z6_nh⟩ cg6.owns)) (ViewL.cons (View.same _ _) ViewL.nil)) rfl ?_
  simp (maxSteps := 1000000) -dsimp -implicitDefEqProofs only [go_sem, ↓reduceIte, keep7, ib7, mk7, Tryz.f7, Bool.true_or, Bool.or_true, Bool.false_or, Bool.or_false, protF, eq_self, decide_true, Bool.not_true, bne_self_eq_false, upd_upd, upd_get, OV.map_val, OV.map_val_nil, OV.val_v, DService.c_eq, enx0_nw0, fnx0_nw0, eng_nx0, fng_nx0, eng_nw0, fng_nw0, enh_ng, fnh_ng, enh_nx0, fnh_nx0, enh_nw0, fnh_nw0, oa0_0.flat, oa0_0.one, oa0_3.flat, oa0_3.one, oa0_4.flat, oa0_4.one, oa0_5.flat, oa0_5.one, oa0_6.flat, oa0_6.one, oa0_7.flat, oa0_7.one, oa0_8.flat, oa0_8.one, oa1_0.flat, oa1_0.one, og_0.flat, og_0.one, og_3.flat, og_3.one, og_4.flat, og_4.one, og_5.flat, og_5.one, og_6.flat, og_6.one, og_7.flat, og_7.one, og_8.flat, og_8.one]
  repeat' (with_reducible first | intro _ | refine And.intro ?_ ?_)
  all_goals try (first | exact ⟨_, Heap.le_refl _, rfl⟩ | exact ⟨_, Heap.le_refl _⟩)
  all_goals try omega

open Go.Proofs
set_option linter.unusedVariables false
set_option linter.unusedSimpArgs false
theorem dat_i64 {P : Program} {n : Nat} {t : TypeId} {xs : List HVal} (hu : P.underlying t = some (.int .i64)) (h : Dat P n t xs) : ∃ i : Int, xs = [I i] ∧ InI i := by
  match n, h with
  | 0, h => exact h.elim
  | n + 1, h =>
    simp only [Dat, hu] at h
    obtain ⟨i, rfl, hw⟩ := h
    refine ⟨i, rfl, ?_⟩
    have h1 : IntKind.min .i64 = -9223372036854775808 := by decide
    have h2 : IntKind.max .i64 = 9223372036854775807 := by decide
    simp [Lit.wf, IntKind.has, h1, h2] at hw
    unfold InI
    omega
theorem dat_bool {P : Program} {n : Nat} {t : TypeId} {xs : List HVal} (hu : P.underlying t = some .bool) (h : Dat P n t xs) : ∃ b : Bool, xs = [.bool b] ∧ True := by
  match n, h with
  | 0, h => exact h.elim
  | n + 1, h =>
    simp only [Dat, hu] at h
    obtain ⟨b, rfl⟩ := h
    exact ⟨b, rfl, trivial⟩
theorem dat_str {P : Program} {n : Nat} {t : TypeId} {xs : List HVal} (hu : P.underlying t = some .string) (h : Dat P n t xs) : ∃ s : List UInt8, xs = [.str s] ∧ True := by
  match n, h with
  | 0, h => exact h.elim
  | n + 1, h =>
    simp only [Dat, hu] at h
    obtain ⟨b, rfl⟩ := h
    exact ⟨b, rfl, trivial⟩
theorem list_of {α : Type} {c : α → List HVal} {w : α → Prop} : ∀ {es : List (List HVal)}, (∀ y ∈ es, ∃ x, y = c x ∧ w x) → ∃ l : List α, es = l.map c ∧ ∀ x ∈ l, w x
  | [], _ => ⟨[], rfl, by simp⟩
  | e :: es, h => by
    obtain ⟨x, rfl, hx⟩ := h _ List.mem_cons_self
    obtain ⟨l, rfl, hl⟩ := list_of fun y hy => h y (List.mem_cons_of_mem _ hy)
    refine ⟨x :: l, rfl, fun y hy => ?_⟩
    rcases List.mem_cons.1 hy with rfl | hy
    · exact hx
    · exact hl y hy
theorem dat_slice {P : Program} {n sz : Nat} {t e : TypeId} {α : Type} {c : α → List HVal} {w : α → Prop} {xs : List HVal} (hu : P.underlying t = some (.slice e)) (hc : P.cellsOf e = sz) (h : Dat P n t xs)
    (hx : ∀ m y, m < n → Dat P m e y → ∃ x, y = c x ∧ w x) : ∃ l : List α, xs = [sls sz c l] ∧ ∀ x ∈ l, w x := by
  match n, h with
  | 0, h => exact h.elim
  | n + 1, h =>
    simp only [Dat, hu] at h
    obtain ⟨es, rfl, hes⟩ := h
    obtain ⟨l, rfl, hl⟩ := list_of fun y hy => hx n y (by omega) (hes y hy)
    exact ⟨l, by rw [hc], hl⟩
theorem drop_split {α : Type} {xs c r : List α} {o n o' : Nat} (h : (xs.drop o).take n = c) (hr : xs.drop o' = r) (ho : o + n = o') : xs.drop o = c ++ r := by
  rw [← hr, ← ho, ← List.drop_drop, ← h, List.take_append_drop]
theorem cells32 : Tryz.prog.cellsOf 32 = 9 := by kernel_rfl
theorem cells2 : Tryz.prog.cellsOf 2 = 1 := by kernel_rfl
theorem cells159 : Tryz.prog.cellsOf 159 = 1 := by kernel_rfl
theorem cells189 : Tryz.prog.cellsOf 189 = 5 := by kernel_rfl
theorem cells9 : Tryz.prog.cellsOf 9 = 1 := by kernel_rfl
theorem cells161 : Tryz.prog.cellsOf 161 = 3 := by kernel_rfl
theorem cells22 : Tryz.prog.cellsOf 22 = 1 := by kernel_rfl
theorem cells24 : Tryz.prog.cellsOf 24 = 1 := by kernel_rfl
theorem cells25 : Tryz.prog.cellsOf 25 = 1 := by kernel_rfl
theorem cells26 : Tryz.prog.cellsOf 26 = 1 := by kernel_rfl
theorem cells28 : Tryz.prog.cellsOf 28 = 5 := by kernel_rfl
theorem cells72 : Tryz.prog.cellsOf 72 = 3 := by kernel_rfl
theorem cells29 : Tryz.prog.cellsOf 29 = 1 := by kernel_rfl
theorem cells4 : Tryz.prog.cellsOf 4 = 1 := by kernel_rfl
theorem cells30 : Tryz.prog.cellsOf 30 = 1 := by kernel_rfl
set_option maxRecDepth 100000 in
theorem dat_189 : ∀ {n : Nat} {xs : List HVal}, Dat Tryz.prog n 189 xs → ∃ x : DExpr, xs = x.c ∧ x.wf
  | 0, _, h => h.elim
  | n + 1, xs, h => by
    simp only [Dat, Tryz.underlying189] at h
    obtain ⟨hl, hf⟩ := h
    rw [cells189] at hl
    have f0 : Dat Tryz.prog n 2 ((xs.drop 0).take (Tryz.prog.cellsOf 2)) := hf 0 _ rfl
    rw [cells2] at f0
    obtain ⟨x0, e0, w0⟩ := (dat_i64 Tryz.underlying2 f0)
    have f1 : Dat Tryz.prog n 2 ((xs.drop 1).take (Tryz.prog.cellsOf 2)) := hf 1 _ rfl
    rw [cells2] at f1
    obtain ⟨x1, e1, w1⟩ := (dat_i64 Tryz.underlying2 f1)
    have f2 : Dat Tryz.prog n 2 ((xs.drop 2).take (Tryz.prog.cellsOf 2)) := hf 2 _ rfl
    rw [cells2] at f2
    obtain ⟨x2, e2, w2⟩ := (dat_i64 Tryz.underlying2 f2)
    have f3 : Dat Tryz.prog n 2 ((xs.drop 3).take (Tryz.prog.cellsOf 2)) := hf 3 _ rfl
    rw [cells2] at f3
    obtain ⟨x3, e3, w3⟩ := (dat_i64 Tryz.underlying2 f3)
    have f4 : Dat Tryz.prog n 159 ((xs.drop 4).take (Tryz.prog.cellsOf 159)) := hf 4 _ rfl
    rw [cells159] at f4
    obtain ⟨x4, e4, w4⟩ := (dat_slice (c := DExpr.c) (w := (fun x => x.wf)) Tryz.underlying159 cells189 f4 (fun m y hm hy => (dat_189 hy)))
    have r5 : xs.drop 5 = [] := List.drop_eq_nil_of_le (by omega)
    have r4 := drop_split e4 r5 rfl
    have r3 := drop_split e3 r4 rfl
    have r2 := drop_split e2 r3 rfl
    have r1 := drop_split e1 r2 rfl
    have r0 := drop_split e0 r1 rfl
    exact ⟨.mk x0 x1 x2 x3 x4, by rw [DExpr.c_eq]; exact r0, .mk _ w0 w1 w2 w3 w4⟩
termination_by n => n
decreasing_by all_goals omega
set_option maxRecDepth 100000 in
theorem dat_161 : ∀ {n : Nat} {xs : List HVal}, Dat Tryz.prog n 161 xs → ∃ x : DFunc, xs = x.c ∧ x.wf
  | 0, _, h => h.elim
  | n + 1, xs, h => by
    simp only [Dat, Tryz.underlying161] at h
    obtain ⟨hl, hf⟩ := h
    rw [cells161] at hl
    have f0 : Dat Tryz.prog n 9 ((xs.drop 0).take (Tryz.prog.cellsOf 9)) := hf 0 _ rfl
    rw [cells9] at f0
    obtain ⟨x0, e0, w0⟩ := (dat_str Tryz.underlying9 f0)
    have f1 : Dat Tryz.prog n 2 ((xs.drop 1).take (Tryz.prog.cellsOf 2)) := hf 1 _ rfl
    rw [cells2] at f1
    obtain ⟨x1, e1, w1⟩ := (dat_i64 Tryz.underlying2 f1)
    have f2 : Dat Tryz.prog n 159 ((xs.drop 2).take (Tryz.prog.cellsOf 159)) := hf 2 _ rfl
    rw [cells159] at f2
    obtain ⟨x2, e2, w2⟩ := (dat_slice (c := DExpr.c) (w := (fun x => x.wf)) Tryz.underlying159 cells189 f2 (fun m y hm hy => (dat_189 hy)))
    have r3 : xs.drop 3 = [] := List.drop_eq_nil_of_le (by omega)
    have r2 := drop_split e2 r3 rfl
    have r1 := drop_split e1 r2 rfl
    have r0 := drop_split e0 r1 rfl
    exact ⟨⟨x0, x1, x2⟩, r0, ⟨w1, w2⟩⟩
set_option maxRecDepth 100000 in
theorem dat_24 : ∀ {n : Nat} {xs : List HVal}, Dat Tryz.prog n 24 xs → ∃ x : DProgram, xs = x.c ∧ x.wf
  | 0, _, h => h.elim
  | n + 1, xs, h => by
    simp only [Dat, Tryz.underlying24] at h
    obtain ⟨hl, hf⟩ := h
    rw [cells24] at hl
    have f0 : Dat Tryz.prog n 22 ((xs.drop 0).take (Tryz.prog.cellsOf 22)) := hf 0 _ rfl
    rw [cells22] at f0
    obtain ⟨x0, e0, w0⟩ := (dat_slice (c := DFunc.c) (w := (fun x => x.wf)) Tryz.underlying22 cells161 f0 (fun m y hm hy => (dat_161 hy)))
    have r1 : xs.drop 1 = [] := List.drop_eq_nil_of_le (by omega)
    have r0 := drop_split e0 r1 rfl
    exact ⟨⟨x0⟩, r0, w0⟩
set_option maxRecDepth 100000 in
theorem dat_28 : ∀ {n : Nat} {xs : List HVal}, Dat Tryz.prog n 28 xs → ∃ x : DJob, xs = x.c ∧ x.wf
  | 0, _, h => h.elim
  | n + 1, xs, h => by
    simp only [Dat, Tryz.underlying28] at h
    obtain ⟨hl, hf⟩ := h
    rw [cells28] at hl
    have f0 : Dat Tryz.prog n 24 ((xs.drop 0).take (Tryz.prog.cellsOf 24)) := hf 0 _ rfl
    rw [cells24] at f0
    obtain ⟨x0, e0, w0⟩ := (dat_24 f0)
    have f1 : Dat Tryz.prog n 2 ((xs.drop 1).take (Tryz.prog.cellsOf 2)) := hf 1 _ rfl
    rw [cells2] at f1
    obtain ⟨x1, e1, w1⟩ := (dat_i64 Tryz.underlying2 f1)
    have f2 : Dat Tryz.prog n 2 ((xs.drop 2).take (Tryz.prog.cellsOf 2)) := hf 2 _ rfl
    rw [cells2] at f2
    obtain ⟨x2, e2, w2⟩ := (dat_i64 Tryz.underlying2 f2)
    have f3 : Dat Tryz.prog n 25 ((xs.drop 3).take (Tryz.prog.cellsOf 25)) := hf 3 _ rfl
    rw [cells25] at f3
    obtain ⟨x3, e3, w3⟩ := (dat_slice (c := (fun n => [I n])) (w := (fun x => InI x)) Tryz.underlying25 cells2 f3 (fun m y hm hy => (dat_i64 Tryz.underlying2 hy)))
    have f4 : Dat Tryz.prog n 26 ((xs.drop 4).take (Tryz.prog.cellsOf 26)) := hf 4 _ rfl
    rw [cells26] at f4
    obtain ⟨x4, e4, w4⟩ := (dat_slice (c := (fun x => [sls 1 (fun n => [I n]) x])) (w := (fun x => (∀ y ∈ x, InI y))) Tryz.underlying26 cells25 f4 (fun m y hm hy => (dat_slice (c := (fun n => [I n])) (w := (fun x => InI x)) Tryz.underlying25 cells2 hy (fun m y hm hy => (dat_i64 Tryz.underlying2 hy)))))
    have r5 : xs.drop 5 = [] := List.drop_eq_nil_of_le (by omega)
    have r4 := drop_split e4 r5 rfl
    have r3 := drop_split e3 r4 rfl
    have r2 := drop_split e2 r3 rfl
    have r1 := drop_split e1 r2 rfl
    have r0 := drop_split e0 r1 rfl
    exact ⟨⟨x0, x1, x2, x3, x4⟩, r0, ⟨w0, w1, w2, w3, w4⟩⟩
set_option maxRecDepth 100000 in
theorem dat_72 : ∀ {n : Nat} {xs : List HVal}, Dat Tryz.prog n 72 xs → ∃ x : DPart, xs = x.c ∧ x.wf
  | 0, _, h => h.elim
  | n + 1, xs, h => by
    simp only [Dat, Tryz.underlying72] at h
    obtain ⟨hl, hf⟩ := h
    rw [cells72] at hl
    have f0 : Dat Tryz.prog n 2 ((xs.drop 0).take (Tryz.prog.cellsOf 2)) := hf 0 _ rfl
    rw [cells2] at f0
    obtain ⟨x0, e0, w0⟩ := (dat_i64 Tryz.underlying2 f0)
    have f1 : Dat Tryz.prog n 2 ((xs.drop 1).take (Tryz.prog.cellsOf 2)) := hf 1 _ rfl
    rw [cells2] at f1
    obtain ⟨x1, e1, w1⟩ := (dat_i64 Tryz.underlying2 f1)
    have f2 : Dat Tryz.prog n 25 ((xs.drop 2).take (Tryz.prog.cellsOf 25)) := hf 2 _ rfl
    rw [cells25] at f2
    obtain ⟨x2, e2, w2⟩ := (dat_slice (c := (fun n => [I n])) (w := (fun x => InI x)) Tryz.underlying25 cells2 f2 (fun m y hm hy => (dat_i64 Tryz.underlying2 hy)))
    have r3 : xs.drop 3 = [] := List.drop_eq_nil_of_le (by omega)
    have r2 := drop_split e2 r3 rfl
    have r1 := drop_split e1 r2 rfl
    have r0 := drop_split e0 r1 rfl
    exact ⟨⟨x0, x1, x2⟩, r0, ⟨w0, w1, w2⟩⟩
set_option maxRecDepth 100000 in
theorem dat_32 : ∀ {n : Nat} {xs : List HVal}, Dat Tryz.prog n 32 xs → ∃ x : DService, xs = x.c ∧ x.wf
  | 0, _, h => h.elim
  | n + 1, xs, h => by
    simp only [Dat, Tryz.underlying32] at h
    obtain ⟨hl, hf⟩ := h
    rw [cells32] at hl
    have f0 : Dat Tryz.prog n 28 ((xs.drop 0).take (Tryz.prog.cellsOf 28)) := hf 0 _ rfl
    rw [cells28] at f0
    obtain ⟨x0, e0, w0⟩ := (dat_28 f0)
    have f1 : Dat Tryz.prog n 25 ((xs.drop 5).take (Tryz.prog.cellsOf 25)) := hf 1 _ rfl
    rw [cells25] at f1
    obtain ⟨x1, e1, w1⟩ := (dat_slice (c := (fun n => [I n])) (w := (fun x => InI x)) Tryz.underlying25 cells2 f1 (fun m y hm hy => (dat_i64 Tryz.underlying2 hy)))
    have f2 : Dat Tryz.prog n 29 ((xs.drop 6).take (Tryz.prog.cellsOf 29)) := hf 2 _ rfl
    rw [cells29] at f2
    obtain ⟨x2, e2, w2⟩ := (dat_slice (c := (fun b => [.bool b])) (w := (fun _ => True)) Tryz.underlying29 cells4 f2 (fun m y hm hy => (dat_bool Tryz.underlying4 hy)))
    have f3 : Dat Tryz.prog n 30 ((xs.drop 7).take (Tryz.prog.cellsOf 30)) := hf 3 _ rfl
    rw [cells30] at f3
    obtain ⟨x3, e3, w3⟩ := (dat_slice (c := DPart.c) (w := (fun x => x.wf)) Tryz.underlying30 cells72 f3 (fun m y hm hy => (dat_72 hy)))
    have f4 : Dat Tryz.prog n 25 ((xs.drop 8).take (Tryz.prog.cellsOf 25)) := hf 4 _ rfl
    rw [cells25] at f4
    obtain ⟨x4, e4, w4⟩ := (dat_slice (c := (fun n => [I n])) (w := (fun x => InI x)) Tryz.underlying25 cells2 f4 (fun m y hm hy => (dat_i64 Tryz.underlying2 hy)))
    have r5 : xs.drop 9 = [] := List.drop_eq_nil_of_le (by omega)
    have r4 := drop_split e4 r5 rfl
    have r3 := drop_split e3 r4 rfl
    have r2 := drop_split e2 r3 rfl
    have r1 := drop_split e1 r2 rfl
    have r0 := drop_split e0 r1 rfl
    exact ⟨⟨x0, x1, x2, x3, x4⟩, r0, ⟨w0, w1, w3, w4⟩⟩
def datT : List TypeId := [2, 4, 9, 22, 24, 25, 26, 28, 29, 30, 32, 72, 74, 159, 161, 189]
theorem datT_ok : datB Tryz.prog datT = true := by kernel_rfl

end Go.Hl

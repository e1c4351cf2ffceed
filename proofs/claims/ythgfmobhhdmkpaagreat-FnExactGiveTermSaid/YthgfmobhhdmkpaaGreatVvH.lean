/-
  Contracts of functions and laws of the layer over the walk.
-/
import Derived.Test.YthgfmobhhdmkpaaGreatVvG
import Derived.Test.YthgfmobhhdmkpaaGreatHlD
import Derived.Test.YthgfmobhhdmkpaaGreatVvD
import Derived.Test.YthgfmobhhdmkpaaGreatVvA
import Derived.Test.YthgfmobhhdmkpaaGreatVvB
namespace Go.Hl
open Go.Proofs
set_option linter.unusedVariables false
set_option linter.unusedSimpArgs false
def zService : DService := ⟨⟨⟨[]⟩, 0, 0, [], []⟩, [], [], [], []⟩
theorem zService_o : ZeroO zService.o [(.nilsl), (.int .i64 0), (.int .i64 0), (.nilsl), (.nilsl), (.nilsl), (.nilsl), (.nilsl), (.nilsl)] := ⟨[(.nil 3), .v (.int .i64 0), .v (.int .i64 0), (.nil 1), (.nil 1), (.nil 1), (.nil 1), (.nil 3), (.nil 1)], ⟨(.nil 3), (.nil 1), (.nil 1), (.nil 1), (.nil 1), (.nil 3), (.nil 1), rfl, OS.nil, OS.nil, OS.nil, OS.nil, OS.nil, OS.nil, OS.nil⟩, rfl, Sub.agg (SubL.cons (Sub.nil _ _) (SubL.cons (Sub.refl _) (SubL.cons (Sub.refl _) (SubL.cons (Sub.nil _ _) (SubL.cons (Sub.nil _ _) (SubL.cons (Sub.nil _ _) (SubL.cons (Sub.nil _ _) (SubL.cons (Sub.nil _ _) (SubL.cons (Sub.nil _ _) SubL.nil)))))))))⟩

open Go.Proofs
set_option linter.unusedVariables false
set_option linter.unusedSimpArgs false
def workerOK (w : Int) : Prop := 0 ≤ w ∧ w ≤ 3
noncomputable instance (w : Int) : Decidable (workerOK w) := Classical.propDecidable _
def keep80 : List Nat := [0, 2]
def ib80 : List Nat := []
def mk80 : Marks := fun _ => ([], .nil, [])
theorem isWorker (w : Int) : Fn0 Tryz.prog 80 [I w] (.bool (decide (workerOK w))) := by
  refine fn0F 5 keep80 ib80 mk80 mix Tryz.func80 rfl (by kernel_rfl) (by simp) fun h => ?_
  simp (maxSteps := 1000000) -dsimp -implicitDefEqProofs only [go_sem, ↓reduceIte, keep80, ib80, mk80, Tryz.f80]
  first | refine HFnF.mk (within w 0 3) ?_ | refine CallSF.mk (within w 0 3) ?_ | refine HFnF.mkAt (within w 0 3) ?_ | refine CallSF.mk (FnAt.fn0 (within w 0 3)) ?_
  simp (maxSteps := 1000000) -dsimp -implicitDefEqProofs only [go_sem, ↓reduceIte, keep80, ib80, mk80, Tryz.f80]
  exact decide_eq_decide.2 Iff.rfl
open Go.Proofs
set_option linter.unusedVariables false
set_option linter.unusedSimpArgs false
def termOK (j : DJob) (k : Int) : Prop := 0 ≤ k ∧ k ≤ (j.fTerms.length : Int) - 1
noncomputable instance (j : DJob) (k : Int) : Decidable (termOK j k) := Classical.propDecidable _
def freeOK (s : DService) (k : Int) : Prop := s.fKnown[k.toNat]? = some false ∧ s.fOwners[k.toNat]? = some (-1)
noncomputable instance (s : DService) (k : Int) : Decidable (freeOK s k) := Classical.propDecidable _
def giveS (s : DService) (k w : Int) : DService := { s with fOwners := s.fOwners.set k.toNat w }
noncomputable def giveRes (s : DService) (k w : Int) : DService × Int := if s.ok then (if termOK s.fJob k ∧ workerOK w then (if freeOK s k then (giveS s k w, 0) else (zService, 4)) else (zService, 2)) else (zService, 1)
theorem giveRes_1 {s : DService} {k w : Int} (h : ¬ s.ok) : giveRes s k w = (zService, 1) := if_neg h
theorem giveRes_2 {s : DService} {k w : Int} (h : s.ok) (h2 : ¬ (termOK s.fJob k ∧ workerOK w)) : giveRes s k w = (zService, 2) := by rw [giveRes, if_pos h, if_neg h2]
theorem giveRes_4 {s : DService} {k w : Int} (h : s.ok) (h2 : termOK s.fJob k ∧ workerOK w) (h3 : ¬ freeOK s k) : giveRes s k w = (zService, 4) := by rw [giveRes, if_pos h, if_pos h2, if_neg h3]
theorem giveRes_ok {s : DService} {k w : Int} (h : s.ok) (h2 : termOK s.fJob k ∧ workerOK w) (h3 : freeOK s k) : giveRes s k w = (giveS s k w, 0) := by rw [giveRes, if_pos h, if_pos h2, if_pos h3]
def keep85 : List Nat := [0, 1, 2, 4]
def ib85 : List Nat := [2]
def mk85 : Marks := fun _ => ([], .nil, [])
set_option maxRecDepth 100000 in
theorem has (j : DJob) (k : Int) (hl : j.fTerms.length ≤ 1048576) : Fn0 Tryz.prog 85 [.agg j.c, I k] (.bool (decide (termOK j k))) := by
  simp only [DJob.c_eq]
  refine fn0F 11 keep85 ib85 mk85 mix Tryz.func85 rfl (by kernel_rfl) (by simp) fun h => ?_
  simp (maxSteps := 1000000) -dsimp -implicitDefEqProofs only [go_sem, ↓reduceIte, keep85, ib85, mk85, Tryz.f85]
  intro _
  rw [IntWalk.i64_in _ (by omega)]
  first | refine HFnF.mk (within k 0 ((j.fTerms.length : Int) - 1)) ?_ | refine CallSF.mk (within k 0 ((j.fTerms.length : Int) - 1)) ?_ | refine HFnF.mkAt (within k 0 ((j.fTerms.length : Int) - 1)) ?_ | refine CallSF.mk (FnAt.fn0 (within k 0 ((j.fTerms.length : Int) - 1))) ?_
  simp (maxSteps := 1000000) -dsimp -implicitDefEqProofs only [go_sem, ↓reduceIte, keep85, ib85, mk85, Tryz.f85]
  exact decide_eq_decide.2 Iff.rfl
def keep121 : List Nat := [0, 1, 4]
def ib121 : List Nat := []
def mk121 : Marks := fun _ => ([], .nil, [])
set_option maxRecDepth 100000 in
theorem l08Term (j : DJob) (k : Int) (hl : j.fTerms.length ≤ 1048576) : Fn0 Tryz.prog 121 [.ip 5 [j.c] 0 0, I k] (.bool (decide (termOK j k))) := by
  simp only [DJob.c_eq]
  refine fn0F 13 keep121 ib121 mk121 mix Tryz.func121 rfl (by kernel_rfl) (by simp) fun h => ?_
  simp (maxSteps := 1000000) -dsimp -implicitDefEqProofs only [go_sem, ↓reduceIte, keep121, ib121, mk121, Tryz.f121]
  repeat' (with_reducible first | intro _ | refine And.intro ?_ ?_)
  all_goals try omega
  rw [IntWalk.i64_in _ (by omega)]
  first | refine HFnF.mk (l00In k 0 ((j.fTerms.length : Int) - 1)) ?_ | refine CallSF.mk (l00In k 0 ((j.fTerms.length : Int) - 1)) ?_ | refine HFnF.mkAt (l00In k 0 ((j.fTerms.length : Int) - 1)) ?_ | refine CallSF.mk (FnAt.fn0 (l00In k 0 ((j.fTerms.length : Int) - 1))) ?_
  simp (maxSteps := 1000000) -dsimp -implicitDefEqProofs only [go_sem, ↓reduceIte, keep121, ib121, mk121, Tryz.f121]
  exact decide_eq_decide.2 Iff.rfl
def keep31 : List Nat := [0, 1, 2, 3, 6, 7, 8, 9, 14, 26]
def ib31 : List Nat := [3]
def mk31 : Marks := fun _ => ([], .nil, [])
set_option maxRecDepth 100000 in
set_option maxHeartbeats 1000000 in
theorem GiveTerm (s : DService) (k w : Int) (hs : s.s ≤ 1048576) : FnN Tryz.prog 31 [.agg s.c, I k, I w] (QA (giveRes s k w).1.o (fun y => .tup [y, I (giveRes s k w).2])) := by
  have hs' := s.s_eq
  have hs2 := s.fJob.s_eq
  simp only [szs_eq] at hs' hs2
  have hok := ValidService s (by omega)
  have hcl := cloneService s hs
  have hhas := has s.fJob k (by omega)
  simp only [DService.c_eq, DJob.c_eq] at hok hcl hhas ⊢
  refine fnNF 49 keep31 ib31 mk31 mix Tryz.func31 rfl (by kernel_rfl) (by simp) fun h => ?_
  simp (maxSteps := 1000000) -dsimp -implicitDefEqProofs only [go_sem, ↓reduceIte, keep31, ib31, mk31, Tryz.f31]
  intro n4 z4
  try simp (maxSteps := 1000000) -dsimp -implicitDefEqProofs only [go_sem, ↓reduceIte, keep31, ib31, mk31, Tryz.f31]
  first | refine HFnF.mk (hok) ?_ | refine CallSF.mk (hok) ?_ | refine HFnF.mkAt (hok) ?_ | refine CallSF.mk (FnAt.fn0 (hok)) ?_
  simp (maxSteps := 1000000) -dsimp -implicitDefEqProofs only [go_sem, ↓reduceIte, keep31, ib31, mk31, Tryz.f31]
  refine ⟨fun hn => ?_, fun hy => ?_⟩
  · have hn' : ¬ s.ok := by simpa using hn
    rw [giveRes_1 hn']
    try simp (maxSteps := 1000000) -dsimp -implicitDefEqProofs only [go_sem, ↓reduceIte, keep31, ib31, mk31, Tryz.f31, upd_upd]
    exact own_zero zService_o (wsub_tup [] [_]) (by repeat' (first | exact Heap.le_refl _ | refine Heap.le_both ?_ | refine Heap.le_upd (by first | assumption | (rw [upd_ne _ _ _ _ (by assumption)]; assumption) | (rw [upd_ne _ _ _ _ (by assumption), upd_ne _ _ _ _ (by assumption)]; assumption) | (rw [upd_ne _ _ _ _ (by assumption), upd_ne _ _ _ _ (by assumption), upd_ne _ _ _ _ (by assumption)]; assumption)) ?_))
  have hy' : s.ok := by simpa using hy
  try simp (maxSteps := 1000000) -dsimp -implicitDefEqProofs only [go_sem, ↓reduceIte, keep31, ib31, mk31, Tryz.f31]
  first | refine HFnF.mk (hhas) ?_ | refine CallSF.mk (hhas) ?_ | refine HFnF.mkAt (hhas) ?_ | refine CallSF.mk (FnAt.fn0 (hhas)) ?_
  simp (maxSteps := 1000000) -dsimp -implicitDefEqProofs only [go_sem, ↓reduceIte, keep31, ib31, mk31, Tryz.f31]
  refine ⟨fun ht => ?_, fun ht => ?_⟩
  case refine_2 =>
    rw [giveRes_2 hy' fun q => ht q.1]
    try simp (maxSteps := 1000000) -dsimp -implicitDefEqProofs only [go_sem, ↓reduceIte, keep31, ib31, mk31, Tryz.f31, upd_upd]
    exact own_zero zService_o (wsub_tup [] [_]) (by repeat' (first | exact Heap.le_refl _ | refine Heap.le_both ?_ | refine Heap.le_upd (by first | assumption | (rw [upd_ne _ _ _ _ (by assumption)]; assumption) | (rw [upd_ne _ _ _ _ (by assumption), upd_ne _ _ _ _ (by assumption)]; assumption) | (rw [upd_ne _ _ _ _ (by assumption), upd_ne _ _ _ _ (by assumption), upd_ne _ _ _ _ (by assumption)]; assumption)) ?_))
  first | refine HFnF.mk (isWorker w) ?_ | refine CallSF.mk (isWorker w) ?_ | refine HFnF.mkAt (isWorker w) ?_ | refine CallSF.mk (FnAt.fn0 (isWorker w)) ?_
  simp (maxSteps := 1000000) -dsimp -implicitDefEqProofs only [go_sem, ↓reduceIte, keep31, ib31, mk31, Tryz.f31]
  refine ⟨fun hw => ?_, fun hw => ?_⟩
  · have hw' : ¬ workerOK w := by simpa using hw
    rw [giveRes_2 hy' fun q => hw' q.2]
    try simp (maxSteps := 1000000) -dsimp -implicitDefEqProofs only [go_sem, ↓reduceIte, keep31, ib31, mk31, Tryz.f31, upd_upd]
    exact own_zero zService_o (wsub_tup [] [_]) (by repeat' (first | exact Heap.le_refl _ | refine Heap.le_both ?_ | refine Heap.le_upd (by first | assumption | (rw [upd_ne _ _ _ _ (by assumption)]; assumption) | (rw [upd_ne _ _ _ _ (by assumption), upd_ne _ _ _ _ (by assumption)]; assumption) | (rw [upd_ne _ _ _ _ (by assumption), upd_ne _ _ _ _ (by assumption), upd_ne _ _ _ _ (by assumption)]; assumption)) ?_))
  have hw' : workerOK w := by simpa using hw
  have hk1 := ht.1
  have hk2 := ht.2
  have l1 := hy'.2.1.2.1
  have l2 := hy'.2.1.2.2.2
  have kn : k.toNat < s.fKnown.length := by omega
  have ko : k.toNat < s.fOwners.length := by omega
  have gk : s.fKnown[k.toNat]? = some s.fKnown[k.toNat] := List.getElem?_eq_getElem kn
  have go : s.fOwners[k.toNat]? = some s.fOwners[k.toNat] := List.getElem?_eq_getElem ko
  have hfree : freeOK s k ↔ s.fKnown[k.toNat] = false ∧ s.fOwners[k.toNat] = -1 := by rw [freeOK, gk, go]; simp
  cases hkn : s.fKnown[k.toNat] with
  | true =>
    rw [hkn] at gk
    rw [giveRes_4 hy' ⟨ht, hw'⟩ fun q => by rw [hfree, hkn] at q; simp at q]
    simp (maxSteps := 1000000) -dsimp -implicitDefEqProofs only [go_sem, ↓reduceIte, keep31, ib31, mk31, Tryz.f31, gk, go, upd_upd]
    exact ⟨hk1, by omega, own_zero zService_o (wsub_tup [] [_]) (by repeat' (first | exact Heap.le_refl _ | refine Heap.le_both ?_ | refine Heap.le_upd (by first | assumption | (rw [upd_ne _ _ _ _ (by assumption)]; assumption) | (rw [upd_ne _ _ _ _ (by assumption), upd_ne _ _ _ _ (by assumption)]; assumption) | (rw [upd_ne _ _ _ _ (by assumption), upd_ne _ _ _ _ (by assumption), upd_ne _ _ _ _ (by assumption)]; assumption)) ?_))⟩
  | false =>
    rw [hkn] at gk
    simp (maxSteps := 1000000) -dsimp -implicitDefEqProofs only [go_sem, ↓reduceIte, keep31, ib31, mk31, Tryz.f31, gk, go, upd_upd]
    refine ⟨hk1, by omega, hk1, by omega, fun hq => ?_, fun hq => ?_⟩
    · rw [giveRes_4 hy' ⟨ht, hw'⟩ fun q => by rw [hfree] at q; exact hq q.2]
      exact own_zero zService_o (wsub_tup [] [_]) (by repeat' (first | exact Heap.le_refl _ | refine Heap.le_both ?_ | refine Heap.le_upd (by first | assumption | (rw [upd_ne _ _ _ _ (by assumption)]; assumption) | (rw [upd_ne _ _ _ _ (by assumption), upd_ne _ _ _ _ (by assumption)]; assumption) | (rw [upd_ne _ _ _ _ (by assumption), upd_ne _ _ _ _ (by assumption), upd_ne _ _ _ _ (by assumption)]; assumption)) ?_))
    rw [giveRes_ok hy' ⟨ht, hw'⟩ (hfree.2 ⟨hkn, hq⟩)]
    refine HFnF.wn1 hcl z4 ?_
    rintro r l_ g ⟨e, oe, rfl, rfl⟩ wn z4
    have oe1 := oe
    obtain ⟨ys_0, ys_3, ys_4, ys_5, ys_6, ys_7, ys_8, rfl, os_0, os_3, os_4, os_5, os_6, os_7, os_8⟩ := oe1
    simp (maxSteps := 1000000) -dsimp -implicitDefEqProofs only [go_sem, ↓reduceIte, keep31, ib31, mk31, Tryz.f31, OV.map_val, OV.map_val_nil, OV.val_v, upd_upd, upd_ne, os_0.flat, os_0.one, os_3.flat, os_3.one, os_4.flat, os_4.one, os_5.flat, os_5.one, os_6.flat, os_6.one, os_7.flat, os_7.one, os_8.flat, os_8.one]
    intro n6 q_n6
    have d_n6_n4 : ¬ n6 = n4 := by first | exact q_n6.1 | exact q_n6 | exact q_n6.2.1 | exact q_n6.2 | exact q_n6.2.2.1 | exact q_n6.2.2 | exact q_n6.2.2.2.1 | exact q_n6.2.2.2 | exact q_n6.2.2.2.2.1 | exact q_n6.2.2.2.2 | exact q_n6.2.2.2.2.2.1 | exact q_n6.2.2.2.2.2 | exact q_n6.2.2.2.2.2.2.1 | exact q_n6.2.2.2.2.2.2 | exact q_n6.2.2.2.2.2.2.2.1 | exact q_n6.2.2.2.2.2.2.2 | exact q_n6.2.2.2.2.2.2.2.2.1 | exact q_n6.2.2.2.2.2.2.2.2 | exact q_n6.2.2.2.2.2.2.2.2.2.1 | exact q_n6.2.2.2.2.2.2.2.2.2 | exact q_n6.2.2.2.2.2.2.2.2.2.2.1 | exact q_n6.2.2.2.2.2.2.2.2.2.2 | exact q_n6.2.2.2.2.2.2.2.2.2.2.2.1 | exact q_n6.2.2.2.2.2.2.2.2.2.2.2 | exact q_n6.2.2.2.2.2.2.2.2.2.2.2.2.1 | exact q_n6.2.2.2.2.2.2.2.2.2.2.2.2 | exact q_n6.2.2.2.2.2.2.2.2.2.2.2.2.2.1 | exact q_n6.2.2.2.2.2.2.2.2.2.2.2.2.2
    have e_n6_n4 : (n6 = n4) = False := eq_false d_n6_n4
    have e_n4_n6 : (n4 = n6) = False := eq_false (Ne.symm d_n6_n4)
    have d_n4_n6 : ¬ n4 = n6 := Ne.symm d_n6_n4
    have z_n6 : g n6 = none := by first | exact q_n6.1 | exact q_n6 | exact q_n6.2.1 | exact q_n6.2 | exact q_n6.2.2.1 | exact q_n6.2.2 | exact q_n6.2.2.2.1 | exact q_n6.2.2.2 | exact q_n6.2.2.2.2.1 | exact q_n6.2.2.2.2 | exact q_n6.2.2.2.2.2.1 | exact q_n6.2.2.2.2.2 | exact q_n6.2.2.2.2.2.2.1 | exact q_n6.2.2.2.2.2.2 | exact q_n6.2.2.2.2.2.2.2.1 | exact q_n6.2.2.2.2.2.2.2 | exact q_n6.2.2.2.2.2.2.2.2.1 | exact q_n6.2.2.2.2.2.2.2.2 | exact q_n6.2.2.2.2.2.2.2.2.2.1 | exact q_n6.2.2.2.2.2.2.2.2.2 | exact q_n6.2.2.2.2.2.2.2.2.2.2.1 | exact q_n6.2.2.2.2.2.2.2.2.2.2 | exact q_n6.2.2.2.2.2.2.2.2.2.2.2.1 | exact q_n6.2.2.2.2.2.2.2.2.2.2.2 | exact q_n6.2.2.2.2.2.2.2.2.2.2.2.2.1 | exact q_n6.2.2.2.2.2.2.2.2.2.2.2.2 | exact q_n6.2.2.2.2.2.2.2.2.2.2.2.2.2.1 | exact q_n6.2.2.2.2.2.2.2.2.2.2.2.2.2
    rcases os_8.prim with ⟨rfl, h8⟩ | ⟨n8, rfl⟩
    · rw [h8] at ko; simp at ko
    have g8 := wn.getP [ys_0, .v (.int .i64 s.fJob.fFunc), .v (.int .i64 s.fJob.fShared), ys_3, ys_4, ys_5, ys_6, ys_7] (c := I)
    have d_n8_n4 : ¬ n8 = n4 := ne_of_none g8 z4
    have d_n4_n8 : ¬ n4 = n8 := Ne.symm d_n8_n4
    have e_n8_n4 : (n8 = n4) = False := eq_false d_n8_n4
    have e_n4_n8 : (n4 = n8) = False := eq_false d_n4_n8
    have d_n8_n6 : ¬ n8 = n6 := ne_of_none g8 z_n6
    have d_n6_n8 : ¬ n6 = n8 := Ne.symm d_n8_n6
    have e_n8_n6 : (n8 = n6) = False := eq_false d_n8_n6
    have e_n6_n8 : (n6 = n8) = False := eq_false d_n6_n8
    rw [OV.val_prim]
    simp (maxSteps := 1000000) -dsimp -implicitDefEqProofs only [go_sem, ↓reduceIte, keep31, ib31, mk31, Tryz.f31, OV.map_val, OV.map_val_nil, OV.val_v, upd_upd, upd_ne, os_0.flat, os_0.one, os_3.flat, os_3.one, os_4.flat, os_4.one, os_5.flat, os_5.one, os_6.flat, os_6.one, os_7.flat, os_7.one, os_8.flat, os_8.one, e_n4_n6, e_n4_n8, e_n6_n4, e_n6_n8, e_n8_n4, e_n8_n6, g8, gk, go]
    refine ⟨hk1, by omega, ?_⟩
    have hv : HVal.os n8 1 0 s.fOwners.length = (OV.sl n8 1 ((s.fOwners.set k.toNat w).map fun x => [.v (I x)])).val := by rw [OV.val_prim]; simp
    rw [hv, rowSet I]
    exact own_end (w := fun y => .tup [y, I 0]) (e := [ys_0, .v (.int .i64 s.fJob.fFunc), .v (.int .i64 s.fJob.fShared), ys_3, ys_4, ys_5, ys_6, ys_7] ++ [OV.sl n8 1 ((s.fOwners.set k.toNat w).map fun x => [.v (I x)])]) ⟨ys_0, ys_3, ys_4, ys_5, ys_6, ys_7, _, rfl, os_0, os_3, os_4, os_5, os_6, os_7, OS.mk (OR_map _)⟩ (wn.setP [ys_0, .v (.int .i64 s.fJob.fFunc), .v (.int .i64 s.fJob.fShared), ys_3, ys_4, ys_5, ys_6, ys_7] (l' := s.fOwners.set k.toNat w)) (by repeat' (first | exact Heap.le_refl _ | refine Heap.le_both ?_ | refine Heap.le_upd (by first | assumption | (rw [upd_ne _ _ _ _ (by assumption)]; assumption) | (rw [upd_ne _ _ _ _ (by assumption), upd_ne _ _ _ _ (by assumption)]; assumption) | (rw [upd_ne _ _ _ _ (by assumption), upd_ne _ _ _ _ (by assumption), upd_ne _ _ _ _ (by assumption)]; assumption)) ?_))
noncomputable def giveC (s : DService) (k w : Int) : DService × Int := if termOK s.fJob k ∧ workerOK w then (if freeOK s k then (giveS s k w, 0) else (s, 4)) else (s, 2)
theorem giveC_2 {s : DService} {k w : Int} (h2 : ¬ (termOK s.fJob k ∧ workerOK w)) : giveC s k w = (s, 2) := by rw [giveC, if_neg h2]
theorem giveC_4 {s : DService} {k w : Int} (h2 : termOK s.fJob k ∧ workerOK w) (h3 : ¬ freeOK s k) : giveC s k w = (s, 4) := by rw [giveC, if_pos h2, if_neg h3]
theorem giveC_ok {s : DService} {k w : Int} (h2 : termOK s.fJob k ∧ workerOK w) (h3 : freeOK s k) : giveC s k w = (giveS s k w, 0) := by rw [giveC, if_pos h2, if_pos h3]
def keep84 : List Nat := [0, 1, 2, 6, 17, 34]
def ib84 : List Nat := []
def mk84 : Marks := fun _ => ([], .nil, [])
set_option maxRecDepth 100000 in
set_option maxHeartbeats 1000000 in
theorem l08Give (s : DService) (k w : Int) (h0 g : Heap) (nb : Nat) (e : List OV) (oe : s.o e) (hnb : g nb = none) (wn : New h0 (OV.rowsRow e) g) (hs : s.s ≤ 1048576) (l1 : s.fKnown.length = s.fJob.fTerms.length) (l2 : s.fOwners.length = s.fJob.fTerms.length) :
    HFn Tryz.prog 84 [.op nb 9 0 0, I k, I w] (upd g nb (.row 9 (OV.cells [e]))) (BoxQ h0 nb 9 fun r e' => r = I (giveC s k w).2 ∧ (giveC s k w).1.o e') := by
  have hs' := s.s_eq
  have hs2 := s.fJob.s_eq
  simp only [szs_eq] at hs' hs2
  have hvw := View.box (sz := 9) (DService.o_dat oe) hnb wn.owns
  have htm := l08Term s.fJob k (by omega)
  have oe1 := oe
  obtain ⟨ys_0, ys_3, ys_4, ys_5, ys_6, ys_7, ys_8, rfl, os_0, os_3, os_4, os_5, os_6, os_7, os_8⟩ := oe1
  refine fnHF 42 keep84 ib84 mk84 mix Tryz.func84 rfl (by kernel_rfl) (by simp) ?_
  simp (maxSteps := 1000000) -dsimp -implicitDefEqProofs only [go_sem, ↓reduceIte, keep84, ib84, mk84, Tryz.f84]
  refine HFnF.lend0 htm (ViewL.cons (hvw.sub (Sub.ipAt rfl rfl rfl)) (ViewL.cons (View.same _ _) ViewL.nil)) rfl ?_
  simp (maxSteps := 1000000) -dsimp -implicitDefEqProofs only [go_sem, ↓reduceIte, keep84, ib84, mk84, Tryz.f84, OV.map_val, OV.map_val_nil, OV.val_v, upd_upd, upd_ne, os_0.flat, os_0.one, os_3.flat, os_3.one, os_4.flat, os_4.one, os_5.flat, os_5.one, os_6.flat, os_6.one, os_7.flat, os_7.one, os_8.flat, os_8.one]
  refine ⟨fun ht => ?_, fun ht => ?_⟩
  case refine_2 =>
    rw [giveC_2 fun q => ht q.1]
    exact ⟨_, Heap.le_refl _, _, g, ⟨rfl, oe⟩, rfl, hnb, wn⟩
  first | refine HFnF.mk (l00In w 0 3) ?_ | refine CallSF.mk (l00In w 0 3) ?_ | refine HFnF.mkAt (l00In w 0 3) ?_ | refine CallSF.mk (FnAt.fn0 (l00In w 0 3)) ?_
  simp (maxSteps := 1000000) -dsimp -implicitDefEqProofs only [go_sem, ↓reduceIte, keep84, ib84, mk84, Tryz.f84]
  refine ⟨fun hw => ?_, fun hw => ?_⟩
  · have hw' : ¬ workerOK w := by simpa [workerOK] using hw
    rw [giveC_2 fun q => hw' q.2]
    try simp (maxSteps := 1000000) -dsimp -implicitDefEqProofs only [go_sem, ↓reduceIte, keep84, ib84, mk84, Tryz.f84, OV.map_val, OV.map_val_nil, OV.val_v, upd_upd, upd_ne, os_0.flat, os_0.one, os_3.flat, os_3.one, os_4.flat, os_4.one, os_5.flat, os_5.one, os_6.flat, os_6.one, os_7.flat, os_7.one, os_8.flat, os_8.one]
    exact ⟨_, Heap.le_refl _, _, g, ⟨rfl, oe⟩, rfl, hnb, wn⟩
  have hw' : workerOK w := by simpa [workerOK] using hw
  have hk1 := ht.1
  have hk2 := ht.2
  have kn : k.toNat < s.fKnown.length := by omega
  have ko : k.toNat < s.fOwners.length := by omega
  have gk : s.fKnown[k.toNat]? = some s.fKnown[k.toNat] := List.getElem?_eq_getElem kn
  have go : s.fOwners[k.toNat]? = some s.fOwners[k.toNat] := List.getElem?_eq_getElem ko
  have hfree : freeOK s k ↔ s.fKnown[k.toNat] = false ∧ s.fOwners[k.toNat] = -1 := by rw [freeOK, gk, go]; simp
  rcases os_6.prim with ⟨rfl, h6⟩ | ⟨n6, rfl⟩
  · rw [h6] at kn; simp at kn
  rcases os_8.prim with ⟨rfl, h8⟩ | ⟨n8, rfl⟩
  · rw [h8] at ko; simp at ko
  have g6 := wn.getP [ys_0, .v (.int .i64 s.fJob.fFunc), .v (.int .i64 s.fJob.fShared), ys_3, ys_4, ys_5] (c := .bool)
  have g8 := wn.getP ([ys_0, .v (.int .i64 s.fJob.fFunc), .v (.int .i64 s.fJob.fShared), ys_3, ys_4, ys_5] ++ [OV.sl n6 1 (s.fKnown.map fun x => [.v (.bool x)]), ys_7]) (c := I)
  have d_n6_nb : ¬ n6 = nb := ne_of_none g6 hnb
  have d_nb_n6 : ¬ nb = n6 := Ne.symm d_n6_nb
  have e_n6_nb : (n6 = nb) = False := eq_false d_n6_nb
  have e_nb_n6 : (nb = n6) = False := eq_false d_nb_n6
  have d_n8_nb : ¬ n8 = nb := ne_of_none g8 hnb
  have d_nb_n8 : ¬ nb = n8 := Ne.symm d_n8_nb
  have e_n8_nb : (n8 = nb) = False := eq_false d_n8_nb
  have e_nb_n8 : (nb = n8) = False := eq_false d_nb_n8
  have hv6 := OV.val_prim HVal.bool n6 1 s.fKnown
  have hv8 := OV.val_prim I n8 1 s.fOwners
  cases hkn : s.fKnown[k.toNat] with
  | true =>
    rw [hkn] at gk
    rw [giveC_4 ⟨ht, hw'⟩ fun q => by rw [hfree, hkn] at q; simp at q]
    simp (maxSteps := 1000000) -dsimp -implicitDefEqProofs only [go_sem, ↓reduceIte, keep84, ib84, mk84, Tryz.f84, OV.map_val, OV.map_val_nil, OV.val_v, upd_upd, upd_ne, os_0.flat, os_0.one, os_3.flat, os_3.one, os_4.flat, os_4.one, os_5.flat, os_5.one, os_6.flat, os_6.one, os_7.flat, os_7.one, os_8.flat, os_8.one, e_nb_n6, e_n6_nb, e_nb_n8, e_n8_nb, cells_box, cellv_cons, cellv_nil, hv6, hv8, gk, go, g6, g8]
    exact ⟨hk1, by omega, _, Heap.le_refl _, _, g, ⟨rfl, oe⟩, by simp only [cells_box, cellv_cons, cellv_nil, OV.val_v, hv6, hv8], hnb, wn⟩
  | false =>
    rw [hkn] at gk
    simp (maxSteps := 1000000) -dsimp -implicitDefEqProofs only [go_sem, ↓reduceIte, keep84, ib84, mk84, Tryz.f84, OV.map_val, OV.map_val_nil, OV.val_v, upd_upd, upd_ne, os_0.flat, os_0.one, os_3.flat, os_3.one, os_4.flat, os_4.one, os_5.flat, os_5.one, os_6.flat, os_6.one, os_7.flat, os_7.one, os_8.flat, os_8.one, e_nb_n6, e_n6_nb, e_nb_n8, e_n8_nb, cells_box, cellv_cons, cellv_nil, hv6, hv8, gk, go, g6, g8]
    refine ⟨hk1, by omega, hk1, by omega, fun hq => ?_, fun hq => ⟨hk1, by omega, ?_⟩⟩
    · rw [giveC_4 ⟨ht, hw'⟩ fun q => by rw [hfree] at q; exact hq q.2]
      exact ⟨_, Heap.le_refl _, _, g, ⟨rfl, oe⟩, by simp only [cells_box, cellv_cons, cellv_nil, OV.val_v, hv6, hv8], hnb, wn⟩
    rw [giveC_ok ⟨ht, hw'⟩ (hfree.2 ⟨hkn, hq⟩)]
    refine ⟨_, Heap.le_refl _, _, _, ⟨rfl, ys_0, ys_3, ys_4, ys_5, _, ys_7, _, rfl, os_0, os_3, os_4, os_5, os_6, os_7, OS.mk (OR_map (s.fOwners.set k.toNat w))⟩, ?_, ?_, wn.setP ([ys_0, .v (.int .i64 s.fJob.fFunc), .v (.int .i64 s.fJob.fShared), ys_3, ys_4, ys_5] ++ [OV.sl n6 1 (s.fKnown.map fun x => [.v (.bool x)]), ys_7]) (l' := s.fOwners.set k.toNat w)⟩
    · rw [upd_swap d_nb_n8, rowSet I]
      simp only [cells_box, cellv_cons, cellv_nil, OV.val_v, hv6, OV.val_prim, List.length_set]
      rfl
    · rw [upd_ne _ _ _ _ d_nb_n8]; exact hnb
def keep30 : List Nat := [0, 1, 2, 3, 6, 7, 8, 9, 11, 18]
def ib30 : List Nat := [3]
def mk30 : Marks := fun _ => ([], .nil, [])
set_option maxRecDepth 100000 in
set_option maxHeartbeats 1000000 in
theorem specGiveTerm (s : DService) (k w : Int) (hs : s.s ≤ 1048576) : FnN Tryz.prog 30 [.agg s.c, I k, I w] (QA (giveRes s k w).1.o (fun y => .tup [y, I (giveRes s k w).2])) := by
  have hs' := s.s_eq
  have hs2 := s.fJob.s_eq
  simp only [szs_eq] at hs' hs2
  have hok := l08Ok s (by omega)
  have hcl := l08OwnService s hs
  simp only [DService.c_eq, DJob.c_eq] at hok hcl ⊢
  refine fnNF 22 keep30 ib30 mk30 mix Tryz.func30 rfl (by kernel_rfl) (by simp) fun h => ?_
  simp (maxSteps := 1000000) -dsimp -implicitDefEqProofs only [go_sem, ↓reduceIte, keep30, ib30, mk30, Tryz.f30]
  intro n4 z4
  have z4h := z4
  try simp (maxSteps := 1000000) -dsimp -implicitDefEqProofs only [go_sem, ↓reduceIte, keep30, ib30, mk30, Tryz.f30]
  first | refine HFnF.mk (hok) ?_ | refine CallSF.mk (hok) ?_ | refine HFnF.mkAt (hok) ?_ | refine CallSF.mk (FnAt.fn0 (hok)) ?_
  simp (maxSteps := 1000000) -dsimp -implicitDefEqProofs only [go_sem, ↓reduceIte, keep30, ib30, mk30, Tryz.f30]
  refine ⟨fun hn => ?_, fun hy => ?_⟩
  · have hn' : ¬ s.ok := by simpa using hn
    rw [giveRes_1 hn']
    try simp (maxSteps := 1000000) -dsimp -implicitDefEqProofs only [go_sem, ↓reduceIte, keep30, ib30, mk30, Tryz.f30, upd_upd]
    exact own_zero zService_o (wsub_tup [] [_]) (by repeat' (first | exact Heap.le_refl _ | refine Heap.le_both ?_ | refine Heap.le_upd (by first | assumption | (rw [upd_ne _ _ _ _ (by assumption)]; assumption) | (rw [upd_ne _ _ _ _ (by assumption), upd_ne _ _ _ _ (by assumption)]; assumption) | (rw [upd_ne _ _ _ _ (by assumption), upd_ne _ _ _ _ (by assumption), upd_ne _ _ _ _ (by assumption)]; assumption)) ?_))
  have hy' : s.ok := by simpa using hy
  try simp (maxSteps := 1000000) -dsimp -implicitDefEqProofs only [go_sem, ↓reduceIte, keep30, ib30, mk30, Tryz.f30]
  refine HFnF.wn1 hcl z4 ?_
  rintro r l_ g ⟨e, oe, rfl, rfl⟩ wn z4
  have oe1 := oe
  obtain ⟨ys_0, ys_3, ys_4, ys_5, ys_6, ys_7, ys_8, rfl, os_0, os_3, os_4, os_5, os_6, os_7, os_8⟩ := oe1
  simp (maxSteps := 1000000) -dsimp -implicitDefEqProofs only [go_sem, ↓reduceIte, keep30, ib30, mk30, Tryz.f30, OV.map_val, OV.map_val_nil, OV.val_v, upd_upd, upd_ne, os_0.flat, os_0.one, os_3.flat, os_3.one, os_4.flat, os_4.one, os_5.flat, os_5.one, os_6.flat, os_6.one, os_7.flat, os_7.one, os_8.flat, os_8.one]
  intro n6 q_n6
  have d_n6_n4 : ¬ n6 = n4 := by first | exact q_n6.1 | exact q_n6 | exact q_n6.2.1 | exact q_n6.2 | exact q_n6.2.2.1 | exact q_n6.2.2 | exact q_n6.2.2.2.1 | exact q_n6.2.2.2 | exact q_n6.2.2.2.2.1 | exact q_n6.2.2.2.2 | exact q_n6.2.2.2.2.2.1 | exact q_n6.2.2.2.2.2 | exact q_n6.2.2.2.2.2.2.1 | exact q_n6.2.2.2.2.2.2 | exact q_n6.2.2.2.2.2.2.2.1 | exact q_n6.2.2.2.2.2.2.2 | exact q_n6.2.2.2.2.2.2.2.2.1 | exact q_n6.2.2.2.2.2.2.2.2 | exact q_n6.2.2.2.2.2.2.2.2.2.1 | exact q_n6.2.2.2.2.2.2.2.2.2 | exact q_n6.2.2.2.2.2.2.2.2.2.2.1 | exact q_n6.2.2.2.2.2.2.2.2.2.2 | exact q_n6.2.2.2.2.2.2.2.2.2.2.2.1 | exact q_n6.2.2.2.2.2.2.2.2.2.2.2 | exact q_n6.2.2.2.2.2.2.2.2.2.2.2.2.1 | exact q_n6.2.2.2.2.2.2.2.2.2.2.2.2 | exact q_n6.2.2.2.2.2.2.2.2.2.2.2.2.2.1 | exact q_n6.2.2.2.2.2.2.2.2.2.2.2.2.2
  have e_n6_n4 : (n6 = n4) = False := eq_false d_n6_n4
  have e_n4_n6 : (n4 = n6) = False := eq_false (Ne.symm d_n6_n4)
  have d_n4_n6 : ¬ n4 = n6 := Ne.symm d_n6_n4
  have z_n6 : g n6 = none := by first | exact q_n6.1 | exact q_n6 | exact q_n6.2.1 | exact q_n6.2 | exact q_n6.2.2.1 | exact q_n6.2.2 | exact q_n6.2.2.2.1 | exact q_n6.2.2.2 | exact q_n6.2.2.2.2.1 | exact q_n6.2.2.2.2 | exact q_n6.2.2.2.2.2.1 | exact q_n6.2.2.2.2.2 | exact q_n6.2.2.2.2.2.2.1 | exact q_n6.2.2.2.2.2.2 | exact q_n6.2.2.2.2.2.2.2.1 | exact q_n6.2.2.2.2.2.2.2 | exact q_n6.2.2.2.2.2.2.2.2.1 | exact q_n6.2.2.2.2.2.2.2.2 | exact q_n6.2.2.2.2.2.2.2.2.2.1 | exact q_n6.2.2.2.2.2.2.2.2.2 | exact q_n6.2.2.2.2.2.2.2.2.2.2.1 | exact q_n6.2.2.2.2.2.2.2.2.2.2 | exact q_n6.2.2.2.2.2.2.2.2.2.2.2.1 | exact q_n6.2.2.2.2.2.2.2.2.2.2.2 | exact q_n6.2.2.2.2.2.2.2.2.2.2.2.2.1 | exact q_n6.2.2.2.2.2.2.2.2.2.2.2.2 | exact q_n6.2.2.2.2.2.2.2.2.2.2.2.2.2.1 | exact q_n6.2.2.2.2.2.2.2.2.2.2.2.2.2
  refine HFnF.mkH (l08Give s k w _ _ n6 _ oe (by rw [upd_ne _ _ _ _ d_n6_n4]; exact z_n6) (wn.over z4) hs (by have := hy'.2.1; omega) (by have := hy'.2.1; omega)) ?_
  rintro r h' ⟨e2, g2, ⟨rfl, oe2⟩, rfl, hg2, wn2⟩
  obtain ⟨g3, hle3, wn3, z43, rfl⟩ := wn2.base z4h
  have z63 : g3 n6 = none := by rwa [upd_ne _ _ _ _ d_n6_n4] at hg2
  clear wn oe os_0 os_3 os_4 os_5 os_6 os_7 os_8 wn2
  by_cases h2 : termOK s.fJob k ∧ workerOK w
  case neg =>
    rw [giveRes_2 hy' h2, giveC_2 h2]
    simp (maxSteps := 1000000) -dsimp -implicitDefEqProofs only [go_sem, ↓reduceIte, keep30, ib30, mk30, Tryz.f30, OV.map_val, OV.map_val_nil, OV.val_v, upd_upd, upd_ne, e_n4_n6, e_n6_n4]
    exact own_zero zService_o (wsub_tup [] [_]) (Heap.le_trans wn3.le (by repeat' (first | exact Heap.le_refl _ | refine Heap.le_both ?_ | refine Heap.le_upd (by first | assumption | (rw [upd_ne _ _ _ _ (by assumption)]; assumption) | (rw [upd_ne _ _ _ _ (by assumption), upd_ne _ _ _ _ (by assumption)]; assumption) | (rw [upd_ne _ _ _ _ (by assumption), upd_ne _ _ _ _ (by assumption), upd_ne _ _ _ _ (by assumption)]; assumption)) ?_)))
  by_cases h3 : freeOK s k
  case neg =>
    rw [giveRes_4 hy' h2 h3, giveC_4 h2 h3]
    simp (maxSteps := 1000000) -dsimp -implicitDefEqProofs only [go_sem, ↓reduceIte, keep30, ib30, mk30, Tryz.f30, OV.map_val, OV.map_val_nil, OV.val_v, upd_upd, upd_ne, e_n4_n6, e_n6_n4]
    exact own_zero zService_o (wsub_tup [] [_]) (Heap.le_trans wn3.le (by repeat' (first | exact Heap.le_refl _ | refine Heap.le_both ?_ | refine Heap.le_upd (by first | assumption | (rw [upd_ne _ _ _ _ (by assumption)]; assumption) | (rw [upd_ne _ _ _ _ (by assumption), upd_ne _ _ _ _ (by assumption)]; assumption) | (rw [upd_ne _ _ _ _ (by assumption), upd_ne _ _ _ _ (by assumption), upd_ne _ _ _ _ (by assumption)]; assumption)) ?_)))
  rw [giveC_ok h2 h3] at oe2 ⊢
  rw [giveRes_ok hy' h2 h3]
  have oe3 := oe2
  obtain ⟨yt_0, yt_3, yt_4, yt_5, yt_6, yt_7, yt_8, rfl, ot_0, ot_3, ot_4, ot_5, ot_6, ot_7, ot_8⟩ := oe3
  simp (maxSteps := 1000000) -dsimp -implicitDefEqProofs only [go_sem, ↓reduceIte, keep30, ib30, mk30, Tryz.f30, OV.map_val, OV.map_val_nil, OV.val_v, upd_upd, upd_ne, ot_0.flat, ot_0.one, ot_3.flat, ot_3.one, ot_4.flat, ot_4.one, ot_5.flat, ot_5.one, ot_6.flat, ot_6.one, ot_7.flat, ot_7.one, ot_8.flat, ot_8.one, e_n4_n6, e_n6_n4, cells_box, cellv_cons, cellv_nil]
  exact own_end (w := fun y => .tup [y, I 0]) oe2 wn3 (by repeat' (first | exact Heap.le_refl _ | refine Heap.le_both ?_ | refine Heap.le_upd (by first | assumption | (rw [upd_ne _ _ _ _ (by assumption)]; assumption) | (rw [upd_ne _ _ _ _ (by assumption), upd_ne _ _ _ _ (by assumption)]; assumption) | (rw [upd_ne _ _ _ _ (by assumption), upd_ne _ _ _ _ (by assumption), upd_ne _ _ _ _ (by assumption)]; assumption)) ?_))
theorem giveRes_s (s : DService) (k w : Int) : (giveRes s k w).1.s ≤ s.s := by
  unfold giveRes
  have hz : zService.s = 0 := rfl
  split <;> try split
  all_goals try split
  all_goals try (show zService.s ≤ _; omega)
  have h1 := s.s_eq
  have h2 := (giveS s k w).s_eq
  simp only [giveS, List.length_set] at h1 h2 ⊢
  omega
open Go.Proofs
set_option linter.unusedVariables false
set_option linter.unusedSimpArgs false


def keep144 : List Nat := [0, 1, 4, 5, 11, 15, 25]
def ib144 : List Nat := []
def mk144 : Marks := fun _ => ([], .nil, [])
set_option maxRecDepth 100000 in
theorem sz_ExprS (l : List DExpr) (left : Int) (h0 : 0 ≤ left) (h1 : left ≤ 1048576) (hc : ∀ x ∈ l, ∀ left : Int, 0 ≤ left → left ≤ 1048576 → Fn0 Tryz.prog 156 [(.agg (DExpr.c x)), I left] (I (lft left ((DExpr.s x))))) : Fn0 Tryz.prog 144 [sls 5 DExpr.c l, I left] (I (lft left (szs DExpr.s l))) := by
  refine fn0F 27 keep144 ib144 mk144 mix Tryz.func144 rfl (by kernel_rfl) (by simp) fun h => ?_
  simp -dsimp -implicitDefEqProofs only [go_sem, Tryz.f144, ↓reduceIte, keep144, ib144, mk144]
  intro hl
  rw [IntWalk.i64_in _ (by omega)]
  refine ⟨fun hn => ?_, fun hn => ?_⟩
  · exact (lft_neg (by rw [szs_eq]; omega)).symm
  · refine loopF (keep := keep144) (ib := ib144) (mk := mk144) mix (by kernel_rfl) (fun k : Nat => [(0, sls 5 DExpr.c l), (1, I (left - l.length - (((l.take k).map DExpr.s).sum : Int))), (5, I k)]) (fun _ => h) (fun k => k ≤ l.length ∧ 0 ≤ left - l.length - (((l.take k).map DExpr.s).sum : Int)) (fun k => l.length - k) 0 (by simp [SatL, tget, Heap.le_refl]; omega) ?_
    intro k ⟨hk, hb⟩
    rcases Nat.lt_or_ge k l.length with hlt | hge
    · have ea : l[k]? = some l[k] := List.getElem?_eq_getElem hlt
      simp -dsimp -implicitDefEqProofs only [go_sem, ↓reduceIte, keep144, ib144, mk144, Tryz.f144, ea, DExpr.c_eq]
      refine fun _ => ⟨fun _ => ⟨hlt, ?_⟩, fun hn => absurd hlt hn⟩
      have hx := hc l[k] (List.getElem_mem hlt) (left - l.length - (((l.take k).map DExpr.s).sum : Int)) (by omega) (by omega)
      simp only [DExpr.c_eq] at hx
      refine HFnF.mk hx ?_
      have hs := sum_take_succ DExpr.s l k hlt
      have hs' := sum_take_le DExpr.s l (k + 1)
      try dsimp only at hs
      rcases lft_cases (left - l.length - (((l.take k).map DExpr.s).sum : Int)) ((DExpr.s l[k])) with ⟨e, hl1⟩ | ⟨e, hl1⟩
      · simp -dsimp -implicitDefEqProofs only [go_sem, ↓reduceIte, keep144, ib144, mk144, Tryz.f144, e]
        exact (lft_neg (by rw [szs_eq]; omega)).symm
      · have hn1 : (left - l.length - (((l.take k).map DExpr.s).sum : Int) - ((DExpr.s l[k]) : Int) < 0) = False := eq_false (by omega)
        simp -dsimp -implicitDefEqProofs only [go_sem, ↓reduceIte, keep144, ib144, mk144, Tryz.f144, e, hn1]
        refine ⟨k + 1, ⟨?_, ?_⟩, ⟨by omega, by rw [hs]; omega⟩, by omega⟩
        · rw [hs]; omega
        · rw [IntWalk.i64_in _ (by omega)]; rfl
    · have hk' : k = l.length := by omega
      subst hk'
      simp -dsimp -implicitDefEqProofs only [go_sem, ↓reduceIte, keep144, ib144, mk144, Tryz.f144, Nat.lt_irrefl]
      refine fun _ => ?_
      rw [List.take_length] at hb ⊢
      rw [lft_pos (by rw [szs_eq]; omega), szs_eq]
      omega

def keep156 : List Nat := [0, 1, 2, 4, 10]
def ib156 : List Nat := [2]
def mk156 : Marks := fun _ => ([], .nil, [])
set_option maxRecDepth 100000 in
theorem sz_Expr_step (x : DExpr) (left : Int) (h0 : 0 ≤ left) (h1 : left ≤ 1048576) (hk : ∀ left : Int, 0 ≤ left → left ≤ 1048576 → Fn0 Tryz.prog 144 [(sls 5 DExpr.c x.fKids), I left] (I (lft left (szs DExpr.s x.fKids)))) : Fn0 Tryz.prog 156 [.agg x.c, I left] (I (lft left x.s)) := by
  rw [DExpr.s_eq]
  simp only [DExpr.c_eq]
  refine fn0F 12 keep156 ib156 mk156 mix Tryz.func156 rfl (by kernel_rfl) (by simp) fun h => ?_
  simp -dsimp -implicitDefEqProofs only [go_sem, Tryz.f156, ↓reduceIte, keep156, ib156, mk156]
  refine HFnF.mk (hk left (by omega) (by omega)) ?_
  rcases lft_cases left (szs DExpr.s x.fKids) with ⟨e, hl1⟩ | ⟨e, hl1⟩
  · simp -dsimp -implicitDefEqProofs only [go_sem, ↓reduceIte, keep156, ib156, mk156, Tryz.f156, e]
  · have hn1 : (left - ((szs DExpr.s x.fKids) : Int) < 0) = False := eq_false (by omega)
    simp -dsimp -implicitDefEqProofs only [go_sem, ↓reduceIte, keep156, ib156, mk156, Tryz.f156, e, hn1]
  try (rw [lft_pos (by omega)]; omega)
theorem sz_Expr (x : DExpr) (left : Int) (h0 : 0 ≤ left) (h1 : left ≤ 1048576) : Fn0 Tryz.prog 156 [.agg x.c, I left] (I (lft left x.s)) :=
  sz_Expr_step x left h0 h1 fun left h0 h1 => sz_ExprS x.fKids left h0 h1 fun y hy left h0 h1 => sz_Expr y left h0 h1
termination_by SizeOf.sizeOf x
decreasing_by exact DExpr.kid_lt hy

def keep131 : List Nat := [0, 1, 2, 4, 11, 17]
def ib131 : List Nat := [2]
def mk131 : Marks := fun _ => ([], .nil, [])
set_option maxRecDepth 100000 in
theorem sz_Func (x : DFunc) (left : Int) (h0 : 0 ≤ left) (h1 : left ≤ 1048576) : Fn0 Tryz.prog 131 [.agg x.c, I left] (I (lft left x.s)) := by
  rw [DFunc.s_eq]
  simp only [DFunc.c_eq]
  refine fn0F 19 keep131 ib131 mk131 mix Tryz.func131 rfl (by kernel_rfl) (by simp) fun h => ?_
  simp -dsimp -implicitDefEqProofs only [go_sem, Tryz.f131, ↓reduceIte, keep131, ib131, mk131]
  refine fun hl0 => ?_
  rw [IntWalk.i64_in _ (by omega)]
  generalize hL0 : left - ((x.fName.length : Nat) : Int) = L0
  refine ⟨fun hn => (lft_neg (by omega)).symm, fun hn0 => ?_⟩
  refine HFnF.mk (sz_ExprS x.fOuts (L0) (by omega) (by omega) (fun x _ left h0 h1 => sz_Expr x left h0 h1)) ?_
  generalize hL1 : lft (L0) (szs DExpr.s x.fOuts) = L1
  simp -dsimp -implicitDefEqProofs only [go_sem, ↓reduceIte, keep131, ib131, mk131, Tryz.f131]
  have hs1 := lft_step hL1
  refine ⟨fun hn => (lft_neg (by have := hs1.1 hn; omega)).symm, fun hn1 => ?_⟩
  have hp1 := hs1.2 hn1
  clear hs1 hL1
  try (rw [lft_pos (by omega)]; omega)

def keep105 : List Nat := [0, 1, 4, 5, 11, 15, 25]
def ib105 : List Nat := []
def mk105 : Marks := fun _ => ([], .nil, [])
set_option maxRecDepth 100000 in
theorem sz_FuncS (l : List DFunc) (left : Int) (h0 : 0 ≤ left) (h1 : left ≤ 1048576) (hc : ∀ x ∈ l, ∀ left : Int, 0 ≤ left → left ≤ 1048576 → Fn0 Tryz.prog 131 [(.agg (DFunc.c x)), I left] (I (lft left ((DFunc.s x))))) : Fn0 Tryz.prog 105 [sls 3 DFunc.c l, I left] (I (lft left (szs DFunc.s l))) := by
  refine fn0F 27 keep105 ib105 mk105 mix Tryz.func105 rfl (by kernel_rfl) (by simp) fun h => ?_
  simp -dsimp -implicitDefEqProofs only [go_sem, Tryz.f105, ↓reduceIte, keep105, ib105, mk105]
  intro hl
  rw [IntWalk.i64_in _ (by omega)]
  refine ⟨fun hn => ?_, fun hn => ?_⟩
  · exact (lft_neg (by rw [szs_eq]; omega)).symm
  · refine loopF (keep := keep105) (ib := ib105) (mk := mk105) mix (by kernel_rfl) (fun k : Nat => [(0, sls 3 DFunc.c l), (1, I (left - l.length - (((l.take k).map DFunc.s).sum : Int))), (5, I k)]) (fun _ => h) (fun k => k ≤ l.length ∧ 0 ≤ left - l.length - (((l.take k).map DFunc.s).sum : Int)) (fun k => l.length - k) 0 (by simp [SatL, tget, Heap.le_refl]; omega) ?_
    intro k ⟨hk, hb⟩
    rcases Nat.lt_or_ge k l.length with hlt | hge
    · have ea : l[k]? = some l[k] := List.getElem?_eq_getElem hlt
      simp -dsimp -implicitDefEqProofs only [go_sem, ↓reduceIte, keep105, ib105, mk105, Tryz.f105, ea, DFunc.c_eq]
      refine fun _ => ⟨fun _ => ⟨hlt, ?_⟩, fun hn => absurd hlt hn⟩
      have hx := hc l[k] (List.getElem_mem hlt) (left - l.length - (((l.take k).map DFunc.s).sum : Int)) (by omega) (by omega)
      simp only [DFunc.c_eq] at hx
      refine HFnF.mk hx ?_
      have hs := sum_take_succ DFunc.s l k hlt
      have hs' := sum_take_le DFunc.s l (k + 1)
      try dsimp only at hs
      rcases lft_cases (left - l.length - (((l.take k).map DFunc.s).sum : Int)) ((DFunc.s l[k])) with ⟨e, hl1⟩ | ⟨e, hl1⟩
      · simp -dsimp -implicitDefEqProofs only [go_sem, ↓reduceIte, keep105, ib105, mk105, Tryz.f105, e]
        exact (lft_neg (by rw [szs_eq]; omega)).symm
      · have hn1 : (left - l.length - (((l.take k).map DFunc.s).sum : Int) - ((DFunc.s l[k]) : Int) < 0) = False := eq_false (by omega)
        simp -dsimp -implicitDefEqProofs only [go_sem, ↓reduceIte, keep105, ib105, mk105, Tryz.f105, e, hn1]
        refine ⟨k + 1, ⟨?_, ?_⟩, ⟨by omega, by rw [hs]; omega⟩, by omega⟩
        · rw [hs]; omega
        · rw [IntWalk.i64_in _ (by omega)]; rfl
    · have hk' : k = l.length := by omega
      subst hk'
      simp -dsimp -implicitDefEqProofs only [go_sem, ↓reduceIte, keep105, ib105, mk105, Tryz.f105, Nat.lt_irrefl]
      refine fun _ => ?_
      rw [List.take_length] at hb ⊢
      rw [lft_pos (by rw [szs_eq]; omega), szs_eq]
      omega

def keep55 : List Nat := [0, 1, 2, 4, 10]
def ib55 : List Nat := [2]
def mk55 : Marks := fun _ => ([], .nil, [])
set_option maxRecDepth 100000 in
theorem sz_Program (x : DProgram) (left : Int) (h0 : 0 ≤ left) (h1 : left ≤ 1048576) : Fn0 Tryz.prog 55 [.agg x.c, I left] (I (lft left x.s)) := by
  rw [DProgram.s_eq]
  simp only [DProgram.c_eq]
  refine fn0F 12 keep55 ib55 mk55 mix Tryz.func55 rfl (by kernel_rfl) (by simp) fun h => ?_
  simp -dsimp -implicitDefEqProofs only [go_sem, Tryz.f55, ↓reduceIte, keep55, ib55, mk55]
  refine HFnF.mk (sz_FuncS x.fFuncs left (by omega) (by omega) (fun x _ left h0 h1 => sz_Func x left h0 h1)) ?_
  rcases lft_cases left (szs DFunc.s x.fFuncs) with ⟨e, hl1⟩ | ⟨e, hl1⟩
  · simp -dsimp -implicitDefEqProofs only [go_sem, ↓reduceIte, keep55, ib55, mk55, Tryz.f55, e]
  · have hn1 : (left - ((szs DFunc.s x.fFuncs) : Int) < 0) = False := eq_false (by omega)
    simp -dsimp -implicitDefEqProofs only [go_sem, ↓reduceIte, keep55, ib55, mk55, Tryz.f55, e, hn1]
  try (rw [lft_pos (by omega)]; omega)

def keep41 : List Nat := [0, 1, 4, 10]
def ib41 : List Nat := []
def mk41 : Marks := fun _ => ([], .nil, [])
set_option maxRecDepth 100000 in
theorem sz_Int64S (sz : Nat) (es : List (List HVal)) (tg : Bool) (left : Int) (h0 : 0 ≤ left) (h1 : left ≤ 1048576) : Fn0 Tryz.prog 41 [.sl sz es tg, I left] (I (lft left es.length)) := by
  refine fn0F 12 keep41 ib41 mk41 mix Tryz.func41 rfl (by kernel_rfl) (by simp) fun h => ?_
  simp -dsimp -implicitDefEqProofs only [go_sem, Tryz.f41, ↓reduceIte, keep41, ib41, mk41]
  intro hl
  rw [IntWalk.i64_in _ (by omega)]
  refine ⟨fun hn => ?_, fun hn => ?_⟩
  · exact (lft_neg hn).symm
  · exact (lft_pos (by omega)).symm

def keep56 : List Nat := [0, 1, 4, 5, 11, 15, 25]
def ib56 : List Nat := []
def mk56 : Marks := fun _ => ([], .nil, [])
set_option maxRecDepth 100000 in
theorem sz_Int64SS (l : List (List Int)) (left : Int) (h0 : 0 ≤ left) (h1 : left ≤ 1048576) (hc : ∀ x ∈ l, ∀ left : Int, 0 ≤ left → left ≤ 1048576 → Fn0 Tryz.prog 41 [(sls 1 (fun n => [I n]) x), I left] (I (lft left (x.length)))) : Fn0 Tryz.prog 56 [sls 1 (fun x => [sls 1 (fun n => [I n]) x]) l, I left] (I (lft left (szs (fun x : List Int => x.length) l))) := by
  refine fn0F 27 keep56 ib56 mk56 mix Tryz.func56 rfl (by kernel_rfl) (by simp) fun h => ?_
  simp -dsimp -implicitDefEqProofs only [go_sem, Tryz.f56, ↓reduceIte, keep56, ib56, mk56]
  intro hl
  rw [IntWalk.i64_in _ (by omega)]
  refine ⟨fun hn => ?_, fun hn => ?_⟩
  · exact (lft_neg (by rw [szs_eq]; omega)).symm
  · refine loopF (keep := keep56) (ib := ib56) (mk := mk56) mix (by kernel_rfl) (fun k : Nat => [(0, sls 1 (fun x => [sls 1 (fun n => [I n]) x]) l), (1, I (left - l.length - (((l.take k).map (fun x : List Int => x.length)).sum : Int))), (5, I k)]) (fun _ => h) (fun k => k ≤ l.length ∧ 0 ≤ left - l.length - (((l.take k).map (fun x : List Int => x.length)).sum : Int)) (fun k => l.length - k) 0 (by simp [SatL, tget, Heap.le_refl]; omega) ?_
    intro k ⟨hk, hb⟩
    rcases Nat.lt_or_ge k l.length with hlt | hge
    · have ea : l[k]? = some l[k] := List.getElem?_eq_getElem hlt
      simp -dsimp -implicitDefEqProofs only [go_sem, ↓reduceIte, keep56, ib56, mk56, Tryz.f56, ea]
      refine fun _ => ⟨fun _ => ⟨hlt, ?_⟩, fun hn => absurd hlt hn⟩
      have hx := hc l[k] (List.getElem_mem hlt) (left - l.length - (((l.take k).map (fun x : List Int => x.length)).sum : Int)) (by omega) (by omega)
      refine HFnF.mk hx ?_
      have hs := sum_take_succ (fun x : List Int => x.length) l k hlt
      have hs' := sum_take_le (fun x : List Int => x.length) l (k + 1)
      try dsimp only at hs
      rcases lft_cases (left - l.length - (((l.take k).map (fun x : List Int => x.length)).sum : Int)) (l[k].length) with ⟨e, hl1⟩ | ⟨e, hl1⟩
      · simp -dsimp -implicitDefEqProofs only [go_sem, ↓reduceIte, keep56, ib56, mk56, Tryz.f56, e]
        exact (lft_neg (by rw [szs_eq]; omega)).symm
      · have hn1 : (left - l.length - (((l.take k).map (fun x : List Int => x.length)).sum : Int) - (l[k].length : Int) < 0) = False := eq_false (by omega)
        simp -dsimp -implicitDefEqProofs only [go_sem, ↓reduceIte, keep56, ib56, mk56, Tryz.f56, e, hn1]
        refine ⟨k + 1, ⟨?_, ?_⟩, ⟨by omega, by rw [hs]; omega⟩, by omega⟩
        · rw [hs]; omega
        · rw [IntWalk.i64_in _ (by omega)]; rfl
    · have hk' : k = l.length := by omega
      subst hk'
      simp -dsimp -implicitDefEqProofs only [go_sem, ↓reduceIte, keep56, ib56, mk56, Tryz.f56, Nat.lt_irrefl]
      refine fun _ => ?_
      rw [List.take_length] at hb ⊢
      rw [lft_pos (by rw [szs_eq]; omega), szs_eq]
      omega

def keep18 : List Nat := [0, 1, 2, 4, 10, 16, 22]
def ib18 : List Nat := [2]
def mk18 : Marks := fun _ => ([], .nil, [])
set_option maxRecDepth 100000 in
theorem sz_Job (x : DJob) (left : Int) (h0 : 0 ≤ left) (h1 : left ≤ 1048576) : Fn0 Tryz.prog 18 [.agg x.c, I left] (I (lft left x.s)) := by
  rw [DJob.s_eq]
  simp only [DJob.c_eq]
  refine fn0F 24 keep18 ib18 mk18 mix Tryz.func18 rfl (by kernel_rfl) (by simp) fun h => ?_
  simp -dsimp -implicitDefEqProofs only [go_sem, Tryz.f18, ↓reduceIte, keep18, ib18, mk18]
  refine HFnF.mk (sz_Program x.fProgram (left) (by omega) (by omega)) ?_
  generalize hL0 : lft left (DProgram.s x.fProgram) = L0
  simp -dsimp -implicitDefEqProofs only [go_sem, ↓reduceIte, keep18, ib18, mk18, Tryz.f18]
  have hs0 := lft_step hL0
  refine ⟨fun hn => (lft_neg (by have := hs0.1 hn; omega)).symm, fun hn0 => ?_⟩
  have hp0 := hs0.2 hn0
  clear hs0 hL0
  refine HFnF.mk (sz_Int64S _ _ _ (L0) (by omega) (by omega)) ?_
  rw [List.length_map]
  generalize hL1 : lft (L0) x.fPoint.length = L1
  simp -dsimp -implicitDefEqProofs only [go_sem, ↓reduceIte, keep18, ib18, mk18, Tryz.f18]
  have hs1 := lft_step hL1
  refine ⟨fun hn => (lft_neg (by have := hs1.1 hn; omega)).symm, fun hn1 => ?_⟩
  have hp1 := hs1.2 hn1
  clear hs1 hL1
  refine HFnF.mk (sz_Int64SS x.fTerms (L1) (by omega) (by omega) (fun x _ left h0 h1 => (by have hq := sz_Int64S 1 (x.map (fun n => [I n])) false left h0 h1; rw [List.length_map] at hq; exact hq))) ?_
  generalize hL2 : lft (L1) (szs (fun x : List Int => x.length) x.fTerms) = L2
  simp -dsimp -implicitDefEqProofs only [go_sem, ↓reduceIte, keep18, ib18, mk18, Tryz.f18]
  have hs2 := lft_step hL2
  refine ⟨fun hn => (lft_neg (by have := hs2.1 hn; omega)).symm, fun hn2 => ?_⟩
  have hp2 := hs2.2 hn2
  clear hs2 hL2
  try (rw [lft_pos (by omega)]; omega)


def keep42 : List Nat := [0, 1, 4, 10]
def ib42 : List Nat := []
def mk42 : Marks := fun _ => ([], .nil, [])
set_option maxRecDepth 100000 in
theorem sz_BoolS (sz : Nat) (es : List (List HVal)) (tg : Bool) (left : Int) (h0 : 0 ≤ left) (h1 : left ≤ 1048576) : Fn0 Tryz.prog 42 [.sl sz es tg, I left] (I (lft left es.length)) := by
  refine fn0F 12 keep42 ib42 mk42 mix Tryz.func42 rfl (by kernel_rfl) (by simp) fun h => ?_
  simp -dsimp -implicitDefEqProofs only [go_sem, Tryz.f42, ↓reduceIte, keep42, ib42, mk42]
  intro hl
  rw [IntWalk.i64_in _ (by omega)]
  refine ⟨fun hn => ?_, fun hn => ?_⟩
  · exact (lft_neg hn).symm
  · exact (lft_pos (by omega)).symm

def keep90 : List Nat := [0, 1, 2, 4, 10]
def ib90 : List Nat := [2]
def mk90 : Marks := fun _ => ([], .nil, [])
set_option maxRecDepth 100000 in
theorem sz_Part (x : DPart) (left : Int) (h0 : 0 ≤ left) (h1 : left ≤ 1048576) : Fn0 Tryz.prog 90 [.agg x.c, I left] (I (lft left x.s)) := by
  rw [DPart.s_eq]
  simp only [DPart.c_eq]
  refine fn0F 12 keep90 ib90 mk90 mix Tryz.func90 rfl (by kernel_rfl) (by simp) fun h => ?_
  simp -dsimp -implicitDefEqProofs only [go_sem, Tryz.f90, ↓reduceIte, keep90, ib90, mk90]
  refine HFnF.mk (sz_Int64S _ _ _ left (by omega) (by omega)) ?_
  rw [List.length_map]
  rcases lft_cases left x.fGrad.length with ⟨e, hl1⟩ | ⟨e, hl1⟩
  · simp -dsimp -implicitDefEqProofs only [go_sem, ↓reduceIte, keep90, ib90, mk90, Tryz.f90, e]
  · have hn1 : (left - (x.fGrad.length : Int) < 0) = False := eq_false (by omega)
    simp -dsimp -implicitDefEqProofs only [go_sem, ↓reduceIte, keep90, ib90, mk90, Tryz.f90, e, hn1]
  try (rw [lft_pos (by omega)]; omega)

def keep43 : List Nat := [0, 1, 4, 5, 11, 15, 25]
def ib43 : List Nat := []
def mk43 : Marks := fun _ => ([], .nil, [])
set_option maxRecDepth 100000 in
theorem sz_PartS (l : List DPart) (left : Int) (h0 : 0 ≤ left) (h1 : left ≤ 1048576) (hc : ∀ x ∈ l, ∀ left : Int, 0 ≤ left → left ≤ 1048576 → Fn0 Tryz.prog 90 [(.agg (DPart.c x)), I left] (I (lft left ((DPart.s x))))) : Fn0 Tryz.prog 43 [sls 3 DPart.c l, I left] (I (lft left (szs DPart.s l))) := by
  refine fn0F 27 keep43 ib43 mk43 mix Tryz.func43 rfl (by kernel_rfl) (by simp) fun h => ?_
  simp -dsimp -implicitDefEqProofs only [go_sem, Tryz.f43, ↓reduceIte, keep43, ib43, mk43]
  intro hl
  rw [IntWalk.i64_in _ (by omega)]
  refine ⟨fun hn => ?_, fun hn => ?_⟩
  · exact (lft_neg (by rw [szs_eq]; omega)).symm
  · refine loopF (keep := keep43) (ib := ib43) (mk := mk43) mix (by kernel_rfl) (fun k : Nat => [(0, sls 3 DPart.c l), (1, I (left - l.length - (((l.take k).map DPart.s).sum : Int))), (5, I k)]) (fun _ => h) (fun k => k ≤ l.length ∧ 0 ≤ left - l.length - (((l.take k).map DPart.s).sum : Int)) (fun k => l.length - k) 0 (by simp [SatL, tget, Heap.le_refl]; omega) ?_
    intro k ⟨hk, hb⟩
    rcases Nat.lt_or_ge k l.length with hlt | hge
    · have ea : l[k]? = some l[k] := List.getElem?_eq_getElem hlt
      simp -dsimp -implicitDefEqProofs only [go_sem, ↓reduceIte, keep43, ib43, mk43, Tryz.f43, ea, DPart.c_eq]
      refine fun _ => ⟨fun _ => ⟨hlt, ?_⟩, fun hn => absurd hlt hn⟩
      have hx := hc l[k] (List.getElem_mem hlt) (left - l.length - (((l.take k).map DPart.s).sum : Int)) (by omega) (by omega)
      simp only [DPart.c_eq] at hx
      refine HFnF.mk hx ?_
      have hs := sum_take_succ DPart.s l k hlt
      have hs' := sum_take_le DPart.s l (k + 1)
      try dsimp only at hs
      rcases lft_cases (left - l.length - (((l.take k).map DPart.s).sum : Int)) ((DPart.s l[k])) with ⟨e, hl1⟩ | ⟨e, hl1⟩
      · simp -dsimp -implicitDefEqProofs only [go_sem, ↓reduceIte, keep43, ib43, mk43, Tryz.f43, e]
        exact (lft_neg (by rw [szs_eq]; omega)).symm
      · have hn1 : (left - l.length - (((l.take k).map DPart.s).sum : Int) - ((DPart.s l[k]) : Int) < 0) = False := eq_false (by omega)
        simp -dsimp -implicitDefEqProofs only [go_sem, ↓reduceIte, keep43, ib43, mk43, Tryz.f43, e, hn1]
        refine ⟨k + 1, ⟨?_, ?_⟩, ⟨by omega, by rw [hs]; omega⟩, by omega⟩
        · rw [hs]; omega
        · rw [IntWalk.i64_in _ (by omega)]; rfl
    · have hk' : k = l.length := by omega
      subst hk'
      simp -dsimp -implicitDefEqProofs only [go_sem, ↓reduceIte, keep43, ib43, mk43, Tryz.f43, Nat.lt_irrefl]
      refine fun _ => ?_
      rw [List.take_length] at hb ⊢
      rw [lft_pos (by rw [szs_eq]; omega), szs_eq]
      omega

def keep9 : List Nat := [0, 1, 2, 4, 10, 16, 22, 28, 34]
def ib9 : List Nat := [2]
def mk9 : Marks := fun _ => ([], .nil, [])
set_option maxRecDepth 100000 in
theorem sz_Service (x : DService) (left : Int) (h0 : 0 ≤ left) (h1 : left ≤ 1048576) : Fn0 Tryz.prog 9 [.agg x.c, I left] (I (lft left x.s)) := by
  rw [DService.s_eq]
  simp only [DService.c_eq]
  refine fn0F 36 keep9 ib9 mk9 mix Tryz.func9 rfl (by kernel_rfl) (by simp) fun h => ?_
  simp -dsimp -implicitDefEqProofs only [go_sem, Tryz.f9, ↓reduceIte, keep9, ib9, mk9]
  refine HFnF.mk (sz_Job x.fJob (left) (by omega) (by omega)) ?_
  generalize hL0 : lft left (DJob.s x.fJob) = L0
  simp -dsimp -implicitDefEqProofs only [go_sem, ↓reduceIte, keep9, ib9, mk9, Tryz.f9]
  have hs0 := lft_step hL0
  refine ⟨fun hn => (lft_neg (by have := hs0.1 hn; omega)).symm, fun hn0 => ?_⟩
  have hp0 := hs0.2 hn0
  clear hs0 hL0
  refine HFnF.mk (sz_Int64S _ _ _ (L0) (by omega) (by omega)) ?_
  rw [List.length_map]
  generalize hL1 : lft (L0) x.fStamps.length = L1
  simp -dsimp -implicitDefEqProofs only [go_sem, ↓reduceIte, keep9, ib9, mk9, Tryz.f9]
  have hs1 := lft_step hL1
  refine ⟨fun hn => (lft_neg (by have := hs1.1 hn; omega)).symm, fun hn1 => ?_⟩
  have hp1 := hs1.2 hn1
  clear hs1 hL1
  refine HFnF.mk (sz_BoolS _ _ _ (L1) (by omega) (by omega)) ?_
  rw [List.length_map]
  generalize hL2 : lft (L1) x.fKnown.length = L2
  simp -dsimp -implicitDefEqProofs only [go_sem, ↓reduceIte, keep9, ib9, mk9, Tryz.f9]
  have hs2 := lft_step hL2
  refine ⟨fun hn => (lft_neg (by have := hs2.1 hn; omega)).symm, fun hn2 => ?_⟩
  have hp2 := hs2.2 hn2
  clear hs2 hL2
  refine HFnF.mk (sz_PartS x.fParts (L2) (by omega) (by omega) (fun x _ left h0 h1 => sz_Part x left h0 h1)) ?_
  generalize hL3 : lft (L2) (szs DPart.s x.fParts) = L3
  simp -dsimp -implicitDefEqProofs only [go_sem, ↓reduceIte, keep9, ib9, mk9, Tryz.f9]
  have hs3 := lft_step hL3
  refine ⟨fun hn => (lft_neg (by have := hs3.1 hn; omega)).symm, fun hn3 => ?_⟩
  have hp3 := hs3.2 hn3
  clear hs3 hL3
  refine HFnF.mk (sz_Int64S _ _ _ (L3) (by omega) (by omega)) ?_
  rw [List.length_map]
  generalize hL4 : lft (L3) x.fOwners.length = L4
  simp -dsimp -implicitDefEqProofs only [go_sem, ↓reduceIte, keep9, ib9, mk9, Tryz.f9]
  have hs4 := lft_step hL4
  refine ⟨fun hn => (lft_neg (by have := hs4.1 hn; omega)).symm, fun hn4 => ?_⟩
  have hp4 := hs4.2 hn4
  clear hs4 hL4
  try (rw [lft_pos (by omega)]; omega)

open Go.Proofs
set_option linter.unusedVariables false
set_option linter.unusedSimpArgs false


def keep154 : List Nat := [0, 1, 4, 5, 10, 14, 26]
def ib154 : List Nat := []
def mk154 : Marks := fun id => match id with | 6 => ([], (.op 0 (.op 1 (.op 2 (.op 3 (.op 4 (.op 5 (.op 6 (.op 7 (.op 8 (.op 9 .nil)))))))))), []) | _ => ([], .nil, [])
set_option maxRecDepth 100000 in
theorem eq_ExprS (a b : List DExpr) (hc : ∀ x ∈ a, ∀ y, Fn0 Tryz.prog 165 [(.agg (DExpr.c x)), (.agg (DExpr.c y))] (.bool (decide (x = y)))) : Fn0 Tryz.prog 154 [(sls 5 DExpr.c a), (sls 5 DExpr.c b)] (.bool (decide (a = b))) := by
  refine fn0F 27 keep154 ib154 mk154 mix Tryz.func154 rfl (by kernel_rfl) (by simp) fun h => ?_
  simp -dsimp -implicitDefEqProofs only [go_sem, Tryz.f154, ↓reduceIte, keep154, ib154, mk154]
  refine fun _ _ => ⟨fun hne => ?_, fun heq => ?_⟩
  · exact (decide_eq_false fun e => hne (by rw [e])).symm
  · refine loopF (keep := keep154) (ib := ib154) (mk := mk154) mix (by kernel_rfl) (fun k : Nat => [(0, (sls 5 DExpr.c a)), (1, (sls 5 DExpr.c b)), (5, I k)]) (fun _ => h) (fun k => k ≤ a.length ∧ a.take k = b.take k) (fun k => a.length - k) 0 (by simp [SatL, tget, Heap.le_refl]) ?_
    intro k ⟨hk, hp⟩
    rcases Nat.lt_or_ge k a.length with hlt | hge
    · have hlb : k < b.length := by omega
      have ea : a[k]? = some a[k] := List.getElem?_eq_getElem hlt
      have eb : b[k]? = some b[k] := List.getElem?_eq_getElem hlb
      simp -dsimp -implicitDefEqProofs only [go_sem, ↓reduceIte, keep154, ib154, mk154, Tryz.f154, ea, eb, DExpr.c_eq]
      refine fun _ => ⟨fun _ => ⟨hlt, hlb, ?_⟩, fun hn => absurd hlt hn⟩
      have hx := hc a[k] (List.getElem_mem hlt) b[k]
      simp only [DExpr.c_eq] at hx
      refine CallSF.mk hx ?_
      by_cases he : a[k] = b[k]
      · have d := decide_eq_true he
        simp -dsimp -implicitDefEqProofs only [go_sem, ↓reduceIte, keep154, ib154, mk154, Tryz.f154, d]
        exact ⟨k + 1, by rw [IntWalk.i64_in _ (by omega)]; rfl, ⟨by omega, take_step hlt hlb hp he⟩, by omega⟩
      · have d := decide_eq_false he
        simp -dsimp -implicitDefEqProofs only [go_sem, ↓reduceIte, keep154, ib154, mk154, Tryz.f154, d]
        exact (decide_eq_false fun e => he (getElem_of_eq e hlt)).symm
    · have hk' : k = a.length := by omega
      subst hk'
      simp -dsimp -implicitDefEqProofs only [go_sem, ↓reduceIte, keep154, ib154, mk154, Tryz.f154, Nat.lt_irrefl]
      exact fun _ => (decide_eq_true (eq_of_take heq hp)).symm

def keep165 : List Nat := [0, 1, 2, 3, 4, 9, 14, 19, 24, 30]
def ib165 : List Nat := [2, 3]
def mk165 : Marks := fun _ => ([], .nil, [])
set_option maxRecDepth 100000 in
theorem eq_Expr_step (a b : DExpr) (hk : Fn0 Tryz.prog 154 [(sls 5 DExpr.c a.fKids), (sls 5 DExpr.c b.fKids)] (.bool (decide (a.fKids = b.fKids)))) : Fn0 Tryz.prog 165 [.agg a.c, .agg b.c] (.bool (decide (a = b))) := by
  simp only [DExpr.c_eq]
  refine fn0F 31 keep165 ib165 mk165 mix Tryz.func165 rfl (by kernel_rfl) (by simp) fun h => ?_
  simp -dsimp -implicitDefEqProofs only [go_sem, Tryz.f165, ↓reduceIte, keep165, ib165, mk165]
  refine ⟨fun hn => (decide_eq_false fun e => hn (by rw [e])).symm, fun efKind => ?_⟩
  refine ⟨fun hn => (decide_eq_false fun e => hn (by rw [e])).symm, fun efNum => ?_⟩
  refine ⟨fun hn => (decide_eq_false fun e => hn (by rw [e])).symm, fun efPick => ?_⟩
  refine ⟨fun hn => (decide_eq_false fun e => hn (by rw [e])).symm, fun efCount => ?_⟩
  refine HFnF.mk hk ?_
  by_cases efKids : a.fKids = b.fKids
  case neg =>
    have d := decide_eq_false efKids
    simp -dsimp -implicitDefEqProofs only [go_sem, ↓reduceIte, keep165, ib165, mk165, Tryz.f165, d]
    exact (decide_eq_false fun e => efKids (by rw [e])).symm
  have dfKids := decide_eq_true efKids
  simp -dsimp -implicitDefEqProofs only [go_sem, ↓reduceIte, keep165, ib165, mk165, Tryz.f165, dfKids]
  exact (decide_eq_true (DExpr.eq_iff.2 ⟨efKind, efNum, efPick, efCount, efKids⟩)).symm
theorem eq_Expr (a b : DExpr) : Fn0 Tryz.prog 165 [.agg a.c, .agg b.c] (.bool (decide (a = b))) :=
  eq_Expr_step a b (eq_ExprS a.fKids b.fKids fun x hx y => eq_Expr x y)
termination_by SizeOf.sizeOf a
decreasing_by exact DExpr.kid_lt hx

def keep138 : List Nat := [0, 1, 2, 3, 4, 9, 14, 20]
def ib138 : List Nat := [2, 3]
def mk138 : Marks := fun _ => ([], .nil, [])
set_option maxRecDepth 100000 in
theorem eq_Func (a b : DFunc) : Fn0 Tryz.prog 138 [.agg a.c, .agg b.c] (.bool (decide (a = b))) := by
  simp only [DFunc.c_eq]
  refine fn0F 21 keep138 ib138 mk138 mix Tryz.func138 rfl (by kernel_rfl) (by simp) fun h => ?_
  simp -dsimp -implicitDefEqProofs only [go_sem, Tryz.f138, ↓reduceIte, keep138, ib138, mk138]
  refine ⟨fun hn => (decide_eq_false fun e => hn (by rw [e])).symm, fun efName => ?_⟩
  refine ⟨fun hn => (decide_eq_false fun e => hn (by rw [e])).symm, fun efParams => ?_⟩
  refine HFnF.mk (eq_ExprS a.fOuts b.fOuts (fun x _ y => (eq_Expr x y))) ?_
  by_cases efOuts : a.fOuts = b.fOuts
  case neg =>
    have d := decide_eq_false efOuts
    simp -dsimp -implicitDefEqProofs only [go_sem, ↓reduceIte, keep138, ib138, mk138, Tryz.f138, d]
    exact (decide_eq_false fun e => efOuts (by rw [e])).symm
  have dfOuts := decide_eq_true efOuts
  simp -dsimp -implicitDefEqProofs only [go_sem, ↓reduceIte, keep138, ib138, mk138, Tryz.f138, dfOuts]
  exact (decide_eq_true (DFunc.eq_iff.2 ⟨efName, efParams, efOuts⟩)).symm

def keep115 : List Nat := [0, 1, 4, 5, 10, 14, 26]
def ib115 : List Nat := []
def mk115 : Marks := fun id => match id with | 6 => ([], (.op 0 (.op 1 (.op 2 (.op 3 (.op 4 (.op 5 (.op 6 (.op 7 (.op 8 (.op 9 .nil)))))))))), []) | _ => ([], .nil, [])
set_option maxRecDepth 100000 in
theorem eq_FuncS (a b : List DFunc) (hc : ∀ x ∈ a, ∀ y, Fn0 Tryz.prog 138 [(.agg (DFunc.c x)), (.agg (DFunc.c y))] (.bool (decide (x = y)))) : Fn0 Tryz.prog 115 [(sls 3 DFunc.c a), (sls 3 DFunc.c b)] (.bool (decide (a = b))) := by
  refine fn0F 27 keep115 ib115 mk115 mix Tryz.func115 rfl (by kernel_rfl) (by simp) fun h => ?_
  simp -dsimp -implicitDefEqProofs only [go_sem, Tryz.f115, ↓reduceIte, keep115, ib115, mk115]
  refine fun _ _ => ⟨fun hne => ?_, fun heq => ?_⟩
  · exact (decide_eq_false fun e => hne (by rw [e])).symm
  · refine loopF (keep := keep115) (ib := ib115) (mk := mk115) mix (by kernel_rfl) (fun k : Nat => [(0, (sls 3 DFunc.c a)), (1, (sls 3 DFunc.c b)), (5, I k)]) (fun _ => h) (fun k => k ≤ a.length ∧ a.take k = b.take k) (fun k => a.length - k) 0 (by simp [SatL, tget, Heap.le_refl]) ?_
    intro k ⟨hk, hp⟩
    rcases Nat.lt_or_ge k a.length with hlt | hge
    · have hlb : k < b.length := by omega
      have ea : a[k]? = some a[k] := List.getElem?_eq_getElem hlt
      have eb : b[k]? = some b[k] := List.getElem?_eq_getElem hlb
      simp -dsimp -implicitDefEqProofs only [go_sem, ↓reduceIte, keep115, ib115, mk115, Tryz.f115, ea, eb, DFunc.c_eq]
      refine fun _ => ⟨fun _ => ⟨hlt, hlb, ?_⟩, fun hn => absurd hlt hn⟩
      have hx := hc a[k] (List.getElem_mem hlt) b[k]
      simp only [DFunc.c_eq] at hx
      refine CallSF.mk hx ?_
      by_cases he : a[k] = b[k]
      · have d := decide_eq_true he
        simp -dsimp -implicitDefEqProofs only [go_sem, ↓reduceIte, keep115, ib115, mk115, Tryz.f115, d]
        exact ⟨k + 1, by rw [IntWalk.i64_in _ (by omega)]; rfl, ⟨by omega, take_step hlt hlb hp he⟩, by omega⟩
      · have d := decide_eq_false he
        simp -dsimp -implicitDefEqProofs only [go_sem, ↓reduceIte, keep115, ib115, mk115, Tryz.f115, d]
        exact (decide_eq_false fun e => he (getElem_of_eq e hlt)).symm
    · have hk' : k = a.length := by omega
      subst hk'
      simp -dsimp -implicitDefEqProofs only [go_sem, ↓reduceIte, keep115, ib115, mk115, Tryz.f115, Nat.lt_irrefl]
      exact fun _ => (decide_eq_true (eq_of_take heq hp)).symm

def keep69 : List Nat := [0, 1, 2, 3, 4, 10]
def ib69 : List Nat := [2, 3]
def mk69 : Marks := fun _ => ([], .nil, [])
set_option maxRecDepth 100000 in
theorem eq_Program (a b : DProgram) : Fn0 Tryz.prog 69 [.agg a.c, .agg b.c] (.bool (decide (a = b))) := by
  simp only [DProgram.c_eq]
  refine fn0F 11 keep69 ib69 mk69 mix Tryz.func69 rfl (by kernel_rfl) (by simp) fun h => ?_
  simp -dsimp -implicitDefEqProofs only [go_sem, Tryz.f69, ↓reduceIte, keep69, ib69, mk69]
  refine HFnF.mk (eq_FuncS a.fFuncs b.fFuncs (fun x _ y => (eq_Func x y))) ?_
  by_cases efFuncs : a.fFuncs = b.fFuncs
  case neg =>
    have d := decide_eq_false efFuncs
    simp -dsimp -implicitDefEqProofs only [go_sem, ↓reduceIte, keep69, ib69, mk69, Tryz.f69, d]
    exact (decide_eq_false fun e => efFuncs (by rw [e])).symm
  have dfFuncs := decide_eq_true efFuncs
  simp -dsimp -implicitDefEqProofs only [go_sem, ↓reduceIte, keep69, ib69, mk69, Tryz.f69, dfFuncs]
  exact (decide_eq_true (DProgram.eq_iff.2 efFuncs)).symm

def keep13 : List Nat := [0, 1, 4, 5, 10, 14, 25]
def ib13 : List Nat := []
def mk13 : Marks := fun id => match id with | 6 => ([], (.op 0 (.op 1 (.op 2 (.op 3 (.op 4 (.op 5 (.op 6 (.op 7 (.op 8 .nil))))))))), []) | _ => ([], .nil, [])
set_option maxRecDepth 100000 in
theorem eq_Int64S (a b : List Int) : Fn0 Tryz.prog 13 [(sls 1 (fun n => [I n]) a), (sls 1 (fun n => [I n]) b)] (.bool (decide (a = b))) := by
  refine fn0F 26 keep13 ib13 mk13 mix Tryz.func13 rfl (by kernel_rfl) (by simp) fun h => ?_
  simp -dsimp -implicitDefEqProofs only [go_sem, Tryz.f13, ↓reduceIte, keep13, ib13, mk13]
  refine fun _ _ => ⟨fun hne => ?_, fun heq => ?_⟩
  · exact (decide_eq_false fun e => hne (by rw [e])).symm
  · refine loopF (keep := keep13) (ib := ib13) (mk := mk13) mix (by kernel_rfl) (fun k : Nat => [(0, (sls 1 (fun n => [I n]) a)), (1, (sls 1 (fun n => [I n]) b)), (5, I k)]) (fun _ => h) (fun k => k ≤ a.length ∧ a.take k = b.take k) (fun k => a.length - k) 0 (by simp [SatL, tget, Heap.le_refl]) ?_
    intro k ⟨hk, hp⟩
    rcases Nat.lt_or_ge k a.length with hlt | hge
    · have hlb : k < b.length := by omega
      have ea : a[k]? = some a[k] := List.getElem?_eq_getElem hlt
      have eb : b[k]? = some b[k] := List.getElem?_eq_getElem hlb
      simp -dsimp -implicitDefEqProofs only [go_sem, ↓reduceIte, keep13, ib13, mk13, Tryz.f13, ea, eb]
      refine fun _ => ⟨fun _ => ⟨hlt, hlb, fun hne => ?_, fun he => ?_⟩, fun hn => absurd hlt hn⟩
      · first
          | exact (decide_eq_false fun e => hne (getElem_of_eq e hlt)).symm
          | exact (decide_eq_false fun e => by have := getElem_of_eq e hlt (hb := hlb); rw [this] at hne; simp at hne).symm
      · exact ⟨k + 1, by rw [IntWalk.i64_in _ (by omega)]; rfl, ⟨by omega, take_step hlt hlb hp (by first | exact he | simpa using he)⟩, by omega⟩
    · have hk' : k = a.length := by omega
      subst hk'
      simp -dsimp -implicitDefEqProofs only [go_sem, ↓reduceIte, keep13, ib13, mk13, Tryz.f13, Nat.lt_irrefl]
      exact fun _ => (decide_eq_true (eq_of_take heq hp)).symm

def keep70 : List Nat := [0, 1, 4, 5, 10, 14, 26]
def ib70 : List Nat := []
def mk70 : Marks := fun id => match id with | 6 => ([], (.op 0 (.op 1 (.op 2 (.op 3 (.op 4 (.op 5 (.op 6 (.op 7 (.op 8 (.op 9 .nil)))))))))), []) | _ => ([], .nil, [])
set_option maxRecDepth 100000 in
theorem eq_Int64SS (a b : List (List Int)) (hc : ∀ x ∈ a, ∀ y, Fn0 Tryz.prog 13 [(sls 1 (fun n => [I n]) x), (sls 1 (fun n => [I n]) y)] (.bool (decide (x = y)))) : Fn0 Tryz.prog 70 [(sls 1 (fun x => [sls 1 (fun n => [I n]) x]) a), (sls 1 (fun x => [sls 1 (fun n => [I n]) x]) b)] (.bool (decide (a = b))) := by
  refine fn0F 27 keep70 ib70 mk70 mix Tryz.func70 rfl (by kernel_rfl) (by simp) fun h => ?_
  simp -dsimp -implicitDefEqProofs only [go_sem, Tryz.f70, ↓reduceIte, keep70, ib70, mk70]
  refine fun _ _ => ⟨fun hne => ?_, fun heq => ?_⟩
  · exact (decide_eq_false fun e => hne (by rw [e])).symm
  · refine loopF (keep := keep70) (ib := ib70) (mk := mk70) mix (by kernel_rfl) (fun k : Nat => [(0, (sls 1 (fun x => [sls 1 (fun n => [I n]) x]) a)), (1, (sls 1 (fun x => [sls 1 (fun n => [I n]) x]) b)), (5, I k)]) (fun _ => h) (fun k => k ≤ a.length ∧ a.take k = b.take k) (fun k => a.length - k) 0 (by simp [SatL, tget, Heap.le_refl]) ?_
    intro k ⟨hk, hp⟩
    rcases Nat.lt_or_ge k a.length with hlt | hge
    · have hlb : k < b.length := by omega
      have ea : a[k]? = some a[k] := List.getElem?_eq_getElem hlt
      have eb : b[k]? = some b[k] := List.getElem?_eq_getElem hlb
      simp -dsimp -implicitDefEqProofs only [go_sem, ↓reduceIte, keep70, ib70, mk70, Tryz.f70, ea, eb]
      refine fun _ => ⟨fun _ => ⟨hlt, hlb, ?_⟩, fun hn => absurd hlt hn⟩
      have hx := hc a[k] (List.getElem_mem hlt) b[k]
      refine CallSF.mk hx ?_
      by_cases he : a[k] = b[k]
      · have d := decide_eq_true he
        simp -dsimp -implicitDefEqProofs only [go_sem, ↓reduceIte, keep70, ib70, mk70, Tryz.f70, d]
        exact ⟨k + 1, by rw [IntWalk.i64_in _ (by omega)]; rfl, ⟨by omega, take_step hlt hlb hp he⟩, by omega⟩
      · have d := decide_eq_false he
        simp -dsimp -implicitDefEqProofs only [go_sem, ↓reduceIte, keep70, ib70, mk70, Tryz.f70, d]
        exact (decide_eq_false fun e => he (getElem_of_eq e hlt)).symm
    · have hk' : k = a.length := by omega
      subst hk'
      simp -dsimp -implicitDefEqProofs only [go_sem, ↓reduceIte, keep70, ib70, mk70, Tryz.f70, Nat.lt_irrefl]
      exact fun _ => (decide_eq_true (eq_of_take heq hp)).symm

def keep23 : List Nat := [0, 1, 2, 3, 4, 10, 15, 20, 26, 32]
def ib23 : List Nat := [2, 3]
def mk23 : Marks := fun _ => ([], .nil, [])
set_option maxRecDepth 100000 in
theorem eq_Job (a b : DJob) : Fn0 Tryz.prog 23 [.agg a.c, .agg b.c] (.bool (decide (a = b))) := by
  simp only [DJob.c_eq]
  refine fn0F 33 keep23 ib23 mk23 mix Tryz.func23 rfl (by kernel_rfl) (by simp) fun h => ?_
  simp -dsimp -implicitDefEqProofs only [go_sem, Tryz.f23, ↓reduceIte, keep23, ib23, mk23]
  refine HFnF.mk (eq_Program a.fProgram b.fProgram) ?_
  by_cases efProgram : a.fProgram = b.fProgram
  case neg =>
    have d := decide_eq_false efProgram
    simp -dsimp -implicitDefEqProofs only [go_sem, ↓reduceIte, keep23, ib23, mk23, Tryz.f23, d]
    exact (decide_eq_false fun e => efProgram (by rw [e])).symm
  have dfProgram := decide_eq_true efProgram
  simp -dsimp -implicitDefEqProofs only [go_sem, ↓reduceIte, keep23, ib23, mk23, Tryz.f23, dfProgram]
  refine ⟨fun hn => (decide_eq_false fun e => hn (by rw [e])).symm, fun efFunc => ?_⟩
  refine ⟨fun hn => (decide_eq_false fun e => hn (by rw [e])).symm, fun efShared => ?_⟩
  refine HFnF.mk (eq_Int64S a.fPoint b.fPoint) ?_
  by_cases efPoint : a.fPoint = b.fPoint
  case neg =>
    have d := decide_eq_false efPoint
    simp -dsimp -implicitDefEqProofs only [go_sem, ↓reduceIte, keep23, ib23, mk23, Tryz.f23, d]
    exact (decide_eq_false fun e => efPoint (by rw [e])).symm
  have dfPoint := decide_eq_true efPoint
  simp -dsimp -implicitDefEqProofs only [go_sem, ↓reduceIte, keep23, ib23, mk23, Tryz.f23, dfPoint]
  refine HFnF.mk (eq_Int64SS a.fTerms b.fTerms (fun x _ y => (eq_Int64S x y))) ?_
  by_cases efTerms : a.fTerms = b.fTerms
  case neg =>
    have d := decide_eq_false efTerms
    simp -dsimp -implicitDefEqProofs only [go_sem, ↓reduceIte, keep23, ib23, mk23, Tryz.f23, d]
    exact (decide_eq_false fun e => efTerms (by rw [e])).symm
  have dfTerms := decide_eq_true efTerms
  simp -dsimp -implicitDefEqProofs only [go_sem, ↓reduceIte, keep23, ib23, mk23, Tryz.f23, dfTerms]
  exact (decide_eq_true (DJob.eq_iff.2 ⟨efProgram, efFunc, efShared, efPoint, efTerms⟩)).symm


def keep51 : List Nat := [0, 1, 4, 5, 10, 14, 25]
def ib51 : List Nat := []
def mk51 : Marks := fun id => match id with | 6 => ([], (.op 0 (.op 1 (.op 2 (.op 3 (.op 4 (.op 5 (.op 6 (.op 7 (.op 8 .nil))))))))), []) | _ => ([], .nil, [])
set_option maxRecDepth 100000 in
theorem eq_BoolS (a b : List Bool) : Fn0 Tryz.prog 51 [(sls 1 (fun b => [.bool b]) a), (sls 1 (fun b => [.bool b]) b)] (.bool (decide (a = b))) := by
  refine fn0F 26 keep51 ib51 mk51 mix Tryz.func51 rfl (by kernel_rfl) (by simp) fun h => ?_
  simp -dsimp -implicitDefEqProofs only [go_sem, Tryz.f51, ↓reduceIte, keep51, ib51, mk51]
  refine fun _ _ => ⟨fun hne => ?_, fun heq => ?_⟩
  · exact (decide_eq_false fun e => hne (by rw [e])).symm
  · refine loopF (keep := keep51) (ib := ib51) (mk := mk51) mix (by kernel_rfl) (fun k : Nat => [(0, (sls 1 (fun b => [.bool b]) a)), (1, (sls 1 (fun b => [.bool b]) b)), (5, I k)]) (fun _ => h) (fun k => k ≤ a.length ∧ a.take k = b.take k) (fun k => a.length - k) 0 (by simp [SatL, tget, Heap.le_refl]) ?_
    intro k ⟨hk, hp⟩
    rcases Nat.lt_or_ge k a.length with hlt | hge
    · have hlb : k < b.length := by omega
      have ea : a[k]? = some a[k] := List.getElem?_eq_getElem hlt
      have eb : b[k]? = some b[k] := List.getElem?_eq_getElem hlb
      simp -dsimp -implicitDefEqProofs only [go_sem, ↓reduceIte, keep51, ib51, mk51, Tryz.f51, ea, eb]
      refine fun _ => ⟨fun _ => ⟨hlt, hlb, fun hne => ?_, fun he => ?_⟩, fun hn => absurd hlt hn⟩
      · first
          | exact (decide_eq_false fun e => hne (getElem_of_eq e hlt)).symm
          | exact (decide_eq_false fun e => by have := getElem_of_eq e hlt (hb := hlb); rw [this] at hne; simp at hne).symm
      · exact ⟨k + 1, by rw [IntWalk.i64_in _ (by omega)]; rfl, ⟨by omega, take_step hlt hlb hp (by first | exact he | simpa using he)⟩, by omega⟩
    · have hk' : k = a.length := by omega
      subst hk'
      simp -dsimp -implicitDefEqProofs only [go_sem, ↓reduceIte, keep51, ib51, mk51, Tryz.f51, Nat.lt_irrefl]
      exact fun _ => (decide_eq_true (eq_of_take heq hp)).symm

def keep96 : List Nat := [0, 1, 2, 3, 4, 9, 14, 20]
def ib96 : List Nat := [2, 3]
def mk96 : Marks := fun _ => ([], .nil, [])
set_option maxRecDepth 100000 in
theorem eq_Part (a b : DPart) : Fn0 Tryz.prog 96 [.agg a.c, .agg b.c] (.bool (decide (a = b))) := by
  simp only [DPart.c_eq]
  refine fn0F 21 keep96 ib96 mk96 mix Tryz.func96 rfl (by kernel_rfl) (by simp) fun h => ?_
  simp -dsimp -implicitDefEqProofs only [go_sem, Tryz.f96, ↓reduceIte, keep96, ib96, mk96]
  refine ⟨fun hn => (decide_eq_false fun e => hn (by rw [e])).symm, fun efCode => ?_⟩
  refine ⟨fun hn => (decide_eq_false fun e => hn (by rw [e])).symm, fun efValue => ?_⟩
  refine HFnF.mk (eq_Int64S a.fGrad b.fGrad) ?_
  by_cases efGrad : a.fGrad = b.fGrad
  case neg =>
    have d := decide_eq_false efGrad
    simp -dsimp -implicitDefEqProofs only [go_sem, ↓reduceIte, keep96, ib96, mk96, Tryz.f96, d]
    exact (decide_eq_false fun e => efGrad (by rw [e])).symm
  have dfGrad := decide_eq_true efGrad
  simp -dsimp -implicitDefEqProofs only [go_sem, ↓reduceIte, keep96, ib96, mk96, Tryz.f96, dfGrad]
  exact (decide_eq_true (DPart.eq_iff.2 ⟨efCode, efValue, efGrad⟩)).symm

def keep52 : List Nat := [0, 1, 4, 5, 10, 14, 26]
def ib52 : List Nat := []
def mk52 : Marks := fun id => match id with | 6 => ([], (.op 0 (.op 1 (.op 2 (.op 3 (.op 4 (.op 5 (.op 6 (.op 7 (.op 8 (.op 9 .nil)))))))))), []) | _ => ([], .nil, [])
set_option maxRecDepth 100000 in
theorem eq_PartS (a b : List DPart) (hc : ∀ x ∈ a, ∀ y, Fn0 Tryz.prog 96 [(.agg (DPart.c x)), (.agg (DPart.c y))] (.bool (decide (x = y)))) : Fn0 Tryz.prog 52 [(sls 3 DPart.c a), (sls 3 DPart.c b)] (.bool (decide (a = b))) := by
  refine fn0F 27 keep52 ib52 mk52 mix Tryz.func52 rfl (by kernel_rfl) (by simp) fun h => ?_
  simp -dsimp -implicitDefEqProofs only [go_sem, Tryz.f52, ↓reduceIte, keep52, ib52, mk52]
  refine fun _ _ => ⟨fun hne => ?_, fun heq => ?_⟩
  · exact (decide_eq_false fun e => hne (by rw [e])).symm
  · refine loopF (keep := keep52) (ib := ib52) (mk := mk52) mix (by kernel_rfl) (fun k : Nat => [(0, (sls 3 DPart.c a)), (1, (sls 3 DPart.c b)), (5, I k)]) (fun _ => h) (fun k => k ≤ a.length ∧ a.take k = b.take k) (fun k => a.length - k) 0 (by simp [SatL, tget, Heap.le_refl]) ?_
    intro k ⟨hk, hp⟩
    rcases Nat.lt_or_ge k a.length with hlt | hge
    · have hlb : k < b.length := by omega
      have ea : a[k]? = some a[k] := List.getElem?_eq_getElem hlt
      have eb : b[k]? = some b[k] := List.getElem?_eq_getElem hlb
      simp -dsimp -implicitDefEqProofs only [go_sem, ↓reduceIte, keep52, ib52, mk52, Tryz.f52, ea, eb, DPart.c_eq]
      refine fun _ => ⟨fun _ => ⟨hlt, hlb, ?_⟩, fun hn => absurd hlt hn⟩
      have hx := hc a[k] (List.getElem_mem hlt) b[k]
      simp only [DPart.c_eq] at hx
      refine CallSF.mk hx ?_
      by_cases he : a[k] = b[k]
      · have d := decide_eq_true he
        simp -dsimp -implicitDefEqProofs only [go_sem, ↓reduceIte, keep52, ib52, mk52, Tryz.f52, d]
        exact ⟨k + 1, by rw [IntWalk.i64_in _ (by omega)]; rfl, ⟨by omega, take_step hlt hlb hp he⟩, by omega⟩
      · have d := decide_eq_false he
        simp -dsimp -implicitDefEqProofs only [go_sem, ↓reduceIte, keep52, ib52, mk52, Tryz.f52, d]
        exact (decide_eq_false fun e => he (getElem_of_eq e hlt)).symm
    · have hk' : k = a.length := by omega
      subst hk'
      simp -dsimp -implicitDefEqProofs only [go_sem, ↓reduceIte, keep52, ib52, mk52, Tryz.f52, Nat.lt_irrefl]
      exact fun _ => (decide_eq_true (eq_of_take heq hp)).symm

def keep14 : List Nat := [0, 1, 2, 3, 4, 10, 16, 22, 28, 34]
def ib14 : List Nat := [2, 3]
def mk14 : Marks := fun _ => ([], .nil, [])
set_option maxRecDepth 100000 in
theorem eq_Service (a b : DService) : Fn0 Tryz.prog 14 [.agg a.c, .agg b.c] (.bool (decide (a = b))) := by
  simp only [DService.c_eq]
  refine fn0F 35 keep14 ib14 mk14 mix Tryz.func14 rfl (by kernel_rfl) (by simp) fun h => ?_
  simp -dsimp -implicitDefEqProofs only [go_sem, Tryz.f14, ↓reduceIte, keep14, ib14, mk14]
  refine HFnF.mk (eq_Job a.fJob b.fJob) ?_
  by_cases efJob : a.fJob = b.fJob
  case neg =>
    have d := decide_eq_false efJob
    simp -dsimp -implicitDefEqProofs only [go_sem, ↓reduceIte, keep14, ib14, mk14, Tryz.f14, d]
    exact (decide_eq_false fun e => efJob (by rw [e])).symm
  have dfJob := decide_eq_true efJob
  simp -dsimp -implicitDefEqProofs only [go_sem, ↓reduceIte, keep14, ib14, mk14, Tryz.f14, dfJob]
  refine HFnF.mk (eq_Int64S a.fStamps b.fStamps) ?_
  by_cases efStamps : a.fStamps = b.fStamps
  case neg =>
    have d := decide_eq_false efStamps
    simp -dsimp -implicitDefEqProofs only [go_sem, ↓reduceIte, keep14, ib14, mk14, Tryz.f14, d]
    exact (decide_eq_false fun e => efStamps (by rw [e])).symm
  have dfStamps := decide_eq_true efStamps
  simp -dsimp -implicitDefEqProofs only [go_sem, ↓reduceIte, keep14, ib14, mk14, Tryz.f14, dfStamps]
  refine HFnF.mk (eq_BoolS a.fKnown b.fKnown) ?_
  by_cases efKnown : a.fKnown = b.fKnown
  case neg =>
    have d := decide_eq_false efKnown
    simp -dsimp -implicitDefEqProofs only [go_sem, ↓reduceIte, keep14, ib14, mk14, Tryz.f14, d]
    exact (decide_eq_false fun e => efKnown (by rw [e])).symm
  have dfKnown := decide_eq_true efKnown
  simp -dsimp -implicitDefEqProofs only [go_sem, ↓reduceIte, keep14, ib14, mk14, Tryz.f14, dfKnown]
  refine HFnF.mk (eq_PartS a.fParts b.fParts (fun x _ y => (eq_Part x y))) ?_
  by_cases efParts : a.fParts = b.fParts
  case neg =>
    have d := decide_eq_false efParts
    simp -dsimp -implicitDefEqProofs only [go_sem, ↓reduceIte, keep14, ib14, mk14, Tryz.f14, d]
    exact (decide_eq_false fun e => efParts (by rw [e])).symm
  have dfParts := decide_eq_true efParts
  simp -dsimp -implicitDefEqProofs only [go_sem, ↓reduceIte, keep14, ib14, mk14, Tryz.f14, dfParts]
  refine HFnF.mk (eq_Int64S a.fOwners b.fOwners) ?_
  by_cases efOwners : a.fOwners = b.fOwners
  case neg =>
    have d := decide_eq_false efOwners
    simp -dsimp -implicitDefEqProofs only [go_sem, ↓reduceIte, keep14, ib14, mk14, Tryz.f14, d]
    exact (decide_eq_false fun e => efOwners (by rw [e])).symm
  have dfOwners := decide_eq_true efOwners
  simp -dsimp -implicitDefEqProofs only [go_sem, ↓reduceIte, keep14, ib14, mk14, Tryz.f14, dfOwners]
  exact (decide_eq_true (DService.eq_iff.2 ⟨efJob, efStamps, efKnown, efParts, efOwners⟩)).symm

open Go.Proofs
set_option linter.unusedVariables false
set_option linter.unusedSimpArgs false
def keep6 : List Nat := [0, 1, 2, 3, 6, 7, 8, 9, 10, 11, 12, 13, 14, 15, 16, 17, 22, 48, 53, 69, 77, 80, 97, 102, 105]
def ib6 : List Nat := [3]
def mk6 : Marks := fun id => match id with | 10 => ([0, 2, 3], (.op 1 (.op 0 (.op 2 (.op 3 (.op 4 .nil))))), [(0, 2)]) | _ => ([], .nil, [])
set_option maxRecDepth 100000 in
set_option maxHeartbeats 1000000 in
theorem law_FnExactGiveTerm (a : DService) (k : Int) (w : Int) (h : Heap) : HFn Tryz.prog 6 [.agg a.c, (.int .i64 k), (.int .i64 w)] h fun r _ => r = .bool true := by
  simp only [DService.c_eq]
  refine fnHF 106 keep6 ib6 mk6 mix Tryz.func6 rfl (by kernel_rfl) (by simp) ?_
  simp (maxSteps := 1000000) -dsimp -implicitDefEqProofs only [go_sem, ↓reduceIte, keep6, ib6, mk6, Tryz.f6, Bool.true_or, Bool.or_true, Bool.false_or, Bool.or_false, protF, eq_self, decide_true, Bool.not_true, bne_self_eq_false, upd_upd, upd_get, OV.map_val, OV.map_val_nil, OV.val_v, DService.c_eq]
  refine HFnF.mk (sz_Service a 1048576 (by omega) (by omega)) ?_
  generalize hL0 : lft 1048576 (DService.s a) = L0
  have hs0 := lft_step hL0
  simp (maxSteps := 1000000) -dsimp -implicitDefEqProofs only [go_sem, ↓reduceIte, keep6, ib6, mk6, Tryz.f6, Bool.true_or, Bool.or_true, Bool.false_or, Bool.or_false, protF, eq_self, decide_true, Bool.not_true, bne_self_eq_false, upd_upd, upd_get, OV.map_val, OV.map_val_nil, OV.val_v, DService.c_eq]
  repeat' (with_reducible first | intro _ | refine And.intro ?_ ?_)
  all_goals try (first | exact ⟨_, Heap.le_refl _, rfl⟩ | exact ⟨_, Heap.le_refl _⟩)
  all_goals try omega
  have hn0 := hs0.2 (by omega)
  clear hs0 hL0
  have hz_a : (DService.s a) ≤ 1048576 := by omega
  have hseal := QA.fn0W (GiveTerm a k w (by omega)) (fun e he => DService.o_dat he) (wrap_tup [] [I (giveRes a k w).2])
  refine HFnF.mk (to_Service a hz_a) ?_
  simp (maxSteps := 1000000) -dsimp -implicitDefEqProofs only [go_sem, ↓reduceIte, keep6, ib6, mk6, Tryz.f6, Bool.true_or, Bool.or_true, Bool.false_or, Bool.or_false, protF, eq_self, decide_true, Bool.not_true, bne_self_eq_false, upd_upd, upd_get, OV.map_val, OV.map_val_nil, OV.val_v, DService.c_eq]
  repeat' (with_reducible first | intro _ | refine And.intro ?_ ?_)
  all_goals try trivial
  refine HFnF.mk (QA.fn0W (specGiveTerm a k w (by omega)) (fun e he => DService.o_dat he) (wrap_tup [] [I (giveRes a k w).2])) ?_
  simp (maxSteps := 1000000) -dsimp -implicitDefEqProofs only [go_sem, ↓reduceIte, keep6, ib6, mk6, Tryz.f6, Bool.true_or, Bool.or_true, Bool.false_or, Bool.or_false, protF, eq_self, decide_true, Bool.not_true, bne_self_eq_false, upd_upd, upd_get, OV.map_val, OV.map_val_nil, OV.val_v, DService.c_eq]
  intro nw0 qnw0
  have z0_nw0 := qnw0
  clear qnw0
  try simp (maxSteps := 1000000) -dsimp -implicitDefEqProofs only [go_sem, ↓reduceIte, keep6, ib6, mk6, Tryz.f6, Bool.true_or, Bool.or_true, Bool.false_or, Bool.or_false, protF, eq_self, decide_true, Bool.not_true, bne_self_eq_false, upd_upd, upd_get, OV.map_val, OV.map_val_nil, OV.val_v, DService.c_eq]
  refine HFnF.wn1 (toO_Service a hz_a) z0_nw0 ?_
  rintro r l1 g1 ⟨e0_, oe0, rfl, rfl⟩ w1 z1_nw0
  have oo0 := oe0
  obtain ⟨ya0_0, ya0_3, ya0_4, ya0_5, ya0_6, ya0_7, ya0_8, rfl, oa0_0, oa0_3, oa0_4, oa0_5, oa0_6, oa0_7, oa0_8⟩ := oo0
  have H0x_1 : Owns g1 (OV.rowsRow [ya0_0, .v (.int .i64 a.fJob.fFunc), .v (.int .i64 a.fJob.fShared), ya0_3, ya0_4, ya0_5, ya0_6, ya0_7, ya0_8]) := w1.owns
  simp (maxSteps := 1000000) -dsimp -implicitDefEqProofs only [go_sem, ↓reduceIte, keep6, ib6, mk6, Tryz.f6, Bool.true_or, Bool.or_true, Bool.false_or, Bool.or_false, protF, eq_self, decide_true, Bool.not_true, bne_self_eq_false, upd_upd, upd_get, OV.map_val, OV.map_val_nil, OV.val_v, DService.c_eq, oa0_0.flat, oa0_0.one, oa0_3.flat, oa0_3.one, oa0_4.flat, oa0_4.one, oa0_5.flat, oa0_5.one, oa0_6.flat, oa0_6.one, oa0_7.flat, oa0_7.one, oa0_8.flat, oa0_8.one]
  intro nx0 qnx0
  have dnx0_nw0 : nx0 ≠ nw0 := fun e => by
    first
      | exact qnx0.1 e
      | (rw [if_pos e] at qnx0; cases qnx0)
  have enx0_nw0 : (nx0 = nw0) = False := eq_false dnx0_nw0
  have fnx0_nw0 : (nw0 = nx0) = False := eq_false (fun e => dnx0_nw0 e.symm)
  first
    | (rw [if_neg dnx0_nw0] at qnx0)
    | (replace qnx0 := qnx0.2)
  have z1_nx0 := qnx0
  clear qnx0
  try simp (maxSteps := 1000000) -dsimp -implicitDefEqProofs only [go_sem, ↓reduceIte, keep6, ib6, mk6, Tryz.f6, Bool.true_or, Bool.or_true, Bool.false_or, Bool.or_false, protF, eq_self, decide_true, Bool.not_true, bne_self_eq_false, upd_upd, upd_get, OV.map_val, OV.map_val_nil, OV.val_v, DService.c_eq, enx0_nw0, fnx0_nw0, oa0_0.flat, oa0_0.one, oa0_3.flat, oa0_3.one, oa0_4.flat, oa0_4.one, oa0_5.flat, oa0_5.one, oa0_6.flat, oa0_6.one, oa0_7.flat, oa0_7.one, oa0_8.flat, oa0_8.one]
  refine HFnF.wl2 (GiveTerm a k w (by omega)) (ViewL.cons (View.aggD [ya0_0, .v (.int .i64 a.fJob.fFunc), .v (.int .i64 a.fJob.fShared), ya0_3, ya0_4, ya0_5, ya0_6, ya0_7, ya0_8] (DService.o_dat oe0) (Owns.up2 z1_nw0 ⟨dnx0_nw0, z1_nx0⟩ H0x_1)) (ViewL.cons (View.same _ _) (ViewL.cons (View.same _ _) ViewL.nil))) (QA.solid (fun e he => DService.o_sol _ e he) (fun x hx => by simp [HVal.solid, HVal.solidL, hx])) z1_nw0 ⟨dnx0_nw0, z1_nx0⟩ ?_
  rintro r l2 g2 ⟨eg_, oeg, rfl, rfl⟩ w2 z2_nw0 z2_nx0
  have oog := oeg
  obtain ⟨yg_0, yg_3, yg_4, yg_5, yg_6, yg_7, yg_8, rfl, og_0, og_3, og_4, og_5, og_6, og_7, og_8⟩ := oog
  have H0x_2 : Owns g2 (OV.rowsRow [ya0_0, .v (.int .i64 a.fJob.fFunc), .v (.int .i64 a.fJob.fShared), ya0_3, ya0_4, ya0_5, ya0_6, ya0_7, ya0_8]) := fun p hp => w2.keep (H0x_1 p hp)
  have Hg_2 : Owns g2 (OV.rowsRow [yg_0, .v (.int .i64 (giveRes a k w).1.fJob.fFunc), .v (.int .i64 (giveRes a k w).1.fJob.fShared), yg_3, yg_4, yg_5, yg_6, yg_7, yg_8]) := w2.owns
  have apH0x : ∀ m ∈ namesOf (OV.rowsRow [ya0_0, .v (.int .i64 a.fJob.fFunc), .v (.int .i64 a.fJob.fShared), ya0_3, ya0_4, ya0_5, ya0_6, ya0_7, ya0_8]), m ∉ namesOf (OV.rowsRow [yg_0, .v (.int .i64 (giveRes a k w).1.fJob.fFunc), .v (.int .i64 (giveRes a k w).1.fJob.fShared), yg_3, yg_4, yg_5, yg_6, yg_7, yg_8]) := fun m hm hq => by
    obtain ⟨x, hx⟩ := mem_namesOf.1 hm
    have h1 := w2.fresh m hq
    have h2 := H0x_1 (m, x) hx
    rw [h1] at h2; cases h2
  have nd0 := w1.nodup
  have ndg := w2.nodup
  simp (maxSteps := 1000000) -dsimp -implicitDefEqProofs only [go_sem, ↓reduceIte, keep6, ib6, mk6, Tryz.f6, Bool.true_or, Bool.or_true, Bool.false_or, Bool.or_false, protF, eq_self, decide_true, Bool.not_true, bne_self_eq_false, upd_upd, upd_get, OV.map_val, OV.map_val_nil, OV.val_v, DService.c_eq, enx0_nw0, fnx0_nw0, oa0_0.flat, oa0_0.one, oa0_3.flat, oa0_3.one, oa0_4.flat, oa0_4.one, oa0_5.flat, oa0_5.one, oa0_6.flat, oa0_6.one, oa0_7.flat, oa0_7.one, oa0_8.flat, oa0_8.one, og_0.flat, og_0.one, og_3.flat, og_3.one, og_4.flat, og_4.one, og_5.flat, og_5.one, og_6.flat, og_6.one, og_7.flat, og_7.one, og_8.flat, og_8.one]
  intro ng qng
  have dng_nx0 : ng ≠ nx0 := fun e => by
    first
      | exact qng.1 e
      | (rw [if_pos e] at qng; cases qng)
  have eng_nx0 : (ng = nx0) = False := eq_false dng_nx0
  have fng_nx0 : (nx0 = ng) = False := eq_false (fun e => dng_nx0 e.symm)
  first
    | (rw [if_neg dng_nx0] at qng)
    | (replace qng := qng.2)
  have dng_nw0 : ng ≠ nw0 := fun e => by
    first
      | exact qng.1 e
      | (rw [if_pos e] at qng; cases qng)
  have eng_nw0 : (ng = nw0) = False := eq_false dng_nw0
  have fng_nw0 : (nw0 = ng) = False := eq_false (fun e => dng_nw0 e.symm)
  first
    | (rw [if_neg dng_nw0] at qng)
    | (replace qng := qng.2)
  have z2_ng := qng
  clear qng
  try simp (maxSteps := 1000000) -dsimp -implicitDefEqProofs only [go_sem, ↓reduceIte, keep6, ib6, mk6, Tryz.f6, Bool.true_or, Bool.or_true, Bool.false_or, Bool.or_false, protF, eq_self, decide_true, Bool.not_true, bne_self_eq_false, upd_upd, upd_get, OV.map_val, OV.map_val_nil, OV.val_v, DService.c_eq, enx0_nw0, fnx0_nw0, eng_nx0, fng_nx0, eng_nw0, fng_nw0, oa0_0.flat, oa0_0.one, oa0_3.flat, oa0_3.one, oa0_4.flat, oa0_4.one, oa0_5.flat, oa0_5.one, oa0_6.flat, oa0_6.one, oa0_7.flat, oa0_7.one, oa0_8.flat, oa0_8.one, og_0.flat, og_0.one, og_3.flat, og_3.one, og_4.flat, og_4.one, og_5.flat, og_5.one, og_6.flat, og_6.one, og_7.flat, og_7.one, og_8.flat, og_8.one]
  refine HFnF.lend0 (eq_Service (giveRes a k w).1 (giveRes a k w).1) (ViewL.cons (View.aggD [yg_0, .v (.int .i64 (giveRes a k w).1.fJob.fFunc), .v (.int .i64 (giveRes a k w).1.fJob.fShared), yg_3, yg_4, yg_5, yg_6, yg_7, yg_8] (DService.o_dat oeg) (Owns.up3 z2_nw0 ⟨dnx0_nw0, z2_nx0⟩ ⟨dng_nx0, dng_nw0, z2_ng⟩ Hg_2)) (ViewL.cons (by first | exact View.same _ _ | (simp only [DService.c_eq]; exact View.same _ _)) ViewL.nil)) rfl ?_
  simp (maxSteps := 1000000) -dsimp -implicitDefEqProofs only [go_sem, ↓reduceIte, keep6, ib6, mk6, Tryz.f6, Bool.true_or, Bool.or_true, Bool.false_or, Bool.or_false, protF, eq_self, decide_true, Bool.not_true, bne_self_eq_false, upd_upd, upd_get, OV.map_val, OV.map_val_nil, OV.val_v, DService.c_eq, enx0_nw0, fnx0_nw0, eng_nx0, fng_nx0, eng_nw0, fng_nw0, oa0_0.flat, oa0_0.one, oa0_3.flat, oa0_3.one, oa0_4.flat, oa0_4.one, oa0_5.flat, oa0_5.one, oa0_6.flat, oa0_6.one, oa0_7.flat, oa0_7.one, oa0_8.flat, oa0_8.one, og_0.flat, og_0.one, og_3.flat, og_3.one, og_4.flat, og_4.one, og_5.flat, og_5.one, og_6.flat, og_6.one, og_7.flat, og_7.one, og_8.flat, og_8.one]
  repeat' (with_reducible first | intro _ | refine And.intro ?_ ?_)
  all_goals try (first | exact ⟨_, Heap.le_refl _, rfl⟩ | exact ⟨_, Heap.le_refl _⟩)
  all_goals try omega
  refine HFnF.mk (to_Service a hz_a) ?_
  simp (maxSteps := 1000000) -dsimp -implicitDefEqProofs only [go_sem, ↓reduceIte, keep6, ib6, mk6, Tryz.f6, Bool.true_or, Bool.or_true, Bool.false_or, Bool.or_false, protF, eq_self, decide_true, Bool.not_true, bne_self_eq_false, upd_upd, upd_get, OV.map_val, OV.map_val_nil, OV.val_v, DService.c_eq, enx0_nw0, fnx0_nw0, eng_nx0, fng_nx0, eng_nw0, fng_nw0, oa0_0.flat, oa0_0.one, oa0_3.flat, oa0_3.one, oa0_4.flat, oa0_4.one, oa0_5.flat, oa0_5.one, oa0_6.flat, oa0_6.one, oa0_7.flat, oa0_7.one, oa0_8.flat, oa0_8.one, og_0.flat, og_0.one, og_3.flat, og_3.one, og_4.flat, og_4.one, og_5.flat, og_5.one, og_6.flat, og_6.one, og_7.flat, og_7.one, og_8.flat, og_8.one]
  repeat' (with_reducible first | intro _ | refine And.intro ?_ ?_)
  all_goals try trivial
  refine HFnF.lend0 (eq_Service a a) (ViewL.cons (View.aggD [ya0_0, .v (.int .i64 a.fJob.fFunc), .v (.int .i64 a.fJob.fShared), ya0_3, ya0_4, ya0_5, ya0_6, ya0_7, ya0_8] (DService.o_dat oe0) (Owns.up3 z2_nw0 ⟨dnx0_nw0, z2_nx0⟩ ⟨dng_nx0, dng_nw0, z2_ng⟩ H0x_2)) (ViewL.cons (by first | exact View.same _ _ | (simp only [DService.c_eq]; exact View.same _ _)) ViewL.nil)) rfl ?_
  simp (maxSteps := 1000000) -dsimp -implicitDefEqProofs only [go_sem, ↓reduceIte, keep6, ib6, mk6, Tryz.f6, Bool.true_or, Bool.or_true, Bool.false_or, Bool.or_false, protF, eq_self, decide_true, Bool.not_true, bne_self_eq_false, upd_upd, upd_get, OV.map_val, OV.map_val_nil, OV.val_v, DService.c_eq, enx0_nw0, fnx0_nw0, eng_nx0, fng_nx0, eng_nw0, fng_nw0, oa0_0.flat, oa0_0.one, oa0_3.flat, oa0_3.one, oa0_4.flat, oa0_4.one, oa0_5.flat, oa0_5.one, oa0_6.flat, oa0_6.one, oa0_7.flat, oa0_7.one, oa0_8.flat, oa0_8.one, og_0.flat, og_0.one, og_3.flat, og_3.one, og_4.flat, og_4.one, og_5.flat, og_5.one, og_6.flat, og_6.one, og_7.flat, og_7.one, og_8.flat, og_8.one]
  repeat' (with_reducible first | intro _ | refine And.intro ?_ ?_)
  all_goals try (first | exact ⟨_, Heap.le_refl _, rfl⟩ | exact ⟨_, Heap.le_refl _⟩)
  all_goals try omega
  have hct0 := DService.o_top a _ oe0
  refine HFnF.wc3 (mark_Service a [ya0_0, .v (.int .i64 a.fJob.fFunc), .v (.int .i64 a.fJob.fShared), ya0_3, ya0_4, ya0_5, ya0_6, ya0_7, ya0_8] (1 : Int) _ oe0 (by omega) (by omega) (Owns.up3 z2_nw0 ⟨dnx0_nw0, z2_nx0⟩ ⟨dng_nx0, dng_nw0, z2_ng⟩ H0x_2) nd0) H0x_2 z2_nw0 ⟨dnx0_nw0, z2_nx0⟩ ⟨dng_nx0, dng_nw0, z2_ng⟩ ?_
  rintro g3 cg3 z3_nw0 z3_nx0 z3_ng
  obtain ⟨cc0, hcc0⟩ : ∃ z : Int, z = (1 : Int) + ((OV.ctTop [ya0_0, .v (.int .i64 a.fJob.fFunc), .v (.int .i64 a.fJob.fShared), ya0_3, ya0_4, ya0_5, ya0_6, ya0_7, ya0_8] : Nat) : Int) := ⟨_, rfl⟩
  rw [← hcc0]
  have Hg_3 : Owns g3 (OV.rowsRow [yg_0, .v (.int .i64 (giveRes a k w).1.fJob.fFunc), .v (.int .i64 (giveRes a k w).1.fJob.fShared), yg_3, yg_4, yg_5, yg_6, yg_7, yg_8]) := fun p hp => by
    have hm : p.1 ∈ namesOf (OV.rowsRow [yg_0, .v (.int .i64 (giveRes a k w).1.fJob.fFunc), .v (.int .i64 (giveRes a k w).1.fJob.fShared), yg_3, yg_4, yg_5, yg_6, yg_7, yg_8]) := mem_namesOf.2 ⟨p.2, hp⟩
    rw [cg3.upto p.1 (fun hq => apH0x p.1 hq hm)]
    exact Hg_2 p hp
  simp (maxSteps := 1000000) -dsimp -implicitDefEqProofs only [go_sem, ↓reduceIte, keep6, ib6, mk6, Tryz.f6, Bool.true_or, Bool.or_true, Bool.false_or, Bool.or_false, protF, eq_self, decide_true, Bool.not_true, bne_self_eq_false, upd_upd, upd_get, OV.map_val, OV.map_val_nil, OV.val_v, DService.c_eq, enx0_nw0, fnx0_nw0, eng_nx0, fng_nx0, eng_nw0, fng_nw0, oa0_0.flat, oa0_0.one, oa0_3.flat, oa0_3.one, oa0_4.flat, oa0_4.one, oa0_5.flat, oa0_5.one, oa0_6.flat, oa0_6.one, oa0_7.flat, oa0_7.one, oa0_8.flat, oa0_8.one, og_0.flat, og_0.one, og_3.flat, og_3.one, og_4.flat, og_4.one, og_5.flat, og_5.one, og_6.flat, og_6.one, og_7.flat, og_7.one, og_8.flat, og_8.one]
  repeat' (with_reducible first | intro _ | refine And.intro ?_ ?_)
  all_goals try (first | exact ⟨_, Heap.le_refl _, rfl⟩ | exact ⟨_, Heap.le_refl _⟩)
  all_goals try omega
  refine HFnF.lend0 (eq_Service (giveRes a k w).1 (giveRes a k w).1) (ViewL.cons (View.aggD [yg_0, .v (.int .i64 (giveRes a k w).1.fJob.fFunc), .v (.int .i64 (giveRes a k w).1.fJob.fShared), yg_3, yg_4, yg_5, yg_6, yg_7, yg_8] (DService.o_dat oeg) (Owns.up3 z3_nw0 ⟨dnx0_nw0, z3_nx0⟩ ⟨dng_nx0, dng_nw0, z3_ng⟩ Hg_3)) (ViewL.cons (by first | exact View.same _ _ | (simp only [DService.c_eq]; exact View.same _ _)) ViewL.nil)) rfl ?_
  simp (maxSteps := 1000000) -dsimp -implicitDefEqProofs only [go_sem, ↓reduceIte, keep6, ib6, mk6, Tryz.f6, Bool.true_or, Bool.or_true, Bool.false_or, Bool.or_false, protF, eq_self, decide_true, Bool.not_true, bne_self_eq_false, upd_upd, upd_get, OV.map_val, OV.map_val_nil, OV.val_v, DService.c_eq, enx0_nw0, fnx0_nw0, eng_nx0, fng_nx0, eng_nw0, fng_nw0, oa0_0.flat, oa0_0.one, oa0_3.flat, oa0_3.one, oa0_4.flat, oa0_4.one, oa0_5.flat, oa0_5.one, oa0_6.flat, oa0_6.one, oa0_7.flat, oa0_7.one, oa0_8.flat, oa0_8.one, og_0.flat, og_0.one, og_3.flat, og_3.one, og_4.flat, og_4.one, og_5.flat, og_5.one, og_6.flat, og_6.one, og_7.flat, og_7.one, og_8.flat, og_8.one]
  repeat' (with_reducible first | intro _ | refine And.intro ?_ ?_)
  all_goals try (first | exact ⟨_, Heap.le_refl _, rfl⟩ | exact ⟨_, Heap.le_refl _⟩)
  all_goals try omega
  have hctg : OV.ctTop [yg_0, .v (.int .i64 (giveRes a k w).1.fJob.fFunc), .v (.int .i64 (giveRes a k w).1.fJob.fShared), yg_3, yg_4, yg_5, yg_6, yg_7, yg_8] ≤ 4000000000000000000 := by have h1 := DService.o_top _ _ oeg; have h2 := giveRes_s a k w; omega
  refine HFnF.wc3 (mark_Service _ [yg_0, .v (.int .i64 (giveRes a k w).1.fJob.fFunc), .v (.int .i64 (giveRes a k w).1.fJob.fShared), yg_3, yg_4, yg_5, yg_6, yg_7, yg_8] 1 _ oeg (by omega) (by omega) (Owns.up3 z3_nw0 ⟨dnx0_nw0, z3_nx0⟩ ⟨dng_nx0, dng_nw0, z3_ng⟩ Hg_3) ndg) Hg_3 z3_nw0 ⟨dnx0_nw0, z3_nx0⟩ ⟨dng_nx0, dng_nw0, z3_ng⟩ ?_
  rintro g4 cg4 z4_nw0 z4_nx0 z4_ng
  obtain ⟨ccg, hccg⟩ : ∃ z : Int, z = 1 + ((OV.ctTop [yg_0, .v (.int .i64 (giveRes a k w).1.fJob.fFunc), .v (.int .i64 (giveRes a k w).1.fJob.fShared), yg_3, yg_4, yg_5, yg_6, yg_7, yg_8] : Nat) : Int) := ⟨_, rfl⟩
  rw [← hccg]
  simp (maxSteps := 1000000) -dsimp -implicitDefEqProofs only [go_sem, ↓reduceIte, keep6, ib6, mk6, Tryz.f6, Bool.true_or, Bool.or_true, Bool.false_or, Bool.or_false, protF, eq_self, decide_true, Bool.not_true, bne_self_eq_false, upd_upd, upd_get, OV.map_val, OV.map_val_nil, OV.val_v, DService.c_eq, enx0_nw0, fnx0_nw0, eng_nx0, fng_nx0, eng_nw0, fng_nw0, oa0_0.flat, oa0_0.one, oa0_3.flat, oa0_3.one, oa0_4.flat, oa0_4.one, oa0_5.flat, oa0_5.one, oa0_6.flat, oa0_6.one, oa0_7.flat, oa0_7.one, oa0_8.flat, oa0_8.one, og_0.flat, og_0.one, og_3.flat, og_3.one, og_4.flat, og_4.one, og_5.flat, og_5.one, og_6.flat, og_6.one, og_7.flat, og_7.one, og_8.flat, og_8.one]
  repeat' (with_reducible first | intro _ | refine And.intro ?_ ?_)
  all_goals try (first | exact ⟨_, Heap.le_refl _, rfl⟩ | exact ⟨_, Heap.le_refl _⟩)
  all_goals try omega
  have hh := held_Service _ [yg_0, .v (.int .i64 (giveRes a k w).1.fJob.fFunc), .v (.int .i64 (giveRes a k w).1.fJob.fShared), yg_3, yg_4, yg_5, yg_6, yg_7, yg_8] 1 oeg (by omega) (by omega)
  rw [← hccg] at hh
  refine HFnF.lend0 hh (ViewL.cons (View.aggM 1 [yg_0, .v (.int .i64 (giveRes a k w).1.fJob.fFunc), .v (.int .i64 (giveRes a k w).1.fJob.fShared), yg_3, yg_4, yg_5, yg_6, yg_7, yg_8] (Owns.up3 z4_nw0 ⟨dnx0_nw0, z4_nx0⟩ ⟨dng_nx0, dng_nw0, z4_ng⟩ cg4.owns)) (ViewL.cons (View.same _ _) ViewL.nil)) rfl ?_
  simp (maxSteps := 1000000) -dsimp -implicitDefEqProofs only [go_sem, ↓reduceIte, keep6, ib6, mk6, Tryz.f6, Bool.true_or, Bool.or_true, Bool.false_or, Bool.or_false, protF, eq_self, decide_true, Bool.not_true, bne_self_eq_false, upd_upd, upd_get, OV.map_val, OV.map_val_nil, OV.val_v, DService.c_eq, enx0_nw0, fnx0_nw0, eng_nx0, fng_nx0, eng_nw0, fng_nw0, oa0_0.flat, oa0_0.one, oa0_3.flat, oa0_3.one, oa0_4.flat, oa0_4.one, oa0_5.flat, oa0_5.one, oa0_6.flat, oa0_6.one, oa0_7.flat, oa0_7.one, oa0_8.flat, oa0_8.one, og_0.flat, og_0.one, og_3.flat, og_3.one, og_4.flat, og_4.one, og_5.flat, og_5.one, og_6.flat, og_6.one, og_7.flat, og_7.one, og_8.flat, og_8.one]
  repeat' (with_reducible first | intro _ | refine And.intro ?_ ?_)
  all_goals try (first | exact ⟨_, Heap.le_refl _, rfl⟩ | exact ⟨_, Heap.le_refl _⟩)
  all_goals try omega
  refine HFnF.mk (to_Service a hz_a) ?_
  simp (maxSteps := 1000000) -dsimp -implicitDefEqProofs only [go_sem, ↓reduceIte, keep6, ib6, mk6, Tryz.f6, Bool.true_or, Bool.or_true, Bool.false_or, Bool.or_false, protF, eq_self, decide_true, Bool.not_true, bne_self_eq_false, upd_upd, upd_get, OV.map_val, OV.map_val_nil, OV.val_v, DService.c_eq, enx0_nw0, fnx0_nw0, eng_nx0, fng_nx0, eng_nw0, fng_nw0, oa0_0.flat, oa0_0.one, oa0_3.flat, oa0_3.one, oa0_4.flat, oa0_4.one, oa0_5.flat, oa0_5.one, oa0_6.flat, oa0_6.one, oa0_7.flat, oa0_7.one, oa0_8.flat, oa0_8.one, og_0.flat, og_0.one, og_3.flat, og_3.one, og_4.flat, og_4.one, og_5.flat, og_5.one, og_6.flat, og_6.one, og_7.flat, og_7.one, og_8.flat, og_8.one]
  repeat' (with_reducible first | intro _ | refine And.intro ?_ ?_)
  all_goals try trivial
  refine HFnF.mk (hseal) ?_
  simp (maxSteps := 1000000) -dsimp -implicitDefEqProofs only [go_sem, ↓reduceIte, keep6, ib6, mk6, Tryz.f6, Bool.true_or, Bool.or_true, Bool.false_or, Bool.or_false, protF, eq_self, decide_true, Bool.not_true, bne_self_eq_false, upd_upd, upd_get, OV.map_val, OV.map_val_nil, OV.val_v, DService.c_eq, enx0_nw0, fnx0_nw0, eng_nx0, fng_nx0, eng_nw0, fng_nw0, oa0_0.flat, oa0_0.one, oa0_3.flat, oa0_3.one, oa0_4.flat, oa0_4.one, oa0_5.flat, oa0_5.one, oa0_6.flat, oa0_6.one, oa0_7.flat, oa0_7.one, oa0_8.flat, oa0_8.one, og_0.flat, og_0.one, og_3.flat, og_3.one, og_4.flat, og_4.one, og_5.flat, og_5.one, og_6.flat, og_6.one, og_7.flat, og_7.one, og_8.flat, og_8.one]
  intro nh qnh
  have dnh_ng : nh ≠ ng := fun e => by
    first
      | exact qnh.1 e
      | (rw [if_pos e] at qnh; cases qnh)
  have enh_ng : (nh = ng) = False := eq_false dnh_ng
  have fnh_ng : (ng = nh) = False := eq_false (fun e => dnh_ng e.symm)
  first
    | (rw [if_neg dnh_ng] at qnh)
    | (replace qnh := qnh.2)
  have dnh_nx0 : nh ≠ nx0 := fun e => by
    first
      | exact qnh.1 e
      | (rw [if_pos e] at qnh; cases qnh)
  have enh_nx0 : (nh = nx0) = False := eq_false dnh_nx0
  have fnh_nx0 : (nx0 = nh) = False := eq_false (fun e => dnh_nx0 e.symm)
  first
    | (rw [if_neg dnh_nx0] at qnh)
    | (replace qnh := qnh.2)
  have dnh_nw0 : nh ≠ nw0 := fun e => by
    first
      | exact qnh.1 e
      | (rw [if_pos e] at qnh; cases qnh)
  have enh_nw0 : (nh = nw0) = False := eq_false dnh_nw0
  have fnh_nw0 : (nw0 = nh) = False := eq_false (fun e => dnh_nw0 e.symm)
  first
    | (rw [if_neg dnh_nw0] at qnh)
    | (replace qnh := qnh.2)
  have z4_nh := qnh
  clear qnh
  try simp (maxSteps := 1000000) -dsimp -implicitDefEqProofs only [go_sem, ↓reduceIte, keep6, ib6, mk6, Tryz.f6, Bool.true_or, Bool.or_true, Bool.false_or, Bool.or_false, protF, eq_self, decide_true, Bool.not_true, bne_self_eq_false, upd_upd, upd_get, OV.map_val, OV.map_val_nil, OV.val_v, DService.c_eq, enx0_nw0, fnx0_nw0, eng_nx0, fng_nx0, eng_nw0, fng_nw0, enh_ng, fnh_ng, enh_nx0, fnh_nx0, enh_nw0, fnh_nw0, oa0_0.flat, oa0_0.one, oa0_3.flat, oa0_3.one, oa0_4.flat, oa0_4.one, oa0_5.flat, oa0_5.one, oa0_6.flat, oa0_6.one, oa0_7.flat, oa0_7.one, oa0_8.flat, oa0_8.one, og_0.flat, og_0.one, og_3.flat, og_3.one, og_4.flat, og_4.one, og_5.flat, og_5.one, og_6.flat, og_6.one, og_7.flat, og_7.one, og_8.flat, og_8.one]
  refine HFnF.mk (eq_Service (giveRes a k w).1 (giveRes a k w).1) ?_
  simp (maxSteps := 1000000) -dsimp -implicitDefEqProofs only [go_sem, ↓reduceIte, keep6, ib6, mk6, Tryz.f6, Bool.true_or, Bool.or_true, Bool.false_or, Bool.or_false, protF, eq_self, decide_true, Bool.not_true, bne_self_eq_false, upd_upd, upd_get, OV.map_val, OV.map_val_nil, OV.val_v, DService.c_eq, enx0_nw0, fnx0_nw0, eng_nx0, fng_nx0, eng_nw0, fng_nw0, enh_ng, fnh_ng, enh_nx0, fnh_nx0, enh_nw0, fnh_nw0, oa0_0.flat, oa0_0.one, oa0_3.flat, oa0_3.one, oa0_4.flat, oa0_4.one, oa0_5.flat, oa0_5.one, oa0_6.flat, oa0_6.one, oa0_7.flat, oa0_7.one, oa0_8.flat, oa0_8.one, og_0.flat, og_0.one, og_3.flat, og_3.one, og_4.flat, og_4.one, og_5.flat, og_5.one, og_6.flat, og_6.one, og_7.flat, og_7.one, og_8.flat, og_8.one]
  repeat' (with_reducible first | intro _ | refine And.intro ?_ ?_)
  all_goals try (first | exact ⟨_, Heap.le_refl _, rfl⟩ | exact ⟨_, Heap.le_refl _⟩)
  all_goals try omega
  have hh := held_Service _ [yg_0, .v (.int .i64 (giveRes a k w).1.fJob.fFunc), .v (.int .i64 (giveRes a k w).1.fJob.fShared), yg_3, yg_4, yg_5, yg_6, yg_7, yg_8] 1 oeg (by omega) (by omega)
  rw [← hccg] at hh
  refine HFnF.lend0 hh (ViewL.cons (View.aggM 1 [yg_0, .v (.int .i64 (giveRes a k w).1.fJob.fFunc), .v (.int .i64 (giveRes a k w).1.fJob.fShared), yg_3, yg_4, yg_5, yg_6, yg_7, yg_8] (Owns.up4 z4_nw0 ⟨dnx0_nw0, z4_nx0⟩ ⟨dng_nx0, dng_nw0, z4_ng⟩ ⟨dnh_ng, dnh_nx0, dnh_nw0, z4_nh⟩ cg4.owns)) (ViewL.cons (View.same _ _) ViewL.nil)) rfl ?_
  simp (maxSteps := 1000000) -dsimp -implicitDefEqProofs only [go_sem, ↓reduceIte, keep6, ib6, mk6, Tryz.f6, Bool.true_or, Bool.or_true, Bool.false_or, Bool.or_false, protF, eq_self, decide_true, Bool.not_true, bne_self_eq_false, upd_upd, upd_get, OV.map_val, OV.map_val_nil, OV.val_v, DService.c_eq, enx0_nw0, fnx0_nw0, eng_nx0, fng_nx0, eng_nw0, fng_nw0, enh_ng, fnh_ng, enh_nx0, fnh_nx0, enh_nw0, fnh_nw0, oa0_0.flat, oa0_0.one, oa0_3.flat, oa0_3.one, oa0_4.flat, oa0_4.one, oa0_5.flat, oa0_5.one, oa0_6.flat, oa0_6.one, oa0_7.flat, oa0_7.one, oa0_8.flat, oa0_8.one, og_0.flat, og_0.one, og_3.flat, og_3.one, og_4.flat, og_4.one, og_5.flat, og_5.one, og_6.flat, og_6.one, og_7.flat, og_7.one, og_8.flat, og_8.one]
  repeat' (with_reducible first | intro _ | refine And.intro ?_ ?_)
  all_goals try (first | exact ⟨_, Heap.le_refl _, rfl⟩ | exact ⟨_, Heap.le_refl _⟩)
  all_goals try omega

open Go.Proofs
set_option linter.unusedVariables false
set_option linter.unusedSimpArgs false
theorem dat_i64 {P : Program} {n : Nat} {t : TypeId} {xs : List HVal} (hu : P.underlying t = some (.int .i64)) (h : Dat P n t xs) : ∃ i : Int, xs = [I i] ∧ InI i := by
  match n, h with
  | 0, h => exact h.elim
  | n + 1, h =>
    simp only [Dat, hu] at h
    obtain ⟨i, rfl, hw⟩ := h
    refine ⟨i, rfl, ?_⟩
    have h1 : IntKind.min .i64 = -9223372036854775808 := by decide
    have h2 : IntKind.max .i64 = 9223372036854775807 := by decide
    simp [Lit.wf, IntKind.has, h1, h2] at hw
    unfold InI
    omega
theorem dat_bool {P : Program} {n : Nat} {t : TypeId} {xs : List HVal} (hu : P.underlying t = some .bool) (h : Dat P n t xs) : ∃ b : Bool, xs = [.bool b] ∧ True := by
  match n, h with
  | 0, h => exact h.elim
  | n + 1, h =>
    simp only [Dat, hu] at h
    obtain ⟨b, rfl⟩ := h
    exact ⟨b, rfl, trivial⟩
theorem dat_str {P : Program} {n : Nat} {t : TypeId} {xs : List HVal} (hu : P.underlying t = some .string) (h : Dat P n t xs) : ∃ s : List UInt8, xs = [.str s] ∧ True := by
  match n, h with
  | 0, h => exact h.elim
  | n + 1, h =>
    simp only [Dat, hu] at h
    obtain ⟨b, rfl⟩ := h
    exact ⟨b, rfl, trivial⟩
theorem list_of {α : Type} {c : α → List HVal} {w : α → Prop} : ∀ {es : List (List HVal)}, (∀ y ∈ es, ∃ x, y = c x ∧ w x) → ∃ l : List α, es = l.map c ∧ ∀ x ∈ l, w x
  | [], _ => ⟨[], rfl, by simp⟩
  | e :: es, h => by
    obtain ⟨x, rfl, hx⟩ := h _ List.mem_cons_self
    obtain ⟨l, rfl, hl⟩ := list_of fun y hy => h y (List.mem_cons_of_mem _ hy)
    refine ⟨x :: l, rfl, fun y hy => ?_⟩
    rcases List.mem_cons.1 hy with rfl | hy
    · exact hx
    · exact hl y hy
theorem dat_slice {P : Program} {n sz : Nat} {t e : TypeId} {α : Type} {c : α → List HVal} {w : α → Prop} {xs : List HVal} (hu : P.underlying t = some (.slice e)) (hc : P.cellsOf e = sz) (h : Dat P n t xs)
    (hx : ∀ m y, m < n → Dat P m e y → ∃ x, y = c x ∧ w x) : ∃ l : List α, xs = [sls sz c l] ∧ ∀ x ∈ l, w x := by
  match n, h with
  | 0, h => exact h.elim
  | n + 1, h =>
    simp only [Dat, hu] at h
    obtain ⟨es, rfl, hes⟩ := h
    obtain ⟨l, rfl, hl⟩ := list_of fun y hy => hx n y (by omega) (hes y hy)
    exact ⟨l, by rw [hc], hl⟩
theorem drop_split {α : Type} {xs c r : List α} {o n o' : Nat} (h : (xs.drop o).take n = c) (hr : xs.drop o' = r) (ho : o + n = o') : xs.drop o = c ++ r := by
  rw [← hr, ← ho, ← List.drop_drop, ← h, List.take_append_drop]
theorem cells32 : Tryz.prog.cellsOf 32 = 9 := by kernel_rfl
theorem cells2 : Tryz.prog.cellsOf 2 = 1 := by kernel_rfl
theorem cells159 : Tryz.prog.cellsOf 159 = 1 := by kernel_rfl
theorem cells189 : Tryz.prog.cellsOf 189 = 5 := by kernel_rfl
theorem cells9 : Tryz.prog.cellsOf 9 = 1 := by kernel_rfl
theorem cells161 : Tryz.prog.cellsOf 161 = 3 := by kernel_rfl
theorem cells22 : Tryz.prog.cellsOf 22 = 1 := by kernel_rfl
theorem cells24 : Tryz.prog.cellsOf 24 = 1 := by kernel_rfl
theorem cells25 : Tryz.prog.cellsOf 25 = 1 := by kernel_rfl
theorem cells26 : Tryz.prog.cellsOf 26 = 1 := by kernel_rfl
theorem cells28 : Tryz.prog.cellsOf 28 = 5 := by kernel_rfl
theorem cells72 : Tryz.prog.cellsOf 72 = 3 := by kernel_rfl
theorem cells29 : Tryz.prog.cellsOf 29 = 1 := by kernel_rfl
theorem cells4 : Tryz.prog.cellsOf 4 = 1 := by kernel_rfl
theorem cells30 : Tryz.prog.cellsOf 30 = 1 := by kernel_rfl
set_option maxRecDepth 100000 in
theorem dat_189 : ∀ {n : Nat} {xs : List HVal}, Dat Tryz.prog n 189 xs → ∃ x : DExpr, xs = x.c ∧ x.wf
  | 0, _, h => h.elim
  | n + 1, xs, h => by
    simp only [Dat, Tryz.underlying189] at h
    obtain ⟨hl, hf⟩ := h
    rw [cells189] at hl
    have f0 : Dat Tryz.prog n 2 ((xs.drop 0).take (Tryz.prog.cellsOf 2)) := hf 0 _ rfl
    rw [cells2] at f0
    obtain ⟨x0, e0, w0⟩ := (dat_i64 Tryz.underlying2 f0)
    have f1 : Dat Tryz.prog n 2 ((xs.drop 1).take (Tryz.prog.cellsOf 2)) := hf 1 _ rfl
    rw [cells2] at f1
    obtain ⟨x1, e1, w1⟩ := (dat_i64 Tryz.underlying2 f1)
    have f2 : Dat Tryz.prog n 2 ((xs.drop 2).take (Tryz.prog.cellsOf 2)) := hf 2 _ rfl
    rw [cells2] at f2
    obtain ⟨x2, e2, w2⟩ := (dat_i64 Tryz.underlying2 f2)
    have f3 : Dat Tryz.prog n 2 ((xs.drop 3).take (Tryz.prog.cellsOf 2)) := hf 3 _ rfl
    rw [cells2] at f3
    obtain ⟨x3, e3, w3⟩ := (dat_i64 Tryz.underlying2 f3)
    have f4 : Dat Tryz.prog n 159 ((xs.drop 4).take (Tryz.prog.cellsOf 159)) := hf 4 _ rfl
    rw [cells159] at f4
    obtain ⟨x4, e4, w4⟩ := (dat_slice (c := DExpr.c) (w := (fun x => x.wf)) Tryz.underlying159 cells189 f4 (fun m y hm hy => (dat_189 hy)))
    have r5 : xs.drop 5 = [] := List.drop_eq_nil_of_le (by omega)
    have r4 := drop_split e4 r5 rfl
    have r3 := drop_split e3 r4 rfl
    have r2 := drop_split e2 r3 rfl
    have r1 := drop_split e1 r2 rfl
    have r0 := drop_split e0 r1 rfl
    exact ⟨.mk x0 x1 x2 x3 x4, by rw [DExpr.c_eq]; exact r0, .mk _ w0 w1 w2 w3 w4⟩
termination_by n => n
decreasing_by all_goals omega
set_option maxRecDepth 100000 in
theorem dat_161 : ∀ {n : Nat} {xs : List HVal}, Dat Tryz.prog n 161 xs → ∃ x : DFunc, xs = x.c ∧ x.wf
  | 0, _, h => h.elim
  | n + 1, xs, h => by
    simp only [Dat, Tryz.underlying161] at h
    obtain ⟨hl, hf⟩ := h
    rw [cells161] at hl
    have f0 : Dat Tryz.prog n 9 ((xs.drop 0).take (Tryz.prog.cellsOf 9)) := hf 0 _ rfl
    rw [cells9] at f0
    obtain ⟨x0, e0, w0⟩ := (dat_str Tryz.underlying9 f0)
    have f1 : Dat Tryz.prog n 2 ((xs.drop 1).take (Tryz.prog.cellsOf 2)) := hf 1 _ rfl
    rw [cells2] at f1
    obtain ⟨x1, e1, w1⟩ := (dat_i64 Tryz.underlying2 f1)
    have f2 : Dat Tryz.prog n 159 ((xs.drop 2).take (Tryz.prog.cellsOf 159)) := hf 2 _ rfl
    rw [cells159] at f2
    obtain ⟨x2, e2, w2⟩ := (dat_slice (c := DExpr.c) (w := (fun x => x.wf)) Tryz.underlying159 cells189 f2 (fun m y hm hy => (dat_189 hy)))
    have r3 : xs.drop 3 = [] := List.drop_eq_nil_of_le (by omega)
    have r2 := drop_split e2 r3 rfl
    have r1 := drop_split e1 r2 rfl
    have r0 := drop_split e0 r1 rfl
    exact ⟨⟨x0, x1, x2⟩, r0, ⟨w1, w2⟩⟩
set_option maxRecDepth 100000 in
theorem dat_24 : ∀ {n : Nat} {xs : List HVal}, Dat Tryz.prog n 24 xs → ∃ x : DProgram, xs = x.c ∧ x.wf
  | 0, _, h => h.elim
  | n + 1, xs, h => by
    simp only [Dat, Tryz.underlying24] at h
    obtain ⟨hl, hf⟩ := h
    rw [cells24] at hl
    have f0 : Dat Tryz.prog n 22 ((xs.drop 0).take (Tryz.prog.cellsOf 22)) := hf 0 _ rfl
    rw [cells22] at f0
    obtain ⟨x0, e0, w0⟩ := (dat_slice (c := DFunc.c) (w := (fun x => x.wf)) Tryz.underlying22 cells161 f0 (fun m y hm hy => (dat_161 hy)))
    have r1 : xs.drop 1 = [] := List.drop_eq_nil_of_le (by omega)
    have r0 := drop_split e0 r1 rfl
    exact ⟨⟨x0⟩, r0, w0⟩
set_option maxRecDepth 100000 in
theorem dat_28 : ∀ {n : Nat} {xs : List HVal}, Dat Tryz.prog n 28 xs → ∃ x : DJob, xs = x.c ∧ x.wf
  | 0, _, h => h.elim
  | n + 1, xs, h => by
    simp only [Dat, Tryz.underlying28] at h
    obtain ⟨hl, hf⟩ := h
    rw [cells28] at hl
    have f0 : Dat Tryz.prog n 24 ((xs.drop 0).take (Tryz.prog.cellsOf 24)) := hf 0 _ rfl
    rw [cells24] at f0
    obtain ⟨x0, e0, w0⟩ := (dat_24 f0)
    have f1 : Dat Tryz.prog n 2 ((xs.drop 1).take (Tryz.prog.cellsOf 2)) := hf 1 _ rfl
    rw [cells2] at f1
    obtain ⟨x1, e1, w1⟩ := (dat_i64 Tryz.underlying2 f1)
    have f2 : Dat Tryz.prog n 2 ((xs.drop 2).take (Tryz.prog.cellsOf 2)) := hf 2 _ rfl
    rw [cells2] at f2
    obtain ⟨x2, e2, w2⟩ := (dat_i64 Tryz.underlying2 f2)
    have f3 : Dat Tryz.prog n 25 ((xs.drop 3).take (Tryz.prog.cellsOf 25)) := hf 3 _ rfl
    rw [cells25] at f3
    obtain ⟨x3, e3, w3⟩ := (dat_slice (c := (fun n => [I n])) (w := (fun x => InI x)) Tryz.underlying25 cells2 f3 (fun m y hm hy => (dat_i64 Tryz.underlying2 hy)))
    have f4 : Dat Tryz.prog n 26 ((xs.drop 4).take (Tryz.prog.cellsOf 26)) := hf 4 _ rfl
    rw [cells26] at f4
    obtain ⟨x4, e4, w4⟩ := (dat_slice (c := (fun x => [sls 1 (fun n => [I n]) x])) (w := (fun x => (∀ y ∈ x, InI y))) Tryz.underlying26 cells25 f4 (fun m y hm hy => (dat_slice (c := (fun n => [I n])) (w := (fun x => InI x)) Tryz.underlying25 cells2 hy (fun m y hm hy => (dat_i64 Tryz.underlying2 hy)))))
    have r5 : xs.drop 5 = [] := List.drop_eq_nil_of_le (by omega)
    have r4 := drop_split e4 r5 rfl
    have r3 := drop_split e3 r4 rfl
    have r2 := drop_split e2 r3 rfl
    have r1 := drop_split e1 r2 rfl
    have r0 := drop_split e0 r1 rfl
    exact ⟨⟨x0, x1, x2, x3, x4⟩, r0, ⟨w0, w1, w2, w3, w4⟩⟩
set_option maxRecDepth 100000 in
theorem dat_72 : ∀ {n : Nat} {xs : List HVal}, Dat Tryz.prog n 72 xs → ∃ x : DPart, xs = x.c ∧ x.wf
  | 0, _, h => h.elim
  | n + 1, xs, h => by
    simp only [Dat, Tryz.underlying72] at h
    obtain ⟨hl, hf⟩ := h
    rw [cells72] at hl
    have f0 : Dat Tryz.prog n 2 ((xs.drop 0).take (Tryz.prog.cellsOf 2)) := hf 0 _ rfl
    rw [cells2] at f0
    obtain ⟨x0, e0, w0⟩ := (dat_i64 Tryz.underlying2 f0)
    have f1 : Dat Tryz.prog n 2 ((xs.drop 1).take (Tryz.prog.cellsOf 2)) := hf 1 _ rfl
    rw [cells2] at f1
    obtain ⟨x1, e1, w1⟩ := (dat_i64 Tryz.underlying2 f1)
    have f2 : Dat Tryz.prog n 25 ((xs.drop 2).take (Tryz.prog.cellsOf 25)) := hf 2 _ rfl
    rw [cells25] at f2
    obtain ⟨x2, e2, w2⟩ := (dat_slice (c := (fun n => [I n])) (w := (fun x => InI x)) Tryz.underlying25 cells2 f2 (fun m y hm hy => (dat_i64 Tryz.underlying2 hy)))
    have r3 : xs.drop 3 = [] := List.drop_eq_nil_of_le (by omega)
    have r2 := drop_split e2 r3 rfl
    have r1 := drop_split e1 r2 rfl
    have r0 := drop_split e0 r1 rfl
    exact ⟨⟨x0, x1, x2⟩, r0, ⟨w0, w1, w2⟩⟩
set_option maxRecDepth 100000 in
theorem dat_32 : ∀ {n : Nat} {xs : List HVal}, Dat Tryz.prog n 32 xs → ∃ x : DService, xs = x.c ∧ x.wf
  | 0, _, h => h.elim
  | n + 1, xs, h => by
    simp only [Dat, Tryz.underlying32] at h
    obtain ⟨hl, hf⟩ := h
    rw [cells32] at hl
    have f0 : Dat Tryz.prog n 28 ((xs.drop 0).take (Tryz.prog.cellsOf 28)) := hf 0 _ rfl
    rw [cells28] at f0
    obtain ⟨x0, e0, w0⟩ := (dat_28 f0)
    have f1 : Dat Tryz.prog n 25 ((xs.drop 5).take (Tryz.prog.cellsOf 25)) := hf 1 _ rfl
    rw [cells25] at f1
    obtain ⟨x1, e1, w1⟩ := (dat_slice (c := (fun n => [I n])) (w := (fun x => InI x)) Tryz.underlying25 cells2 f1 (fun m y hm hy => (dat_i64 Tryz.underlying2 hy)))
    have f2 : Dat Tryz.prog n 29 ((xs.drop 6).take (Tryz.prog.cellsOf 29)) := hf 2 _ rfl
    rw [cells29] at f2
    obtain ⟨x2, e2, w2⟩ := (dat_slice (c := (fun b => [.bool b])) (w := (fun _ => True)) Tryz.underlying29 cells4 f2 (fun m y hm hy => (dat_bool Tryz.underlying4 hy)))
    have f3 : Dat Tryz.prog n 30 ((xs.drop 7).take (Tryz.prog.cellsOf 30)) := hf 3 _ rfl
    rw [cells30] at f3
    obtain ⟨x3, e3, w3⟩ := (dat_slice (c := DPart.c) (w := (fun x => x.wf)) Tryz.underlying30 cells72 f3 (fun m y hm hy => (dat_72 hy)))
    have f4 : Dat Tryz.prog n 25 ((xs.drop 8).take (Tryz.prog.cellsOf 25)) := hf 4 _ rfl
    rw [cells25] at f4
    obtain ⟨x4, e4, w4⟩ := (dat_slice (c := (fun n => [I n])) (w := (fun x => InI x)) Tryz.underlying25 cells2 f4 (fun m y hm hy => (dat_i64 Tryz.underlying2 hy)))
    have r5 : xs.drop 9 = [] := List.drop_eq_nil_of_le (by omega)
    have r4 := drop_split e4 r5 rfl
    have r3 := drop_split e3 r4 rfl
    have r2 := drop_split e2 r3 rfl
    have r1 := drop_split e1 r2 rfl
    have r0 := drop_split e0 r1 rfl
    exact ⟨⟨x0, x1, x2, x3, x4⟩, r0, ⟨w0, w1, w3, w4⟩⟩
def datT : List TypeId := [2, 4, 9, 22, 24, 25, 26, 28, 29, 30, 32, 72, 74, 159, 161, 189]
theorem datT_ok : datB Tryz.prog datT = true := by kernel_rfl

end Go.Hl

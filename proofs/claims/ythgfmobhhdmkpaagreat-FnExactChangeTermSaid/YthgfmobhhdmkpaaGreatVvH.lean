/-
  Contracts of functions and laws of the layer over the walk.
-/
import Derived.Test.YthgfmobhhdmkpaaGreatVvG
import Derived.Test.YthgfmobhhdmkpaaGreatHlD
import Derived.Test.YthgfmobhhdmkpaaGreatVvD
import Derived.Test.YthgfmobhhdmkpaaGreatVvA
namespace Go.Hl
open Go.Proofs
set_option linter.unusedVariables false
set_option linter.unusedSimpArgs false
def zService : DService := ⟨⟨⟨[]⟩, 0, 0, [], []⟩, [], [], [], []⟩
theorem zService_o : ZeroO zService.o [(.nilsl), (.int .i64 0), (.int .i64 0), (.nilsl), (.nilsl), (.nilsl), (.nilsl), (.nilsl), (.nilsl)] := ⟨[(.nil 3), .v (.int .i64 0), .v (.int .i64 0), (.nil 1), (.nil 1), (.nil 1), (.nil 1), (.nil 3), (.nil 1)], ⟨(.nil 3), (.nil 1), (.nil 1), (.nil 1), (.nil 1), (.nil 3), (.nil 1), rfl, OS.nil, OS.nil, OS.nil, OS.nil, OS.nil, OS.nil, OS.nil⟩, rfl, Sub.agg (SubL.cons (Sub.nil _ _) (SubL.cons (Sub.refl _) (SubL.cons (Sub.refl _) (SubL.cons (Sub.nil _ _) (SubL.cons (Sub.nil _ _) (SubL.cons (Sub.nil _ _) (SubL.cons (Sub.nil _ _) (SubL.cons (Sub.nil _ _) (SubL.cons (Sub.nil _ _) SubL.nil)))))))))⟩

open Go.Proofs
set_option linter.unusedVariables false
set_option linter.unusedSimpArgs false
def workerOK (w : Int) : Prop := 0 ≤ w ∧ w ≤ 3
noncomputable instance (w : Int) : Decidable (workerOK w) := Classical.propDecidable _
open Go.Proofs
set_option linter.unusedVariables false
set_option linter.unusedSimpArgs false
def termOK (j : DJob) (k : Int) : Prop := 0 ≤ k ∧ k ≤ (j.fTerms.length : Int) - 1
noncomputable instance (j : DJob) (k : Int) : Decidable (termOK j k) := Classical.propDecidable _
def freeOK (s : DService) (k : Int) : Prop := s.fKnown[k.toNat]? = some false ∧ s.fOwners[k.toNat]? = some (-1)
noncomputable instance (s : DService) (k : Int) : Decidable (freeOK s k) := Classical.propDecidable _
def keep85 : List Nat := [0, 1, 2, 4]
def ib85 : List Nat := [2]
def mk85 : Marks := fun _ => ([], .nil, [])
set_option maxRecDepth 100000 in
theorem has (j : DJob) (k : Int) (hl : j.fTerms.length ≤ 1048576) : Fn0 Tryz.prog 85 [.agg j.c, I k] (.bool (decide (termOK j k))) := by
  simp only [DJob.c_eq]
  refine fn0F 11 keep85 ib85 mk85 mix Tryz.func85 rfl (by kernel_rfl) (by simp) fun h => ?_
  simp (maxSteps := 1000000) -dsimp -implicitDefEqProofs only [go_sem, ↓reduceIte, keep85, ib85, mk85, Tryz.f85]
  intro _
  rw [IntWalk.i64_in _ (by omega)]
  first | refine HFnF.mk (within k 0 ((j.fTerms.length : Int) - 1)) ?_ | refine CallSF.mk (within k 0 ((j.fTerms.length : Int) - 1)) ?_ | refine HFnF.mkAt (within k 0 ((j.fTerms.length : Int) - 1)) ?_ | refine CallSF.mk (FnAt.fn0 (within k 0 ((j.fTerms.length : Int) - 1))) ?_
  simp (maxSteps := 1000000) -dsimp -implicitDefEqProofs only [go_sem, ↓reduceIte, keep85, ib85, mk85, Tryz.f85]
  exact decide_eq_decide.2 Iff.rfl
def keep121 : List Nat := [0, 1, 4]
def ib121 : List Nat := []
def mk121 : Marks := fun _ => ([], .nil, [])
set_option maxRecDepth 100000 in
theorem l08Term (j : DJob) (k : Int) (hl : j.fTerms.length ≤ 1048576) : Fn0 Tryz.prog 121 [.ip 5 [j.c] 0 0, I k] (.bool (decide (termOK j k))) := by
  simp only [DJob.c_eq]
  refine fn0F 13 keep121 ib121 mk121 mix Tryz.func121 rfl (by kernel_rfl) (by simp) fun h => ?_
  simp (maxSteps := 1000000) -dsimp -implicitDefEqProofs only [go_sem, ↓reduceIte, keep121, ib121, mk121, Tryz.f121]
  repeat' (with_reducible first | intro _ | refine And.intro ?_ ?_)
  all_goals try omega
  rw [IntWalk.i64_in _ (by omega)]
  first | refine HFnF.mk (l00In k 0 ((j.fTerms.length : Int) - 1)) ?_ | refine CallSF.mk (l00In k 0 ((j.fTerms.length : Int) - 1)) ?_ | refine HFnF.mkAt (l00In k 0 ((j.fTerms.length : Int) - 1)) ?_ | refine CallSF.mk (FnAt.fn0 (l00In k 0 ((j.fTerms.length : Int) - 1))) ?_
  simp (maxSteps := 1000000) -dsimp -implicitDefEqProofs only [go_sem, ↓reduceIte, keep121, ib121, mk121, Tryz.f121]
  exact decide_eq_decide.2 Iff.rfl
open Go.Proofs
set_option linter.unusedVariables false
set_option linter.unusedSimpArgs false
def reportOK (s : DService) (r : DReport) : Prop := termOK s.fJob r.fTerm ∧ (0 ≤ r.fStamp ∧ r.fStamp ≤ 50) ∧ partOK s.fJob r.fPart
noncomputable instance (s : DService) (r : DReport) : Decidable (reportOK s r) := Classical.propDecidable _
def takeOK (s : DService) (r : DReport) : Prop := s.fKnown[r.fTerm.toNat]? = some false ∧ s.fStamps[r.fTerm.toNat]? = some r.fStamp
noncomputable instance (s : DService) (r : DReport) : Decidable (takeOK s r) := Classical.propDecidable _
theorem sum_set_le (f : DPart → Nat) : ∀ (l : List DPart) (k : Nat) (p : DPart), ((l.set k p).map f).sum ≤ (l.map f).sum + f p
  | [], k, p => by simp
  | a :: l, 0, p => by simp; omega
  | a :: l, k + 1, p => by have := sum_set_le f l k p; simp only [List.set_cons_succ, List.map_cons, List.sum_cons]; omega
open Go.Proofs
set_option linter.unusedVariables false
set_option linter.unusedSimpArgs false
def forgetS (s : DService) (k : Int) : DService := { s with fStamps := s.fStamps.set k.toNat (s.fStamps.getD k.toNat 0 + 1), fKnown := s.fKnown.set k.toNat false, fParts := s.fParts.set k.toNat ⟨0, 0, []⟩, fOwners := s.fOwners.set k.toNat (-1) }
def keep122 : List Nat := [0, 1]
def ib122 : List Nat := [24]
def mk122 : Marks := fun _ => ([], .nil, [])
set_option maxRecDepth 100000 in
set_option maxHeartbeats 2000000 in
theorem l08Forget (s : DService) (k : Int) (h0 g : Heap) (nb : Nat) (e : List OV) (oe : s.o e) (hnb : g nb = none) (wn : New h0 (OV.rowsRow e) g) (l1 : s.fStamps.length = s.fJob.fTerms.length ∧ s.fKnown.length = s.fJob.fTerms.length ∧ s.fParts.length = s.fJob.fTerms.length ∧ s.fOwners.length = s.fJob.fTerms.length) (ht : termOK s.fJob k) (hst : ∀ x ∈ s.fStamps, 0 ≤ x ∧ x ≤ 50) :
    HFn Tryz.prog 122 [.op nb 9 0 0, I k] (upd g nb (.row 9 (OV.cells [e]))) (BoxQ h0 nb 9 fun v e' => (forgetS s k).o e') := by
  have hk1 := ht.1
  have hk2 := ht.2
  have oe1 := oe
  obtain ⟨ys_0, ys_3, ys_4, ys_5, ys_6, ys_7, ys_8, rfl, os_0, os_3, os_4, os_5, os_6, os_7, os_8⟩ := oe1
  have kn : k.toNat < s.fKnown.length := by omega
  have ks : k.toNat < s.fStamps.length := by omega
  have ko : k.toNat < s.fOwners.length := by omega
  have kp : k.toNat < s.fParts.length := by omega
  have gk : s.fKnown[k.toNat]? = some s.fKnown[k.toNat] := List.getElem?_eq_getElem kn
  have gs : s.fStamps[k.toNat]? = some s.fStamps[k.toNat] := List.getElem?_eq_getElem ks
  have gd : s.fStamps.getD k.toNat 0 = s.fStamps[k.toNat] := by rw [List.getD_eq_getElem?_getD, gs]; rfl
  have go : s.fOwners[k.toNat]? = some s.fOwners[k.toNat] := List.getElem?_eq_getElem ko
  have hb := hst s.fStamps[k.toNat] (List.getElem_mem ks)
  obtain ⟨n7, es, rfl, hor⟩ := os_7.some (by omega)
  rcases os_5.prim with ⟨rfl, h5⟩ | ⟨n5, rfl⟩
  · rw [h5] at ks; simp at ks
  rcases os_6.prim with ⟨rfl, h6⟩ | ⟨n6, rfl⟩
  · rw [h6] at kn; simp at kn
  rcases os_8.prim with ⟨rfl, h8⟩ | ⟨n8, rfl⟩
  · rw [h8] at ko; simp at ko
  have g5 := wn.getP [ys_0, .v (.int .i64 s.fJob.fFunc), .v (.int .i64 s.fJob.fShared), ys_3, ys_4] (c := I)
  have g6 := wn.getP ([ys_0, .v (.int .i64 s.fJob.fFunc), .v (.int .i64 s.fJob.fShared), ys_3, ys_4] ++ [OV.sl n5 1 (s.fStamps.map fun x => [.v (I x)])]) (c := .bool)
  have g7 := wn.getSl ([ys_0, .v (.int .i64 s.fJob.fFunc), .v (.int .i64 s.fJob.fShared), ys_3, ys_4] ++ [OV.sl n5 1 (s.fStamps.map fun x => [.v (I x)]), OV.sl n6 1 (s.fKnown.map fun x => [.v (.bool x)])])
  have g8 := wn.getP ([ys_0, .v (.int .i64 s.fJob.fFunc), .v (.int .i64 s.fJob.fShared), ys_3, ys_4] ++ [OV.sl n5 1 (s.fStamps.map fun x => [.v (I x)]), OV.sl n6 1 (s.fKnown.map fun x => [.v (.bool x)]), OV.sl n7 3 es]) (c := I)
  have d_n5_nb : ¬ n5 = nb := ne_of_none g5 hnb
  have d_nb_n5 : ¬ nb = n5 := Ne.symm d_n5_nb
  have e_n5_nb : (n5 = nb) = False := eq_false d_n5_nb
  have e_nb_n5 : (nb = n5) = False := eq_false d_nb_n5
  have d_n6_nb : ¬ n6 = nb := ne_of_none g6 hnb
  have d_nb_n6 : ¬ nb = n6 := Ne.symm d_n6_nb
  have e_n6_nb : (n6 = nb) = False := eq_false d_n6_nb
  have e_nb_n6 : (nb = n6) = False := eq_false d_nb_n6
  have d_n7_nb : ¬ n7 = nb := ne_of_none g7 hnb
  have d_nb_n7 : ¬ nb = n7 := Ne.symm d_n7_nb
  have e_n7_nb : (n7 = nb) = False := eq_false d_n7_nb
  have e_nb_n7 : (nb = n7) = False := eq_false d_nb_n7
  have d_n8_nb : ¬ n8 = nb := ne_of_none g8 hnb
  have d_nb_n8 : ¬ nb = n8 := Ne.symm d_n8_nb
  have e_n8_nb : (n8 = nb) = False := eq_false d_n8_nb
  have e_nb_n8 : (nb = n8) = False := eq_false d_nb_n8
  have d_n5_n6 : ¬ n5 = n6 := wn.apart2 [ys_0, .v (.int .i64 s.fJob.fFunc), .v (.int .i64 s.fJob.fShared), ys_3, ys_4] (m := n6) (by first | exact List.mem_cons_self | exact List.mem_cons_of_mem _ List.mem_cons_self | exact List.mem_cons_of_mem _ (List.mem_cons_of_mem _ List.mem_cons_self))
  have d_n6_n5 : ¬ n6 = n5 := Ne.symm d_n5_n6
  have e_n5_n6 : (n5 = n6) = False := eq_false d_n5_n6
  have e_n6_n5 : (n6 = n5) = False := eq_false d_n6_n5
  have d_n5_n7 : ¬ n5 = n7 := wn.apart2 [ys_0, .v (.int .i64 s.fJob.fFunc), .v (.int .i64 s.fJob.fShared), ys_3, ys_4] (m := n7) (by first | exact List.mem_cons_self | exact List.mem_cons_of_mem _ List.mem_cons_self | exact List.mem_cons_of_mem _ (List.mem_cons_of_mem _ List.mem_cons_self))
  have d_n7_n5 : ¬ n7 = n5 := Ne.symm d_n5_n7
  have e_n5_n7 : (n5 = n7) = False := eq_false d_n5_n7
  have e_n7_n5 : (n7 = n5) = False := eq_false d_n7_n5
  have d_n5_n8 : ¬ n5 = n8 := wn.apart2 [ys_0, .v (.int .i64 s.fJob.fFunc), .v (.int .i64 s.fJob.fShared), ys_3, ys_4] (m := n8) (by first | exact List.mem_cons_self | exact List.mem_cons_of_mem _ List.mem_cons_self | exact List.mem_cons_of_mem _ (List.mem_cons_of_mem _ List.mem_cons_self))
  have d_n8_n5 : ¬ n8 = n5 := Ne.symm d_n5_n8
  have e_n5_n8 : (n5 = n8) = False := eq_false d_n5_n8
  have e_n8_n5 : (n8 = n5) = False := eq_false d_n8_n5
  have d_n6_n7 : ¬ n6 = n7 := wn.apart2 ([ys_0, .v (.int .i64 s.fJob.fFunc), .v (.int .i64 s.fJob.fShared), ys_3, ys_4] ++ [OV.sl n5 1 (s.fStamps.map fun x => [.v (I x)])]) (m := n7) (by first | exact List.mem_cons_self | exact List.mem_cons_of_mem _ List.mem_cons_self | exact List.mem_cons_of_mem _ (List.mem_cons_of_mem _ List.mem_cons_self))
  have d_n7_n6 : ¬ n7 = n6 := Ne.symm d_n6_n7
  have e_n6_n7 : (n6 = n7) = False := eq_false d_n6_n7
  have e_n7_n6 : (n7 = n6) = False := eq_false d_n7_n6
  have d_n6_n8 : ¬ n6 = n8 := wn.apart2 ([ys_0, .v (.int .i64 s.fJob.fFunc), .v (.int .i64 s.fJob.fShared), ys_3, ys_4] ++ [OV.sl n5 1 (s.fStamps.map fun x => [.v (I x)])]) (m := n8) (by first | exact List.mem_cons_self | exact List.mem_cons_of_mem _ List.mem_cons_self | exact List.mem_cons_of_mem _ (List.mem_cons_of_mem _ List.mem_cons_self))
  have d_n8_n6 : ¬ n8 = n6 := Ne.symm d_n6_n8
  have e_n6_n8 : (n6 = n8) = False := eq_false d_n6_n8
  have e_n8_n6 : (n8 = n6) = False := eq_false d_n8_n6
  have d_n7_n8 : ¬ n7 = n8 := wn.apart2 ([ys_0, .v (.int .i64 s.fJob.fFunc), .v (.int .i64 s.fJob.fShared), ys_3, ys_4] ++ [OV.sl n5 1 (s.fStamps.map fun x => [.v (I x)]), OV.sl n6 1 (s.fKnown.map fun x => [.v (.bool x)])]) (m := n8) (by first | exact List.mem_cons_self | exact List.mem_cons_of_mem _ List.mem_cons_self | exact List.mem_cons_of_mem _ (List.mem_cons_of_mem _ List.mem_cons_self))
  have d_n8_n7 : ¬ n8 = n7 := Ne.symm d_n7_n8
  have e_n7_n8 : (n7 = n8) = False := eq_false d_n7_n8
  have e_n8_n7 : (n8 = n7) = False := eq_false d_n8_n7
  have hv5 := OV.val_prim I n5 1 s.fStamps
  have hv6 := OV.val_prim HVal.bool n6 1 s.fKnown
  have hv7 := OV.val_sl n7 3 es
  have hv8 := OV.val_prim I n8 1 s.fOwners
  have hel : es.length = s.fParts.length := hor.length.symm
  obtain ⟨ek, hek, oek⟩ := hor.getE k.toNat s.fParts[k.toNat] (List.getElem?_eq_getElem kp)
  have oek2 := oek
  obtain ⟨yq_2, rfl, oq_2⟩ := oek2
  have hck := cells_get hek
  simp only [cellv_cons, cellv_nil, OV.val_v] at hck
  have wn1 := wn.setP [ys_0, .v (.int .i64 s.fJob.fFunc), .v (.int .i64 s.fJob.fShared), ys_3, ys_4] (c := I) (l' := s.fStamps.set k.toNat (s.fStamps[k.toNat] + 1))
  have wn2 := wn1.setP ([ys_0, .v (.int .i64 s.fJob.fFunc), .v (.int .i64 s.fJob.fShared), ys_3, ys_4] ++ [OV.sl n5 1 ((s.fStamps.set k.toNat (s.fStamps[k.toNat] + 1)).map fun x => [.v (I x)])]) (c := .bool) (l' := s.fKnown.set k.toNat false)
  obtain ⟨g3, hle3, wn3⟩ := wn2.setEl ([ys_0, .v (.int .i64 s.fJob.fFunc), .v (.int .i64 s.fJob.fShared), ys_3, ys_4] ++ [OV.sl n5 1 ((s.fStamps.set k.toNat (s.fStamps[k.toNat] + 1)).map fun x => [.v (I x)]), OV.sl n6 1 ((s.fKnown.set k.toNat false).map fun x => [.v (.bool x)])]) (k := k.toNat) (enew := [.v (I 0), .v (I 0), .nil 1]) (New.nil _) (by omega)
  have wn4 := wn3.setP ([ys_0, .v (.int .i64 s.fJob.fFunc), .v (.int .i64 s.fJob.fShared), ys_3, ys_4] ++ [OV.sl n5 1 ((s.fStamps.set k.toNat (s.fStamps[k.toNat] + 1)).map fun x => [.v (I x)]), OV.sl n6 1 ((s.fKnown.set k.toNat false).map fun x => [.v (.bool x)]), OV.sl n7 3 (es.set k.toNat [.v (I 0), .v (I 0), .nil 1])]) (c := I) (l' := s.fOwners.set k.toNat (-1))
  have hcs := cells_setEl es k.toNat [.v (I 0), .v (I 0), .nil 1] _ rfl
  simp only [cellv_cons, cellv_nil, OV.val_v, OV.val_nil] at hcs
  refine fnHF 33 keep122 ib122 mk122 mix Tryz.func122 rfl (by kernel_rfl) (by simp) ?_
  simp (maxSteps := 1000000) -dsimp -implicitDefEqProofs only [go_sem, ↓reduceIte, keep122, ib122, mk122, Tryz.f122]
  simp (maxSteps := 1000000) -dsimp -implicitDefEqProofs only [go_sem, ↓reduceIte, keep122, ib122, mk122, Tryz.f122, OV.map_val, OV.map_val_nil, OV.val_v, upd_upd, upd_ne, os_0.flat, os_0.one, os_3.flat, os_3.one, os_4.flat, os_4.one, os_5.flat, os_5.one, os_6.flat, os_6.one, os_7.flat, os_7.one, os_8.flat, os_8.one, e_nb_n5, e_nb_n6, e_nb_n7, e_nb_n8, e_n5_nb, e_n5_n6, e_n5_n7, e_n5_n8, e_n6_nb, e_n6_n5, e_n6_n7, e_n6_n8, e_n7_nb, e_n7_n5, e_n7_n6, e_n7_n8, e_n8_nb, e_n8_n5, e_n8_n6, e_n8_n7, cells_box, cellv_cons, cellv_nil, gk, gs, go, hv5, hv6, hv7, hv8, g5, g6, g7, g8, hck]
  rw [IntWalk.i64_in _ (by omega)]
  refine ⟨hk1, by omega, hk1, by omega, hk1, by omega, Nat.zero_lt_one, hk1, by omega, hk1, by omega, ?_⟩
  rw [rowSet HVal.bool, rowSet I, rowSet I, hcs]
  have ef : (forgetS s k).fJob = s.fJob := rfl
  refine ⟨_, ?hl, _, _, ⟨ys_0, ys_3, ys_4, _, _, _, _, rfl, os_0, os_3, os_4, OS.mk (by rw [forgetS, gd]; exact OR_map (s.fStamps.set k.toNat (s.fStamps[k.toNat] + 1))), OS.mk (OR_map (s.fKnown.set k.toNat false)), OS.mk (hor.set k.toNat ⟨0, 0, []⟩ _ ⟨.nil 1, rfl, OS.nil⟩), OS.mk (OR_map (s.fOwners.set k.toNat (-1)))⟩, rfl, ?hn, wn4⟩
  case hl =>
    simp only [cells_box, cellv_cons, cellv_nil, OV.val_v, OV.val_sl, List.length_map, List.length_set, ef]
    exact Heap.le_trans (Heap.le_both (Heap.le_both hle3)) (leX_nil (by repeat' (first | exact leX_refl _ _ | refine leX_put (by simp only [upd_apply, ↓reduceIte, eq_self, if_true, e_nb_n5, e_nb_n6, e_nb_n7, e_nb_n8, e_n5_nb, e_n5_n6, e_n5_n7, e_n5_n8, e_n6_nb, e_n6_n5, e_n6_n7, e_n6_n8, e_n7_nb, e_n7_n5, e_n7_n6, e_n7_n8, e_n8_nb, e_n8_n5, e_n8_n6, e_n8_n7]) ?_ | refine leX_strip (by first | exact .inr (by assumption) | exact .inl (by simp)) ?_)))
  case hn =>
    rw [upd_ne _ _ _ _ d_nb_n8]
    exact Heap.le_none hle3 (by rw [upd_ne _ _ _ _ d_nb_n7, upd_ne _ _ _ _ d_nb_n6, upd_ne _ _ _ _ d_nb_n5]; exact hnb)
def keep89 : List Nat := [0, 1, 4, 12]
def ib89 : List Nat := []
def mk89 : Marks := fun id => match id with | 4 => ([3, 8, 13, 17, 19, 21], (.op 0 (.op 1 (.op 2 (.op 4 (.op 5 (.op 6 (.op 7 (.op 9 (.op 10 (.op 11 (.op 12 (.op 14 (.op 15 (.op 3 (.op 8 (.op 13 (.op 16 (.op 17 (.op 18 (.op 19 (.op 20 (.op 21 .nil)))))))))))))))))))))), []) | _ => ([], .nil, [])
set_option maxRecDepth 100000 in
set_option maxHeartbeats 2000000 in
theorem forget (s : DService) (k : Int) (h0 g : Heap) (nb : Nat) (e : List OV) (oe : s.o e) (hnb : g nb = none) (wn : New h0 (OV.rowsRow e) g) (l1 : s.fStamps.length = s.fJob.fTerms.length ∧ s.fKnown.length = s.fJob.fTerms.length ∧ s.fParts.length = s.fJob.fTerms.length ∧ s.fOwners.length = s.fJob.fTerms.length) (ht : termOK s.fJob k) (hst : ∀ x ∈ s.fStamps, 0 ≤ x ∧ x ≤ 50) :
    HFn Tryz.prog 89 [.op nb 9 0 0, I k] (upd g nb (.row 9 (OV.cells [e]))) (BoxQ h0 nb 9 fun v e' => (s.fStamps[k.toNat]? = some 50 → v = .bool false ∧ s.o e') ∧ (¬ s.fStamps[k.toNat]? = some 50 → v = .bool true ∧ (forgetS s k).o e')) := by
  have hk1 := ht.1
  have hk2 := ht.2
  have oe1 := oe
  obtain ⟨ys_0, ys_3, ys_4, ys_5, ys_6, ys_7, ys_8, rfl, os_0, os_3, os_4, os_5, os_6, os_7, os_8⟩ := oe1
  have kn : k.toNat < s.fKnown.length := by omega
  have ks : k.toNat < s.fStamps.length := by omega
  have ko : k.toNat < s.fOwners.length := by omega
  have kp : k.toNat < s.fParts.length := by omega
  have gk : s.fKnown[k.toNat]? = some s.fKnown[k.toNat] := List.getElem?_eq_getElem kn
  have gs : s.fStamps[k.toNat]? = some s.fStamps[k.toNat] := List.getElem?_eq_getElem ks
  have gd : s.fStamps.getD k.toNat 0 = s.fStamps[k.toNat] := by rw [List.getD_eq_getElem?_getD, gs]; rfl
  have go : s.fOwners[k.toNat]? = some s.fOwners[k.toNat] := List.getElem?_eq_getElem ko
  have hb := hst s.fStamps[k.toNat] (List.getElem_mem ks)
  obtain ⟨n7, es, rfl, hor⟩ := os_7.some (by omega)
  rcases os_5.prim with ⟨rfl, h5⟩ | ⟨n5, rfl⟩
  · rw [h5] at ks; simp at ks
  rcases os_6.prim with ⟨rfl, h6⟩ | ⟨n6, rfl⟩
  · rw [h6] at kn; simp at kn
  rcases os_8.prim with ⟨rfl, h8⟩ | ⟨n8, rfl⟩
  · rw [h8] at ko; simp at ko
  have g5 := wn.getP [ys_0, .v (.int .i64 s.fJob.fFunc), .v (.int .i64 s.fJob.fShared), ys_3, ys_4] (c := I)
  have g6 := wn.getP ([ys_0, .v (.int .i64 s.fJob.fFunc), .v (.int .i64 s.fJob.fShared), ys_3, ys_4] ++ [OV.sl n5 1 (s.fStamps.map fun x => [.v (I x)])]) (c := .bool)
  have g7 := wn.getSl ([ys_0, .v (.int .i64 s.fJob.fFunc), .v (.int .i64 s.fJob.fShared), ys_3, ys_4] ++ [OV.sl n5 1 (s.fStamps.map fun x => [.v (I x)]), OV.sl n6 1 (s.fKnown.map fun x => [.v (.bool x)])])
  have g8 := wn.getP ([ys_0, .v (.int .i64 s.fJob.fFunc), .v (.int .i64 s.fJob.fShared), ys_3, ys_4] ++ [OV.sl n5 1 (s.fStamps.map fun x => [.v (I x)]), OV.sl n6 1 (s.fKnown.map fun x => [.v (.bool x)]), OV.sl n7 3 es]) (c := I)
  have d_n5_nb : ¬ n5 = nb := ne_of_none g5 hnb
  have d_nb_n5 : ¬ nb = n5 := Ne.symm d_n5_nb
  have e_n5_nb : (n5 = nb) = False := eq_false d_n5_nb
  have e_nb_n5 : (nb = n5) = False := eq_false d_nb_n5
  have d_n6_nb : ¬ n6 = nb := ne_of_none g6 hnb
  have d_nb_n6 : ¬ nb = n6 := Ne.symm d_n6_nb
  have e_n6_nb : (n6 = nb) = False := eq_false d_n6_nb
  have e_nb_n6 : (nb = n6) = False := eq_false d_nb_n6
  have d_n7_nb : ¬ n7 = nb := ne_of_none g7 hnb
  have d_nb_n7 : ¬ nb = n7 := Ne.symm d_n7_nb
  have e_n7_nb : (n7 = nb) = False := eq_false d_n7_nb
  have e_nb_n7 : (nb = n7) = False := eq_false d_nb_n7
  have d_n8_nb : ¬ n8 = nb := ne_of_none g8 hnb
  have d_nb_n8 : ¬ nb = n8 := Ne.symm d_n8_nb
  have e_n8_nb : (n8 = nb) = False := eq_false d_n8_nb
  have e_nb_n8 : (nb = n8) = False := eq_false d_nb_n8
  have d_n5_n6 : ¬ n5 = n6 := wn.apart2 [ys_0, .v (.int .i64 s.fJob.fFunc), .v (.int .i64 s.fJob.fShared), ys_3, ys_4] (m := n6) (by first | exact List.mem_cons_self | exact List.mem_cons_of_mem _ List.mem_cons_self | exact List.mem_cons_of_mem _ (List.mem_cons_of_mem _ List.mem_cons_self))
  have d_n6_n5 : ¬ n6 = n5 := Ne.symm d_n5_n6
  have e_n5_n6 : (n5 = n6) = False := eq_false d_n5_n6
  have e_n6_n5 : (n6 = n5) = False := eq_false d_n6_n5
  have d_n5_n7 : ¬ n5 = n7 := wn.apart2 [ys_0, .v (.int .i64 s.fJob.fFunc), .v (.int .i64 s.fJob.fShared), ys_3, ys_4] (m := n7) (by first | exact List.mem_cons_self | exact List.mem_cons_of_mem _ List.mem_cons_self | exact List.mem_cons_of_mem _ (List.mem_cons_of_mem _ List.mem_cons_self))
  have d_n7_n5 : ¬ n7 = n5 := Ne.symm d_n5_n7
  have e_n5_n7 : (n5 = n7) = False := eq_false d_n5_n7
  have e_n7_n5 : (n7 = n5) = False := eq_false d_n7_n5
  have d_n5_n8 : ¬ n5 = n8 := wn.apart2 [ys_0, .v (.int .i64 s.fJob.fFunc), .v (.int .i64 s.fJob.fShared), ys_3, ys_4] (m := n8) (by first | exact List.mem_cons_self | exact List.mem_cons_of_mem _ List.mem_cons_self | exact List.mem_cons_of_mem _ (List.mem_cons_of_mem _ List.mem_cons_self))
  have d_n8_n5 : ¬ n8 = n5 := Ne.symm d_n5_n8
  have e_n5_n8 : (n5 = n8) = False := eq_false d_n5_n8
  have e_n8_n5 : (n8 = n5) = False := eq_false d_n8_n5
  have d_n6_n7 : ¬ n6 = n7 := wn.apart2 ([ys_0, .v (.int .i64 s.fJob.fFunc), .v (.int .i64 s.fJob.fShared), ys_3, ys_4] ++ [OV.sl n5 1 (s.fStamps.map fun x => [.v (I x)])]) (m := n7) (by first | exact List.mem_cons_self | exact List.mem_cons_of_mem _ List.mem_cons_self | exact List.mem_cons_of_mem _ (List.mem_cons_of_mem _ List.mem_cons_self))
  have d_n7_n6 : ¬ n7 = n6 := Ne.symm d_n6_n7
  have e_n6_n7 : (n6 = n7) = False := eq_false d_n6_n7
  have e_n7_n6 : (n7 = n6) = False := eq_false d_n7_n6
  have d_n6_n8 : ¬ n6 = n8 := wn.apart2 ([ys_0, .v (.int .i64 s.fJob.fFunc), .v (.int .i64 s.fJob.fShared), ys_3, ys_4] ++ [OV.sl n5 1 (s.fStamps.map fun x => [.v (I x)])]) (m := n8) (by first | exact List.mem_cons_self | exact List.mem_cons_of_mem _ List.mem_cons_self | exact List.mem_cons_of_mem _ (List.mem_cons_of_mem _ List.mem_cons_self))
  have d_n8_n6 : ¬ n8 = n6 := Ne.symm d_n6_n8
  have e_n6_n8 : (n6 = n8) = False := eq_false d_n6_n8
  have e_n8_n6 : (n8 = n6) = False := eq_false d_n8_n6
  have d_n7_n8 : ¬ n7 = n8 := wn.apart2 ([ys_0, .v (.int .i64 s.fJob.fFunc), .v (.int .i64 s.fJob.fShared), ys_3, ys_4] ++ [OV.sl n5 1 (s.fStamps.map fun x => [.v (I x)]), OV.sl n6 1 (s.fKnown.map fun x => [.v (.bool x)])]) (m := n8) (by first | exact List.mem_cons_self | exact List.mem_cons_of_mem _ List.mem_cons_self | exact List.mem_cons_of_mem _ (List.mem_cons_of_mem _ List.mem_cons_self))
  have d_n8_n7 : ¬ n8 = n7 := Ne.symm d_n7_n8
  have e_n7_n8 : (n7 = n8) = False := eq_false d_n7_n8
  have e_n8_n7 : (n8 = n7) = False := eq_false d_n8_n7
  have hv5 := OV.val_prim I n5 1 s.fStamps
  have hv6 := OV.val_prim HVal.bool n6 1 s.fKnown
  have hv7 := OV.val_sl n7 3 es
  have hv8 := OV.val_prim I n8 1 s.fOwners
  have hel : es.length = s.fParts.length := hor.length.symm
  obtain ⟨ek, hek, oek⟩ := hor.getE k.toNat s.fParts[k.toNat] (List.getElem?_eq_getElem kp)
  have oek2 := oek
  obtain ⟨yq_2, rfl, oq_2⟩ := oek2
  have hck := cells_get hek
  simp only [cellv_cons, cellv_nil, OV.val_v] at hck
  have wn1 := wn.setP [ys_0, .v (.int .i64 s.fJob.fFunc), .v (.int .i64 s.fJob.fShared), ys_3, ys_4] (c := I) (l' := s.fStamps.set k.toNat (s.fStamps[k.toNat] + 1))
  have wn2 := wn1.setP ([ys_0, .v (.int .i64 s.fJob.fFunc), .v (.int .i64 s.fJob.fShared), ys_3, ys_4] ++ [OV.sl n5 1 ((s.fStamps.set k.toNat (s.fStamps[k.toNat] + 1)).map fun x => [.v (I x)])]) (c := .bool) (l' := s.fKnown.set k.toNat false)
  obtain ⟨g3, hle3, wn3⟩ := wn2.setEl ([ys_0, .v (.int .i64 s.fJob.fFunc), .v (.int .i64 s.fJob.fShared), ys_3, ys_4] ++ [OV.sl n5 1 ((s.fStamps.set k.toNat (s.fStamps[k.toNat] + 1)).map fun x => [.v (I x)]), OV.sl n6 1 ((s.fKnown.set k.toNat false).map fun x => [.v (.bool x)])]) (k := k.toNat) (enew := [.v (I 0), .v (I 0), .nil 1]) (New.nil _) (by omega)
  have wn4 := wn3.setP ([ys_0, .v (.int .i64 s.fJob.fFunc), .v (.int .i64 s.fJob.fShared), ys_3, ys_4] ++ [OV.sl n5 1 ((s.fStamps.set k.toNat (s.fStamps[k.toNat] + 1)).map fun x => [.v (I x)]), OV.sl n6 1 ((s.fKnown.set k.toNat false).map fun x => [.v (.bool x)]), OV.sl n7 3 (es.set k.toNat [.v (I 0), .v (I 0), .nil 1])]) (c := I) (l' := s.fOwners.set k.toNat (-1))
  have hcs := cells_setEl es k.toNat [.v (I 0), .v (I 0), .nil 1] _ rfl
  simp only [cellv_cons, cellv_nil, OV.val_v, OV.val_nil] at hcs
  have hcs2 : (OV.cells es).set k.toNat [.v (I 0), .v (I 0), .v (.sl 1 [] true)] = OV.cells (es.set k.toNat [.v (I 0), .v (I 0), .nil 1]) := hcs
  have wk7 := RowsWk.setAt (xs := [I 0, I 0, .nilsl]) (ys := [I 0, I 0, .sl 1 [] true]) (.cons (.refl _) (.cons (.refl _) (.cons (Sub.nil 1 true) .nil))) (OV.cells es) k.toNat
  simp only [List.map_cons, List.map_nil] at wk7
  refine HFn.shift (K' := fun r h' => ∃ g1 : Heap, g1.wk h' ∧ BoxQ h0 nb 9 (fun v e' => (s.fStamps[k.toNat]? = some 50 → v = .bool false ∧ s.o e') ∧ (¬ s.fStamps[k.toNat]? = some 50 → v = .bool true ∧ (forgetS s k).o e')) r g1) ?_ fun r h' q => q
  refine fnHF 41 keep89 ib89 mk89 mix Tryz.func89 rfl (by kernel_rfl) (by simp) ?_
  simp (maxSteps := 1000000) -dsimp -implicitDefEqProofs only [go_sem, ↓reduceIte, keep89, ib89, mk89, Tryz.f89]
  simp (maxSteps := 1000000) -dsimp -implicitDefEqProofs only [go_sem, ↓reduceIte, keep89, ib89, mk89, Tryz.f89, OV.map_val, OV.map_val_nil, OV.val_v, upd_upd, upd_ne, os_0.flat, os_0.one, os_3.flat, os_3.one, os_4.flat, os_4.one, os_5.flat, os_5.one, os_6.flat, os_6.one, os_7.flat, os_7.one, os_8.flat, os_8.one, e_nb_n5, e_nb_n6, e_nb_n7, e_nb_n8, e_n5_nb, e_n5_n6, e_n5_n7, e_n5_n8, e_n6_nb, e_n6_n5, e_n6_n7, e_n6_n8, e_n7_nb, e_n7_n5, e_n7_n6, e_n7_n8, e_n8_nb, e_n8_n5, e_n8_n6, e_n8_n7, cells_box, cellv_cons, cellv_nil, gk, gs, go, hv5, hv6, hv7, hv8, g5, g6, g7, g8, hck]
  refine ⟨hk1, by omega, fun hq => ?_, fun hq => ?_⟩
  · exact ⟨_, Heap.le_refl _, _, Heap.wk_of_le (Heap.le_refl _), _, g, ⟨fun _ => ⟨rfl, oe⟩, fun z => absurd (by rw [hq]) z⟩, by simp only [cells_box, cellv_cons, cellv_nil, OV.val_v, hv5, hv6, hv7, hv8], hnb, wn⟩
  rw [IntWalk.i64_in _ (by omega)]
  refine ⟨hk1, by omega, hk1, by omega, hk1, by omega, hk1, by omega, hk1, by omega, ?_⟩
  rw [rowSet HVal.bool, rowSet I, rowSet I]
  have ef : (forgetS s k).fJob = s.fJob := rfl
  refine ⟨_, Heap.le_refl _, _, ?hl, [ys_0, .v (I s.fJob.fFunc), .v (I s.fJob.fShared), ys_3, ys_4, OV.sl n5 1 ((s.fStamps.set k.toNat (s.fStamps[k.toNat] + 1)).map fun x => [.v (I x)]), OV.sl n6 1 ((s.fKnown.set k.toNat false).map fun x => [.v (.bool x)]), OV.sl n7 3 (es.set k.toNat [.v (I 0), .v (I 0), .nil 1]), OV.sl n8 1 ((s.fOwners.set k.toNat (-1)).map fun x => [.v (I x)])], _, ⟨fun z => absurd (Option.some.inj z) hq, fun _ => ⟨rfl, ys_0, ys_3, ys_4, _, _, _, _, rfl, os_0, os_3, os_4, OS.mk (by rw [forgetS, gd]; exact OR_map (s.fStamps.set k.toNat (s.fStamps[k.toNat] + 1))), OS.mk (OR_map (s.fKnown.set k.toNat false)), OS.mk (hor.set k.toNat ⟨0, 0, []⟩ _ ⟨.nil 1, rfl, OS.nil⟩), OS.mk (OR_map (s.fOwners.set k.toNat (-1)))⟩⟩, rfl, ?hn, wn4⟩
  case hl =>
    simp only [cells_box, cellv_cons, cellv_nil, OV.val_v, OV.val_sl, List.length_map, List.length_set, ef]
    refine Heap.wk.trans (Heap.wk_of_le ?_) (Heap.wk_row (g := upd (upd (upd (upd (upd g nb (.row 9 [[.v ys_0.val, .v (I s.fJob.fFunc), .v (I s.fJob.fShared), .v ys_3.val, .v ys_4.val, .v (.os n5 1 0 s.fStamps.length), .v (.os n6 1 0 s.fKnown.length), .v (.os n7 3 0 es.length), .v (.os n8 1 0 s.fOwners.length)]])) n5 (.row 1 (((s.fStamps.set k.toNat (s.fStamps[k.toNat] + 1)).map fun x => [I x]).map (List.map .v)))) n6 (.row 1 (((s.fKnown.set k.toNat false).map fun x => [HVal.bool x]).map (List.map .v)))) n7 (.row 3 (OV.cells (es.set k.toNat [.v (I 0), .v (I 0), .nil 1])))) n8 (.row 1 (((s.fOwners.set k.toNat (-1)).map fun x => [I x]).map (List.map .v)))) (m := n7) (sz := 3) (es := (OV.cells es).set k.toNat [.v (I 0), .v (I 0), .v .nilsl]) (es' := OV.cells (es.set k.toNat [.v (I 0), .v (I 0), .nil 1])) (fun q hq => by simp only [upd_apply, if_neg hq]) (by simp only [upd_apply, ↓reduceIte, e_nb_n5, e_nb_n6, e_nb_n7, e_nb_n8, e_n5_nb, e_n5_n6, e_n5_n7, e_n5_n8, e_n6_nb, e_n6_n5, e_n6_n7, e_n6_n8, e_n7_nb, e_n7_n5, e_n7_n6, e_n7_n8, e_n8_nb, e_n8_n5, e_n8_n6, e_n8_n7]) (by simp only [upd_apply, ↓reduceIte, e_nb_n5, e_nb_n6, e_nb_n7, e_nb_n8, e_n5_nb, e_n5_n6, e_n5_n7, e_n5_n8, e_n6_nb, e_n6_n5, e_n6_n7, e_n6_n8, e_n7_nb, e_n7_n5, e_n7_n6, e_n7_n8, e_n8_nb, e_n8_n5, e_n8_n6, e_n8_n7]) (by rw [← hcs2]; exact wk7))
    exact Heap.le_trans (Heap.le_both (Heap.le_both hle3)) (leX_nil (by repeat' (first | exact leX_refl _ _ | refine leX_put (by simp only [upd_apply, ↓reduceIte, eq_self, if_true, e_nb_n5, e_nb_n6, e_nb_n7, e_nb_n8, e_n5_nb, e_n5_n6, e_n5_n7, e_n5_n8, e_n6_nb, e_n6_n5, e_n6_n7, e_n6_n8, e_n7_nb, e_n7_n5, e_n7_n6, e_n7_n8, e_n8_nb, e_n8_n5, e_n8_n6, e_n8_n7]) ?_ | refine leX_strip (by first | exact .inr (by assumption) | exact .inl (by simp)) ?_)))
  case hn =>
    rw [upd_ne _ _ _ _ d_nb_n8]
    exact Heap.le_none hle3 (by rw [upd_ne _ _ _ _ d_nb_n7, upd_ne _ _ _ _ d_nb_n6, upd_ne _ _ _ _ d_nb_n5]; exact hnb)
open Go.Proofs
set_option linter.unusedVariables false
set_option linter.unusedSimpArgs false
def turnOK (s : DService) (k : Int) (ns : List Int) : Prop := termOK s.fJob k ∧ (ns.length = (s.fJob.fTerms.getD k.toNat []).length) ∧ Nums ns
noncomputable instance (s : DService) (k : Int) (ns : List Int) : Decidable (turnOK s k ns) := Classical.propDecidable _
def termsS (s : DService) (k : Int) (ns : List Int) : DService := { s with fJob := { s.fJob with fTerms := s.fJob.fTerms.set k.toNat ns } }
def turnS (s : DService) (k : Int) (ns : List Int) : DService := termsS (forgetS s k) k ns
noncomputable def turnC (s : DService) (k : Int) (ns : List Int) : DService × Int := if turnOK s k ns then (if s.fStamps[k.toNat]? = some 50 then (s, 3) else (turnS s k ns, 0)) else (s, 2)
theorem turnC_2 {s : DService} {k : Int} {ns : List Int} (h : ¬ turnOK s k ns) : turnC s k ns = (s, 2) := if_neg h
theorem turnC_3 {s : DService} {k : Int} {ns : List Int} (h : turnOK s k ns) (h2 : s.fStamps[k.toNat]? = some 50) : turnC s k ns = (s, 3) := by rw [turnC, if_pos h, if_pos h2]
theorem turnC_ok {s : DService} {k : Int} {ns : List Int} (h : turnOK s k ns) (h2 : ¬ s.fStamps[k.toNat]? = some 50) : turnC s k ns = (turnS s k ns, 0) := by rw [turnC, if_pos h, if_neg h2]
noncomputable def turnRes (s : DService) (k : Int) (ns : List Int) : DService × Int := if s.ok then (if turnOK s k ns then (if s.fStamps[k.toNat]? = some 50 then (zService, 3) else (turnS s k ns, 0)) else (zService, 2)) else (zService, 1)
theorem turnRes_1 {s : DService} {k : Int} {ns : List Int} (h : ¬ s.ok) : turnRes s k ns = (zService, 1) := if_neg h
theorem turnRes_2 {s : DService} {k : Int} {ns : List Int} (h0 : s.ok) (h : ¬ turnOK s k ns) : turnRes s k ns = (zService, 2) := by rw [turnRes, if_pos h0, if_neg h]
theorem turnRes_3 {s : DService} {k : Int} {ns : List Int} (h0 : s.ok) (h : turnOK s k ns) (h2 : s.fStamps[k.toNat]? = some 50) : turnRes s k ns = (zService, 3) := by rw [turnRes, if_pos h0, if_pos h, if_pos h2]
theorem turnRes_ok {s : DService} {k : Int} {ns : List Int} (h0 : s.ok) (h : turnOK s k ns) (h2 : ¬ s.fStamps[k.toNat]? = some 50) : turnRes s k ns = (turnS s k ns, 0) := by rw [turnRes, if_pos h0, if_pos h, if_neg h2]
theorem DService.ok_stamps {s : DService} (h : s.ok) : ∀ x ∈ s.fStamps, 0 ≤ x ∧ x ≤ 50 := by
  intro x hx
  obtain ⟨k, hk, rfl⟩ := List.mem_iff_getElem.1 hx
  have l := h.2.1
  exact (h.2.2 k s.fStamps[k] (s.fOwners[k]'(by omega)) (s.fKnown[k]'(by omega)) (s.fParts[k]'(by omega)) (List.getElem?_eq_getElem hk) (List.getElem?_eq_getElem _) (List.getElem?_eq_getElem _) (List.getElem?_eq_getElem _)).1
def keep86 : List Nat := [0, 1, 2, 6, 31, 39]
def ib86 : List Nat := []
def mk86 : Marks := fun id => match id with | 6 => ([4, 7, 9], (.op 0 (.op 1 (.op 2 (.op 3 (.op 5 (.op 6 (.op 4 (.op 7 (.op 8 (.op 9 .nil)))))))))), [(4, 7)]) | _ => ([], .nil, [])
set_option maxRecDepth 100000 in
set_option maxHeartbeats 2000000 in
theorem l08Turn (s : DService) (k : Int) (ns : List Int) (h0 g : Heap) (nb : Nat) (e : List OV) (oe : s.o e) (hnb : g nb = none) (wn : New h0 (OV.rowsRow e) g) (hs : s.s ≤ 1048576) (hns : ns.length ≤ 1048576) (l1 : s.fStamps.length = s.fJob.fTerms.length ∧ s.fKnown.length = s.fJob.fTerms.length ∧ s.fParts.length = s.fJob.fTerms.length ∧ s.fOwners.length = s.fJob.fTerms.length) (hst : ∀ x ∈ s.fStamps, 0 ≤ x ∧ x ≤ 50) :
    HFn Tryz.prog 86 [.op nb 9 0 0, I k, sls 1 (fun n => [I n]) ns] (upd g nb (.row 9 (OV.cells [e]))) (BoxQ h0 nb 9 fun r e' => r = I (turnC s k ns).2 ∧ (turnC s k ns).1.o e') := by
  have hs' := s.s_eq
  have hs2 := s.fJob.s_eq
  simp only [szs_eq] at hs' hs2
  have hvw := View.box (sz := 9) (DService.o_dat oe) hnb wn.owns
  have htm := l08Term s.fJob k (by omega)
  have oe1 := oe
  obtain ⟨ys_0, ys_3, ys_4, ys_5, ys_6, ys_7, ys_8, rfl, os_0, os_3, os_4, os_5, os_6, os_7, os_8⟩ := oe1
  refine fnHF 52 keep86 ib86 mk86 mix Tryz.func86 rfl (by kernel_rfl) (by simp) ?_
  simp (maxSteps := 1000000) -dsimp -implicitDefEqProofs only [go_sem, ↓reduceIte, keep86, ib86, mk86, Tryz.f86]
  refine HFnF.lend0 htm (ViewL.cons (hvw.sub (Sub.ipAt rfl rfl rfl)) (ViewL.cons (View.same _ _) ViewL.nil)) rfl ?_
  simp (maxSteps := 1000000) -dsimp -implicitDefEqProofs only [go_sem, ↓reduceIte, keep86, ib86, mk86, Tryz.f86, OV.map_val, OV.map_val_nil, OV.val_v, upd_upd, upd_ne, os_0.flat, os_0.one, os_3.flat, os_3.one, os_4.flat, os_4.one, os_5.flat, os_5.one, os_6.flat, os_6.one, os_7.flat, os_7.one, os_8.flat, os_8.one]
  refine ⟨fun ht => ?_, fun ht => ?_⟩
  case refine_2 =>
    rw [turnC_2 fun q => ht q.1]
    exact ⟨_, Heap.le_refl _, _, g, ⟨rfl, oe⟩, rfl, hnb, wn⟩
  have hk1 := ht.1
  have hk2 := ht.2
  have kt : k.toNat < s.fJob.fTerms.length := by omega
  have gt : s.fJob.fTerms[k.toNat]? = some s.fJob.fTerms[k.toNat] := List.getElem?_eq_getElem kt
  have gtd : s.fJob.fTerms.getD k.toNat [] = s.fJob.fTerms[k.toNat] := by rw [List.getD_eq_getElem?_getD, gt]; rfl
  have htl := sum_mem (fun x : List Int => x.length) (List.getElem_mem kt)
  try simp only at htl
  have ks : k.toNat < s.fStamps.length := by omega
  have gs : s.fStamps[k.toNat]? = some s.fStamps[k.toNat] := List.getElem?_eq_getElem ks
  have hb := hst s.fStamps[k.toNat] (List.getElem_mem ks)
  obtain ⟨n4, es4, rfl, hor4⟩ := os_4.some (by omega)
  rcases os_5.prim with ⟨rfl, h5⟩ | ⟨n5, rfl⟩
  · rw [h5] at ks; simp at ks
  have g4 := wn.getSl [ys_0, .v (.int .i64 s.fJob.fFunc), .v (.int .i64 s.fJob.fShared), ys_3]
  have g5 := wn.getP ([ys_0, .v (.int .i64 s.fJob.fFunc), .v (.int .i64 s.fJob.fShared), ys_3] ++ [OV.sl n4 1 es4]) (c := I)
  have d_n4_nb : ¬ n4 = nb := ne_of_none g4 hnb
  have d_nb_n4 : ¬ nb = n4 := Ne.symm d_n4_nb
  have e_n4_nb : (n4 = nb) = False := eq_false d_n4_nb
  have e_nb_n4 : (nb = n4) = False := eq_false d_nb_n4
  have d_n5_nb : ¬ n5 = nb := ne_of_none g5 hnb
  have d_nb_n5 : ¬ nb = n5 := Ne.symm d_n5_nb
  have e_n5_nb : (n5 = nb) = False := eq_false d_n5_nb
  have e_nb_n5 : (nb = n5) = False := eq_false d_nb_n5
  have hv4 := OV.val_sl n4 1 es4
  have hv5 := OV.val_prim I n5 1 s.fStamps
  have hel4 : es4.length = s.fJob.fTerms.length := hor4.length.symm
  obtain ⟨ek4, hek4, yk, rfl, oyk⟩ := hor4.getE k.toNat _ gt
  have hck4 := cells_get hek4
  simp only [cellv_cons, cellv_nil, OV.val_v] at hck4
  have hyk : (yk.val = .sl 1 [] true ∧ s.fJob.fTerms[k.toNat].length = 0) ∨ ∃ n, yk.val = .os n 1 0 s.fJob.fTerms[k.toNat].length := by
    rcases oyk.prim with ⟨rfl, h⟩ | ⟨n, rfl⟩
    · exact .inl ⟨rfl, by rw [h]; rfl⟩
    · exact .inr ⟨n, OV.val_prim I n 1 _⟩
  have cb : ∀ (v : HVal) (c : Int), v = I c → turnC s k ns = (s, c) → ∃ g_1 : Heap, g_1.le (upd g nb (.row 9 [[.v ys_0.val, .v (I s.fJob.fFunc), .v (I s.fJob.fShared), .v ys_3.val, .v (.os n4 1 0 es4.length), .v (.os n5 1 0 s.fStamps.length), .v ys_6.val, .v ys_7.val, .v ys_8.val]])) ∧ BoxQ h0 nb 9 (fun r e' => r = I (turnC s k ns).2 ∧ (turnC s k ns).1.o e') v g_1 := by
    rintro v c rfl hq
    rw [hq]
    exact ⟨_, Heap.le_refl _, _, g, ⟨rfl, oe⟩, by simp only [cells_box, cellv_cons, cellv_nil, OV.val_v, hv4, hv5], hnb, wn⟩
  rcases hyk with ⟨hvk, hlk⟩ | ⟨nk, hvk⟩
  all_goals
    simp (maxSteps := 1000000) -dsimp -implicitDefEqProofs only [go_sem, ↓reduceIte, keep86, ib86, mk86, Tryz.f86, OV.map_val, OV.map_val_nil, OV.val_v, upd_upd, upd_ne, os_0.flat, os_0.one, os_3.flat, os_3.one, os_4.flat, os_4.one, os_5.flat, os_5.one, os_6.flat, os_6.one, os_7.flat, os_7.one, os_8.flat, os_8.one, e_nb_n4, e_n4_nb, e_nb_n5, e_n5_nb, cells_box, cellv_cons, cellv_nil, gs, hv4, hv5, g4, g5, hck4, hvk]
    refine fun _ => ⟨hk1, by omega, ?_⟩
    first | refine fun _ => ⟨fun hq => ?_, fun hq => cb _ 2 rfl (turnC_2 fun z => ?_)⟩ | refine ⟨fun hq => ?_, fun hq => cb _ 2 rfl (turnC_2 fun z => ?_)⟩
    case' refine_2 => have := z.2.1; rw [gtd] at this; omega
  all_goals
    have hq' : ns.length = s.fJob.fTerms[k.toNat].length := by omega
    first | refine HFnF.mk (l01Numbers ns) ?_ | refine CallSF.mk (l01Numbers ns) ?_ | refine HFnF.mkAt (l01Numbers ns) ?_ | refine CallSF.mk (FnAt.fn0 (l01Numbers ns)) ?_
    simp (maxSteps := 1000000) -dsimp -implicitDefEqProofs only [go_sem, ↓reduceIte, keep86, ib86, mk86, Tryz.f86]
    refine ⟨fun hn => cb _ 2 rfl (turnC_2 fun z => by have := z.2.2; first | exact hn this | simp_all), fun hn => ?_⟩
    simp (maxSteps := 1000000) -dsimp -implicitDefEqProofs only [go_sem, ↓reduceIte, keep86, ib86, mk86, Tryz.f86, OV.map_val, OV.map_val_nil, OV.val_v, upd_upd, upd_ne, os_0.flat, os_0.one, os_3.flat, os_3.one, os_4.flat, os_4.one, os_5.flat, os_5.one, os_6.flat, os_6.one, os_7.flat, os_7.one, os_8.flat, os_8.one, e_nb_n4, e_n4_nb, e_nb_n5, e_n5_nb, gs, hv4, hv5, g4, g5, hck4, hvk]
  all_goals
    refine ⟨hk1, by omega, fun h50 => cb _ 3 rfl (turnC_3 ⟨ht, by rw [gtd]; exact hq', by first | assumption | (simp_all; done)⟩ (by rw [gs]; congr 1; omega)), fun h50 => ?_⟩
    rw [turnC_ok ⟨ht, by rw [gtd]; exact hq', by first | assumption | (simp_all; done)⟩ (by rw [gs]; intro z; have := Option.some.inj z; omega)]
    have hR : ([[.v ys_0.val, .v (I s.fJob.fFunc), .v (I s.fJob.fShared), .v ys_3.val, .v (.os n4 1 0 es4.length), .v (.os n5 1 0 s.fStamps.length), .v ys_6.val, .v ys_7.val, .v ys_8.val]] : List (List Cell)) = OV.cells [[ys_0, .v (I s.fJob.fFunc), .v (I s.fJob.fShared), ys_3, OV.sl n4 1 es4, OV.sl n5 1 (s.fStamps.map fun x => [.v (I x)]), ys_6, ys_7, ys_8]] := by simp only [cells_box, cellv_cons, cellv_nil, OV.val_v, hv4, hv5]
    rw [hR]
    refine HFnF.mkH (l08Forget s k h0 g nb _ oe hnb wn l1 ht hst) ?_
    clear hR cb hvw wn oe hv4 hv5 g4 g5 os_0 os_3 os_4 os_5 os_6 os_7 os_8 oyk
    rintro r h' ⟨e2, g2, oe2, rfl, hnb2, wn2⟩
    have oe3 := oe2
    obtain ⟨yt_0, yt_3, yt_4, yt_5, yt_6, yt_7, yt_8, rfl, ot_0, ot_3, ot_4, ot_5, ot_6, ot_7, ot_8⟩ := oe3
    obtain ⟨m4, fs4, rfl, hot4⟩ := ot_4.some (show 0 < s.fJob.fTerms.length by omega)
    have f4 := wn2.getSl [yt_0, .v (.int .i64 (forgetS s k).fJob.fFunc), .v (.int .i64 (forgetS s k).fJob.fShared), yt_3]
    have d_m4_nb : ¬ m4 = nb := ne_of_none f4 hnb2
    have d_nb_m4 : ¬ nb = m4 := Ne.symm d_m4_nb
    have e_m4_nb : (m4 = nb) = False := eq_false d_m4_nb
    have e_nb_m4 : (nb = m4) = False := eq_false d_nb_m4
    have hw4 := OV.val_sl m4 1 fs4
    have hfl4 : fs4.length = s.fJob.fTerms.length := hot4.length.symm
    obtain ⟨fk4, hfk4, yk2, rfl, oyk2⟩ := hot4.getE k.toNat _ gt
    have hdk4 := cells_get hfk4
    simp only [cellv_cons, cellv_nil, OV.val_v] at hdk4
    simp (maxSteps := 1000000) -dsimp -implicitDefEqProofs only [go_sem, ↓reduceIte, keep86, ib86, mk86, Tryz.f86, OV.map_val, OV.map_val_nil, OV.val_v, upd_upd, upd_ne, ot_0.flat, ot_0.one, ot_3.flat, ot_3.one, ot_4.flat, ot_4.one, ot_5.flat, ot_5.one, ot_6.flat, ot_6.one, ot_7.flat, ot_7.one, ot_8.flat, ot_8.one, e_nb_m4, e_m4_nb, cells_box, cellv_cons, cellv_nil, hw4, f4, hdk4]
  all_goals
    refine HFnF.wn1 (l00Own ns hns) hnb2 ?_
    rintro r_ l_ g3 ⟨yn, oyn, rfl, rfl⟩ wp hnb3
    replace f4 := wp.keep f4
    simp (maxSteps := 1000000) -dsimp -implicitDefEqProofs only [go_sem, ↓reduceIte, keep86, ib86, mk86, Tryz.f86, OV.map_val, OV.map_val_nil, OV.val_v, upd_upd, upd_ne, ot_0.flat, ot_0.one, ot_3.flat, ot_3.one, ot_4.flat, ot_4.one, ot_5.flat, ot_5.one, ot_6.flat, ot_6.one, ot_7.flat, ot_7.one, ot_8.flat, ot_8.one, e_nb_m4, e_m4_nb, cells_box, cellv_cons, cellv_nil, hw4, f4, hdk4, oyn.flat, oyn.one]
    refine ⟨hk1, by omega, ?_⟩
    obtain ⟨g5, hle5, wn5⟩ := wn2.setEl [yt_0, .v (.int .i64 (forgetS s k).fJob.fFunc), .v (.int .i64 (forgetS s k).fJob.fShared), yt_3] (k := k.toNat) (enew := [yn]) (by rw [OV.row_cons, OV.row_nil, List.append_nil]; exact wp) (by omega)
    have hcs := cells_setEl fs4 k.toNat [yn] _ rfl
    simp only [cellv_cons, cellv_nil, OV.val_v] at hcs
    rw [hcs]
    refine ⟨_, ?hl, _, _, ⟨rfl, yt_0, yt_3, _, yt_5, yt_6, yt_7, yt_8, rfl, ot_0, ot_3, OS.mk (hot4.set k.toNat ns [yn] ⟨yn, rfl, oyn⟩), ot_5, ot_6, ot_7, ot_8⟩, rfl, ?hn, wn5⟩
    case hl =>
      simp only [cells_box, cellv_cons, cellv_nil, OV.val_v, OV.val_sl, List.length_set, show (turnS s k ns).fJob.fFunc = (forgetS s k).fJob.fFunc from rfl, show (turnS s k ns).fJob.fShared = (forgetS s k).fJob.fShared from rfl]
      exact Heap.le_trans (Heap.le_both hle5) (leX_nil (by repeat' (first | exact leX_refl _ _ | refine leX_put (by simp only [upd_apply, ↓reduceIte, eq_self, if_true, e_nb_m4, e_m4_nb]) ?_ | refine leX_strip (by first | exact .inr (by assumption) | exact .inl (by simp)) ?_)))
    case hn => exact Heap.le_none hle5 (by rw [upd_ne _ _ _ _ d_nb_m4]; exact hnb3)
def keep32 : List Nat := [0, 1, 2, 3, 6, 7, 8, 9, 11, 18]
def ib32 : List Nat := [3]
def mk32 : Marks := fun _ => ([], .nil, [])
set_option maxRecDepth 100000 in
set_option maxHeartbeats 1000000 in
theorem specChangeTerm (s : DService) (k : Int) (ns : List Int) (hs : s.s ≤ 1048576) (hns : ns.length ≤ 1048576) : FnN Tryz.prog 32 [.agg s.c, I k, sls 1 (fun n => [I n]) ns] (QA (turnRes s k ns).1.o (fun y => .tup [y, I (turnRes s k ns).2])) := by
  have hs' := s.s_eq
  have hs2 := s.fJob.s_eq
  simp only [szs_eq] at hs' hs2
  have hok := l08Ok s (by omega)
  have hcl := l08OwnService s hs
  simp only [DService.c_eq, DJob.c_eq] at hok hcl ⊢
  refine fnNF 22 keep32 ib32 mk32 mix Tryz.func32 rfl (by kernel_rfl) (by simp) fun h => ?_
  simp (maxSteps := 1000000) -dsimp -implicitDefEqProofs only [go_sem, ↓reduceIte, keep32, ib32, mk32, Tryz.f32]
  intro n4 z4
  have z4h := z4
  try simp (maxSteps := 1000000) -dsimp -implicitDefEqProofs only [go_sem, ↓reduceIte, keep32, ib32, mk32, Tryz.f32]
  first | refine HFnF.mk (hok) ?_ | refine CallSF.mk (hok) ?_ | refine HFnF.mkAt (hok) ?_ | refine CallSF.mk (FnAt.fn0 (hok)) ?_
  simp (maxSteps := 1000000) -dsimp -implicitDefEqProofs only [go_sem, ↓reduceIte, keep32, ib32, mk32, Tryz.f32]
  refine ⟨fun hn => ?_, fun hy => ?_⟩
  · have hn' : ¬ s.ok := by simpa using hn
    rw [turnRes_1 hn']
    try simp (maxSteps := 1000000) -dsimp -implicitDefEqProofs only [go_sem, ↓reduceIte, keep32, ib32, mk32, Tryz.f32, upd_upd]
    exact own_zero zService_o (wsub_tup [] [_]) (by repeat' (first | exact Heap.le_refl _ | refine Heap.le_both ?_ | refine Heap.le_upd (by first | assumption | (rw [upd_ne _ _ _ _ (by assumption)]; assumption) | (rw [upd_ne _ _ _ _ (by assumption), upd_ne _ _ _ _ (by assumption)]; assumption) | (rw [upd_ne _ _ _ _ (by assumption), upd_ne _ _ _ _ (by assumption), upd_ne _ _ _ _ (by assumption)]; assumption)) ?_))
  have hy' : s.ok := by simpa using hy
  try simp (maxSteps := 1000000) -dsimp -implicitDefEqProofs only [go_sem, ↓reduceIte, keep32, ib32, mk32, Tryz.f32]
  refine HFnF.wn1 hcl z4 ?_
  rintro r l_ g ⟨e, oe, rfl, rfl⟩ wn z4
  have oe1 := oe
  obtain ⟨ys_0, ys_3, ys_4, ys_5, ys_6, ys_7, ys_8, rfl, os_0, os_3, os_4, os_5, os_6, os_7, os_8⟩ := oe1
  simp (maxSteps := 1000000) -dsimp -implicitDefEqProofs only [go_sem, ↓reduceIte, keep32, ib32, mk32, Tryz.f32, OV.map_val, OV.map_val_nil, OV.val_v, upd_upd, upd_ne, os_0.flat, os_0.one, os_3.flat, os_3.one, os_4.flat, os_4.one, os_5.flat, os_5.one, os_6.flat, os_6.one, os_7.flat, os_7.one, os_8.flat, os_8.one]
  intro n6 q_n6
  have d_n6_n4 : ¬ n6 = n4 := by first | exact q_n6.1 | exact q_n6 | exact q_n6.2.1 | exact q_n6.2 | exact q_n6.2.2.1 | exact q_n6.2.2 | exact q_n6.2.2.2.1 | exact q_n6.2.2.2 | exact q_n6.2.2.2.2.1 | exact q_n6.2.2.2.2 | exact q_n6.2.2.2.2.2.1 | exact q_n6.2.2.2.2.2 | exact q_n6.2.2.2.2.2.2.1 | exact q_n6.2.2.2.2.2.2 | exact q_n6.2.2.2.2.2.2.2.1 | exact q_n6.2.2.2.2.2.2.2 | exact q_n6.2.2.2.2.2.2.2.2.1 | exact q_n6.2.2.2.2.2.2.2.2 | exact q_n6.2.2.2.2.2.2.2.2.2.1 | exact q_n6.2.2.2.2.2.2.2.2.2 | exact q_n6.2.2.2.2.2.2.2.2.2.2.1 | exact q_n6.2.2.2.2.2.2.2.2.2.2 | exact q_n6.2.2.2.2.2.2.2.2.2.2.2.1 | exact q_n6.2.2.2.2.2.2.2.2.2.2.2 | exact q_n6.2.2.2.2.2.2.2.2.2.2.2.2.1 | exact q_n6.2.2.2.2.2.2.2.2.2.2.2.2 | exact q_n6.2.2.2.2.2.2.2.2.2.2.2.2.2.1 | exact q_n6.2.2.2.2.2.2.2.2.2.2.2.2.2
  have e_n6_n4 : (n6 = n4) = False := eq_false d_n6_n4
  have e_n4_n6 : (n4 = n6) = False := eq_false (Ne.symm d_n6_n4)
  have d_n4_n6 : ¬ n4 = n6 := Ne.symm d_n6_n4
  have z_n6 : g n6 = none := by first | exact q_n6.1 | exact q_n6 | exact q_n6.2.1 | exact q_n6.2 | exact q_n6.2.2.1 | exact q_n6.2.2 | exact q_n6.2.2.2.1 | exact q_n6.2.2.2 | exact q_n6.2.2.2.2.1 | exact q_n6.2.2.2.2 | exact q_n6.2.2.2.2.2.1 | exact q_n6.2.2.2.2.2 | exact q_n6.2.2.2.2.2.2.1 | exact q_n6.2.2.2.2.2.2 | exact q_n6.2.2.2.2.2.2.2.1 | exact q_n6.2.2.2.2.2.2.2 | exact q_n6.2.2.2.2.2.2.2.2.1 | exact q_n6.2.2.2.2.2.2.2.2 | exact q_n6.2.2.2.2.2.2.2.2.2.1 | exact q_n6.2.2.2.2.2.2.2.2.2 | exact q_n6.2.2.2.2.2.2.2.2.2.2.1 | exact q_n6.2.2.2.2.2.2.2.2.2.2 | exact q_n6.2.2.2.2.2.2.2.2.2.2.2.1 | exact q_n6.2.2.2.2.2.2.2.2.2.2.2 | exact q_n6.2.2.2.2.2.2.2.2.2.2.2.2.1 | exact q_n6.2.2.2.2.2.2.2.2.2.2.2.2 | exact q_n6.2.2.2.2.2.2.2.2.2.2.2.2.2.1 | exact q_n6.2.2.2.2.2.2.2.2.2.2.2.2.2
  have hst : ∀ x ∈ s.fStamps, 0 ≤ x ∧ x ≤ 50 := DService.ok_stamps hy'
  refine HFnF.mkH (l08Turn s k ns _ _ n6 _ oe (by rw [upd_ne _ _ _ _ d_n6_n4]; exact z_n6) (wn.over z4) hs hns hy'.2.1 hst) ?_
  rintro r h' ⟨e2, g2, ⟨rfl, oe2⟩, rfl, hg2, wn2⟩
  obtain ⟨g3, hle3, wn3, z43, rfl⟩ := wn2.base z4h
  have z63 : g3 n6 = none := by rwa [upd_ne _ _ _ _ d_n6_n4] at hg2
  clear wn oe os_0 os_3 os_4 os_5 os_6 os_7 os_8 wn2
  by_cases h2 : turnOK s k ns
  case neg =>
    rw [turnRes_2 hy' h2, turnC_2 h2]
    simp (maxSteps := 1000000) -dsimp -implicitDefEqProofs only [go_sem, ↓reduceIte, keep32, ib32, mk32, Tryz.f32, OV.map_val, OV.map_val_nil, OV.val_v, upd_upd, upd_ne, e_n4_n6, e_n6_n4]
    exact own_zero zService_o (wsub_tup [] [_]) (Heap.le_trans wn3.le (by repeat' (first | exact Heap.le_refl _ | refine Heap.le_both ?_ | refine Heap.le_upd (by first | assumption | (rw [upd_ne _ _ _ _ (by assumption)]; assumption) | (rw [upd_ne _ _ _ _ (by assumption), upd_ne _ _ _ _ (by assumption)]; assumption) | (rw [upd_ne _ _ _ _ (by assumption), upd_ne _ _ _ _ (by assumption), upd_ne _ _ _ _ (by assumption)]; assumption)) ?_)))
  by_cases h3 : s.fStamps[k.toNat]? = some 50
  case pos =>
    rw [turnRes_3 hy' h2 h3, turnC_3 h2 h3]
    simp (maxSteps := 1000000) -dsimp -implicitDefEqProofs only [go_sem, ↓reduceIte, keep32, ib32, mk32, Tryz.f32, OV.map_val, OV.map_val_nil, OV.val_v, upd_upd, upd_ne, e_n4_n6, e_n6_n4]
    exact own_zero zService_o (wsub_tup [] [_]) (Heap.le_trans wn3.le (by repeat' (first | exact Heap.le_refl _ | refine Heap.le_both ?_ | refine Heap.le_upd (by first | assumption | (rw [upd_ne _ _ _ _ (by assumption)]; assumption) | (rw [upd_ne _ _ _ _ (by assumption), upd_ne _ _ _ _ (by assumption)]; assumption) | (rw [upd_ne _ _ _ _ (by assumption), upd_ne _ _ _ _ (by assumption), upd_ne _ _ _ _ (by assumption)]; assumption)) ?_)))
  rw [turnC_ok h2 h3] at oe2 ⊢
  rw [turnRes_ok hy' h2 h3]
  have oe3 := oe2
  obtain ⟨yt_0, yt_3, yt_4, yt_5, yt_6, yt_7, yt_8, rfl, ot_0, ot_3, ot_4, ot_5, ot_6, ot_7, ot_8⟩ := oe3
  simp (maxSteps := 1000000) -dsimp -implicitDefEqProofs only [go_sem, ↓reduceIte, keep32, ib32, mk32, Tryz.f32, OV.map_val, OV.map_val_nil, OV.val_v, upd_upd, upd_ne, ot_0.flat, ot_0.one, ot_3.flat, ot_3.one, ot_4.flat, ot_4.one, ot_5.flat, ot_5.one, ot_6.flat, ot_6.one, ot_7.flat, ot_7.one, ot_8.flat, ot_8.one, e_n4_n6, e_n6_n4, cells_box, cellv_cons, cellv_nil]
  exact own_end (w := fun y => .tup [y, I 0]) oe2 wn3 (by repeat' (first | exact Heap.le_refl _ | refine Heap.le_both ?_ | refine Heap.le_upd (by first | assumption | (rw [upd_ne _ _ _ _ (by assumption)]; assumption) | (rw [upd_ne _ _ _ _ (by assumption), upd_ne _ _ _ _ (by assumption)]; assumption) | (rw [upd_ne _ _ _ _ (by assumption), upd_ne _ _ _ _ (by assumption), upd_ne _ _ _ _ (by assumption)]; assumption)) ?_))
def keep34 : List Nat := [0, 1, 2, 3, 6, 7, 8, 9, 14, 44]
def ib34 : List Nat := [3]
def mk34 : Marks := fun id => match id with | 6 => ([2, 5, 7], (.op 0 (.op 1 (.op 3 (.op 4 (.op 2 (.op 5 (.op 6 (.op 7 .nil)))))))), [(2, 5)]) | _ => ([], .nil, [])
set_option maxRecDepth 100000 in
set_option maxHeartbeats 2000000 in
theorem ChangeTerm (s : DService) (k : Int) (ns : List Int) (hs : s.s ≤ 1048576) (hns : ns.length ≤ 1048576) : FnN Tryz.prog 34 [.agg s.c, I k, sls 1 (fun n => [I n]) ns] (QA (turnRes s k ns).1.o (fun y => .tup [y, I (turnRes s k ns).2])) := by
  have hs' := s.s_eq
  have hs2 := s.fJob.s_eq
  simp only [szs_eq] at hs' hs2
  have hok := ValidService s (by omega)
  have hcl := cloneService s hs
  have hhas := has s.fJob k (by omega)
  simp only [DService.c_eq, DJob.c_eq] at hok hcl hhas ⊢
  refine fnNF 47 keep34 ib34 mk34 mix Tryz.func34 rfl (by kernel_rfl) (by simp) fun h => ?_
  simp (maxSteps := 1000000) -dsimp -implicitDefEqProofs only [go_sem, ↓reduceIte, keep34, ib34, mk34, Tryz.f34]
  intro n4 z4
  have z4h := z4
  try simp (maxSteps := 1000000) -dsimp -implicitDefEqProofs only [go_sem, ↓reduceIte, keep34, ib34, mk34, Tryz.f34]
  first | refine HFnF.mk (hok) ?_ | refine CallSF.mk (hok) ?_ | refine HFnF.mkAt (hok) ?_ | refine CallSF.mk (FnAt.fn0 (hok)) ?_
  simp (maxSteps := 1000000) -dsimp -implicitDefEqProofs only [go_sem, ↓reduceIte, keep34, ib34, mk34, Tryz.f34]
  refine ⟨fun hn => ?_, fun hy => ?_⟩
  · have hn' : ¬ s.ok := by simpa using hn
    rw [turnRes_1 hn']
    try simp (maxSteps := 1000000) -dsimp -implicitDefEqProofs only [go_sem, ↓reduceIte, keep34, ib34, mk34, Tryz.f34, upd_upd]
    exact own_zero zService_o (wsub_tup [] [_]) (by repeat' (first | exact Heap.le_refl _ | refine Heap.le_both ?_ | refine Heap.le_upd (by first | assumption | (rw [upd_ne _ _ _ _ (by assumption)]; assumption) | (rw [upd_ne _ _ _ _ (by assumption), upd_ne _ _ _ _ (by assumption)]; assumption) | (rw [upd_ne _ _ _ _ (by assumption), upd_ne _ _ _ _ (by assumption), upd_ne _ _ _ _ (by assumption)]; assumption)) ?_))
  have hy' : s.ok := by simpa using hy
  try simp (maxSteps := 1000000) -dsimp -implicitDefEqProofs only [go_sem, ↓reduceIte, keep34, ib34, mk34, Tryz.f34]
  first | refine HFnF.mk (hhas) ?_ | refine CallSF.mk (hhas) ?_ | refine HFnF.mkAt (hhas) ?_ | refine CallSF.mk (FnAt.fn0 (hhas)) ?_
  simp (maxSteps := 1000000) -dsimp -implicitDefEqProofs only [go_sem, ↓reduceIte, keep34, ib34, mk34, Tryz.f34]
  refine ⟨fun ht => ?_, fun ht => ?_⟩
  case refine_2 =>
    rw [turnRes_2 hy' fun q => ht q.1]
    try simp (maxSteps := 1000000) -dsimp -implicitDefEqProofs only [go_sem, ↓reduceIte, keep34, ib34, mk34, Tryz.f34, upd_upd]
    exact own_zero zService_o (wsub_tup [] [_]) (by repeat' (first | exact Heap.le_refl _ | refine Heap.le_both ?_ | refine Heap.le_upd (by first | assumption | (rw [upd_ne _ _ _ _ (by assumption)]; assumption) | (rw [upd_ne _ _ _ _ (by assumption), upd_ne _ _ _ _ (by assumption)]; assumption) | (rw [upd_ne _ _ _ _ (by assumption), upd_ne _ _ _ _ (by assumption), upd_ne _ _ _ _ (by assumption)]; assumption)) ?_))
  have hk1 := ht.1
  have hk2 := ht.2
  have kt : k.toNat < s.fJob.fTerms.length := by omega
  have gt : s.fJob.fTerms[k.toNat]? = some s.fJob.fTerms[k.toNat] := List.getElem?_eq_getElem kt
  have gtd : s.fJob.fTerms.getD k.toNat [] = s.fJob.fTerms[k.toNat] := by rw [List.getD_eq_getElem?_getD, gt]; rfl
  have htl := sum_mem (fun x : List Int => x.length) (List.getElem_mem kt)
  try simp only at htl
  simp (maxSteps := 1000000) -dsimp -implicitDefEqProofs only [go_sem, ↓reduceIte, keep34, ib34, mk34, Tryz.f34, gt]
  refine ⟨hk1, by omega, fun _ => ?_⟩
  have htn : turnOK s k ns ↔ ns.length = (s.fJob.fTerms[k.toNat]).length ∧ Nums ns := by rw [turnOK, gtd]; exact ⟨fun q => q.2, fun q => ⟨ht, q⟩⟩
  first | refine HFnF.mk (areNumbers ns s.fJob.fTerms[k.toNat].length) ?_ | refine CallSF.mk (areNumbers ns s.fJob.fTerms[k.toNat].length) ?_ | refine HFnF.mkAt (areNumbers ns s.fJob.fTerms[k.toNat].length) ?_ | refine CallSF.mk (FnAt.fn0 (areNumbers ns s.fJob.fTerms[k.toNat].length)) ?_
  simp (maxSteps := 1000000) -dsimp -implicitDefEqProofs only [go_sem, ↓reduceIte, keep34, ib34, mk34, Tryz.f34]
  refine ⟨fun hn => ?_, fun hn => ?_⟩
  · rw [turnRes_2 hy' (by rw [htn]; simpa using hn)]
    try simp (maxSteps := 1000000) -dsimp -implicitDefEqProofs only [go_sem, ↓reduceIte, keep34, ib34, mk34, Tryz.f34, upd_upd]
    exact own_zero zService_o (wsub_tup [] [_]) (by repeat' (first | exact Heap.le_refl _ | refine Heap.le_both ?_ | refine Heap.le_upd (by first | assumption | (rw [upd_ne _ _ _ _ (by assumption)]; assumption) | (rw [upd_ne _ _ _ _ (by assumption), upd_ne _ _ _ _ (by assumption)]; assumption) | (rw [upd_ne _ _ _ _ (by assumption), upd_ne _ _ _ _ (by assumption), upd_ne _ _ _ _ (by assumption)]; assumption)) ?_))
  have h2 : turnOK s k ns := by rw [htn]; simpa using hn
  try simp (maxSteps := 1000000) -dsimp -implicitDefEqProofs only [go_sem, ↓reduceIte, keep34, ib34, mk34, Tryz.f34]
  refine HFnF.wn1 hcl z4 ?_
  rintro r l_ g ⟨e, oe, rfl, rfl⟩ wn z4
  have oe1 := oe
  obtain ⟨ys_0, ys_3, ys_4, ys_5, ys_6, ys_7, ys_8, rfl, os_0, os_3, os_4, os_5, os_6, os_7, os_8⟩ := oe1
  simp (maxSteps := 1000000) -dsimp -implicitDefEqProofs only [go_sem, ↓reduceIte, keep34, ib34, mk34, Tryz.f34, OV.map_val, OV.map_val_nil, OV.val_v, upd_upd, upd_ne, os_0.flat, os_0.one, os_3.flat, os_3.one, os_4.flat, os_4.one, os_5.flat, os_5.one, os_6.flat, os_6.one, os_7.flat, os_7.one, os_8.flat, os_8.one]
  intro n6 q_n6
  have d_n6_n4 : ¬ n6 = n4 := by first | exact q_n6.1 | exact q_n6 | exact q_n6.2.1 | exact q_n6.2 | exact q_n6.2.2.1 | exact q_n6.2.2 | exact q_n6.2.2.2.1 | exact q_n6.2.2.2 | exact q_n6.2.2.2.2.1 | exact q_n6.2.2.2.2 | exact q_n6.2.2.2.2.2.1 | exact q_n6.2.2.2.2.2 | exact q_n6.2.2.2.2.2.2.1 | exact q_n6.2.2.2.2.2.2 | exact q_n6.2.2.2.2.2.2.2.1 | exact q_n6.2.2.2.2.2.2.2 | exact q_n6.2.2.2.2.2.2.2.2.1 | exact q_n6.2.2.2.2.2.2.2.2 | exact q_n6.2.2.2.2.2.2.2.2.2.1 | exact q_n6.2.2.2.2.2.2.2.2.2 | exact q_n6.2.2.2.2.2.2.2.2.2.2.1 | exact q_n6.2.2.2.2.2.2.2.2.2.2 | exact q_n6.2.2.2.2.2.2.2.2.2.2.2.1 | exact q_n6.2.2.2.2.2.2.2.2.2.2.2 | exact q_n6.2.2.2.2.2.2.2.2.2.2.2.2.1 | exact q_n6.2.2.2.2.2.2.2.2.2.2.2.2 | exact q_n6.2.2.2.2.2.2.2.2.2.2.2.2.2.1 | exact q_n6.2.2.2.2.2.2.2.2.2.2.2.2.2
  have e_n6_n4 : (n6 = n4) = False := eq_false d_n6_n4
  have e_n4_n6 : (n4 = n6) = False := eq_false (Ne.symm d_n6_n4)
  have d_n4_n6 : ¬ n4 = n6 := Ne.symm d_n6_n4
  have z_n6 : g n6 = none := by first | exact q_n6.1 | exact q_n6 | exact q_n6.2.1 | exact q_n6.2 | exact q_n6.2.2.1 | exact q_n6.2.2 | exact q_n6.2.2.2.1 | exact q_n6.2.2.2 | exact q_n6.2.2.2.2.1 | exact q_n6.2.2.2.2 | exact q_n6.2.2.2.2.2.1 | exact q_n6.2.2.2.2.2 | exact q_n6.2.2.2.2.2.2.1 | exact q_n6.2.2.2.2.2.2 | exact q_n6.2.2.2.2.2.2.2.1 | exact q_n6.2.2.2.2.2.2.2 | exact q_n6.2.2.2.2.2.2.2.2.1 | exact q_n6.2.2.2.2.2.2.2.2 | exact q_n6.2.2.2.2.2.2.2.2.2.1 | exact q_n6.2.2.2.2.2.2.2.2.2 | exact q_n6.2.2.2.2.2.2.2.2.2.2.1 | exact q_n6.2.2.2.2.2.2.2.2.2.2 | exact q_n6.2.2.2.2.2.2.2.2.2.2.2.1 | exact q_n6.2.2.2.2.2.2.2.2.2.2.2 | exact q_n6.2.2.2.2.2.2.2.2.2.2.2.2.1 | exact q_n6.2.2.2.2.2.2.2.2.2.2.2.2 | exact q_n6.2.2.2.2.2.2.2.2.2.2.2.2.2.1 | exact q_n6.2.2.2.2.2.2.2.2.2.2.2.2.2
  obtain ⟨m4, es4, rfl, hor4⟩ := os_4.some (by omega)
  have f4 := wn.getSl [ys_0, .v (.int .i64 s.fJob.fFunc), .v (.int .i64 s.fJob.fShared), ys_3]
  have d_m4_n6 : ¬ m4 = n6 := ne_of_none f4 z_n6
  have d_n6_m4 : ¬ n6 = m4 := Ne.symm d_m4_n6
  have e_m4_n6 : (m4 = n6) = False := eq_false d_m4_n6
  have e_n6_m4 : (n6 = m4) = False := eq_false d_n6_m4
  have d_m4_n4 : ¬ m4 = n4 := ne_of_none f4 z4
  have d_n4_m4 : ¬ n4 = m4 := Ne.symm d_m4_n4
  have e_m4_n4 : (m4 = n4) = False := eq_false d_m4_n4
  have e_n4_m4 : (n4 = m4) = False := eq_false d_n4_m4
  have hw4 := OV.val_sl m4 1 es4
  have hel4 : es4.length = s.fJob.fTerms.length := hor4.length.symm
  obtain ⟨fk4, hfk4, yk2, rfl, oyk2⟩ := hor4.getE k.toNat _ gt
  have hdk4 := cells_get hfk4
  simp only [cellv_cons, cellv_nil, OV.val_v] at hdk4
  simp (maxSteps := 1000000) -dsimp -implicitDefEqProofs only [go_sem, ↓reduceIte, keep34, ib34, mk34, Tryz.f34, OV.map_val, OV.map_val_nil, OV.val_v, upd_upd, upd_ne, os_0.flat, os_0.one, os_3.flat, os_3.one, os_4.flat, os_4.one, os_5.flat, os_5.one, os_6.flat, os_6.one, os_7.flat, os_7.one, os_8.flat, os_8.one, e_n4_n6, e_n4_m4, e_n6_n4, e_n6_m4, e_m4_n4, e_m4_n6, hw4, f4, hdk4]
  refine HFnF.wn2 (cloneI ns hns) z4 ⟨d_n6_n4, z_n6⟩ ?_
  rintro r_ l_ g2 ⟨yn, oyn, rfl, rfl⟩ wp z42 z62
  replace f4 := wp.keep f4
  simp (maxSteps := 1000000) -dsimp -implicitDefEqProofs only [go_sem, ↓reduceIte, keep34, ib34, mk34, Tryz.f34, OV.map_val, OV.map_val_nil, OV.val_v, upd_upd, upd_ne, os_0.flat, os_0.one, os_3.flat, os_3.one, os_4.flat, os_4.one, os_5.flat, os_5.one, os_6.flat, os_6.one, os_7.flat, os_7.one, os_8.flat, os_8.one, e_n4_n6, e_n4_m4, e_n6_n4, e_n6_m4, e_m4_n4, e_m4_n6, hw4, f4, hdk4, oyn.flat, oyn.one]
  refine ⟨hk1, by omega, ?_⟩
  obtain ⟨g5, hle5, wn5⟩ := wn.setEl [ys_0, .v (.int .i64 s.fJob.fFunc), .v (.int .i64 s.fJob.fShared), ys_3] (k := k.toNat) (enew := [yn]) (by rw [OV.row_cons, OV.row_nil, List.append_nil]; exact wp) (by omega)
  have hcs := cells_setEl es4 k.toNat [yn] _ rfl
  simp only [cellv_cons, cellv_nil, OV.val_v] at hcs
  rw [hcs]
  have z45 : g5 n4 = none := Heap.le_none hle5 (by rw [upd_ne _ _ _ _ d_n4_m4]; exact z42)
  have z65 : g5 n6 = none := Heap.le_none hle5 (by rw [upd_ne _ _ _ _ d_n6_m4]; exact z62)
  have oe1 : (termsS s k ns).o [ys_0, .v (I s.fJob.fFunc), .v (I s.fJob.fShared), ys_3, OV.sl m4 1 (es4.set k.toNat [yn]), ys_5, ys_6, ys_7, ys_8] := ⟨ys_0, ys_3, _, ys_5, ys_6, ys_7, ys_8, rfl, os_0, os_3, OS.mk (hor4.set k.toNat ns [yn] ⟨yn, rfl, oyn⟩), os_5, os_6, os_7, os_8⟩
  have hst : ∀ x ∈ s.fStamps, 0 ≤ x ∧ x ≤ 50 := DService.ok_stamps hy'
  have l1 := hy'.2.1
  have hfg := forget (termsS s k ns) k _ _ n6 _ oe1 (by rw [upd_ne _ _ _ _ d_n6_n4]; exact z65) (wn5.over (o := .row 9 [[.v .nilsl, .v (I 0), .v (I 0), .v .nilsl, .v .nilsl, .v .nilsl, .v .nilsl, .v .nilsl, .v .nilsl]]) z45) (by simpa [termsS] using l1) (by simpa [termsS, termOK] using ht) hst
  refine HFnF.wk (g := upd (upd g5 n4 (.row 9 [[.v .nilsl, .v (I 0), .v (I 0), .v .nilsl, .v .nilsl, .v .nilsl, .v .nilsl, .v .nilsl, .v .nilsl]])) n6 (.row 9 (OV.cells [[ys_0, .v (I s.fJob.fFunc), .v (I s.fJob.fShared), ys_3, OV.sl m4 1 (es4.set k.toNat [yn]), ys_5, ys_6, ys_7, ys_8]]))) (Heap.wk_of_le ?_) (HFnF.mkH hfg ?_)
  · simp only [cells_box, cellv_cons, cellv_nil, OV.val_v, OV.val_sl, List.length_set]
    exact Heap.le_trans (Heap.le_both (Heap.le_both hle5)) (leX_nil (by repeat' (first | exact leX_refl _ _ | refine leX_put (by simp only [upd_apply, ↓reduceIte, eq_self, if_true, e_n4_n6, e_n4_m4, e_n6_n4, e_n6_m4, e_m4_n4, e_m4_n6]) ?_ | refine leX_strip (by first | exact .inr (by assumption) | exact .inl (by simp)) ?_)))
  clear wn oe os_0 os_3 os_4 os_5 os_6 os_7 os_8 oe1 hfg wn5 hle5 hfk4 hdk4 hcs f4
  rintro r h' ⟨e2, g3, ⟨q50, qno⟩, rfl, hg3, wn3⟩
  obtain ⟨g4, hle4, wn4, z44, rfl⟩ := wn3.base z4h
  have z64 : g4 n6 = none := by rwa [upd_ne _ _ _ _ d_n6_n4] at hg3
  by_cases h3 : s.fStamps[k.toNat]? = some 50
  · obtain ⟨rfl, oe2⟩ := q50 h3
    rw [turnRes_3 hy' h2 h3]
    simp (maxSteps := 1000000) -dsimp -implicitDefEqProofs only [go_sem, ↓reduceIte, keep34, ib34, mk34, Tryz.f34, OV.map_val, OV.map_val_nil, OV.val_v, upd_upd, upd_ne, e_n4_n6, e_n6_n4]
    exact own_zero zService_o (wsub_tup [] [_]) (Heap.le_trans wn4.le (by repeat' (first | exact Heap.le_refl _ | refine Heap.le_both ?_ | refine Heap.le_upd (by first | assumption | (rw [upd_ne _ _ _ _ (by assumption)]; assumption) | (rw [upd_ne _ _ _ _ (by assumption), upd_ne _ _ _ _ (by assumption)]; assumption) | (rw [upd_ne _ _ _ _ (by assumption), upd_ne _ _ _ _ (by assumption), upd_ne _ _ _ _ (by assumption)]; assumption)) ?_)))
  · obtain ⟨rfl, oe2⟩ := qno h3
    rw [turnRes_ok hy' h2 h3]
    have oe3 := oe2
    obtain ⟨yt_0, yt_3, yt_4, yt_5, yt_6, yt_7, yt_8, rfl, ot_0, ot_3, ot_4, ot_5, ot_6, ot_7, ot_8⟩ := oe3
    simp (maxSteps := 1000000) -dsimp -implicitDefEqProofs only [go_sem, ↓reduceIte, keep34, ib34, mk34, Tryz.f34, OV.map_val, OV.map_val_nil, OV.val_v, upd_upd, upd_ne, ot_0.flat, ot_0.one, ot_3.flat, ot_3.one, ot_4.flat, ot_4.one, ot_5.flat, ot_5.one, ot_6.flat, ot_6.one, ot_7.flat, ot_7.one, ot_8.flat, ot_8.one, e_n4_n6, e_n6_n4, cells_box, cellv_cons, cellv_nil]
    exact own_end (w := fun y => .tup [y, I 0]) oe2 wn4 (by repeat' (first | exact Heap.le_refl _ | refine Heap.le_both ?_ | refine Heap.le_upd (by first | assumption | (rw [upd_ne _ _ _ _ (by assumption)]; assumption) | (rw [upd_ne _ _ _ _ (by assumption), upd_ne _ _ _ _ (by assumption)]; assumption) | (rw [upd_ne _ _ _ _ (by assumption), upd_ne _ _ _ _ (by assumption), upd_ne _ _ _ _ (by assumption)]; assumption)) ?_))
theorem sum_setT (f : List Int → Nat) : ∀ (l : List (List Int)) (k : Nat) (p : List Int), ((l.set k p).map f).sum ≤ (l.map f).sum + f p
  | [], k, p => by simp
  | a :: l, 0, p => by simp; omega
  | a :: l, k + 1, p => by have := sum_setT f l k p; simp only [List.set_cons_succ, List.map_cons, List.sum_cons]; omega
theorem turnRes_s (s : DService) (k : Int) (ns : List Int) : (turnRes s k ns).1.s ≤ s.s + ns.length := by
  unfold turnRes
  have hz : zService.s = 0 := rfl
  split <;> try split
  all_goals try split
  all_goals try (show zService.s ≤ _; omega)
  have h1 := s.s_eq
  have h0 := s.fJob.s_eq
  have h2 := (turnS s k ns).s_eq
  have h5 := (turnS s k ns).fJob.s_eq
  have h3 := sum_set_le DPart.s s.fParts k.toNat ⟨0, 0, []⟩
  have h4 := sum_setT (fun x => x.length) s.fJob.fTerms k.toNat ns
  have h6 : (⟨0, 0, []⟩ : DPart).s = 0 := rfl
  simp only [turnS, termsS, forgetS, List.length_set, szs_eq] at h0 h1 h2 h5 ⊢
  omega
open Go.Proofs
set_option linter.unusedVariables false
set_option linter.unusedSimpArgs false


def keep144 : List Nat := [0, 1, 4, 5, 11, 15, 25]
def ib144 : List Nat := []
def mk144 : Marks := fun _ => ([], .nil, [])
set_option maxRecDepth 100000 in
theorem sz_ExprS (l : List DExpr) (left : Int) (h0 : 0 ≤ left) (h1 : left ≤ 1048576) (hc : ∀ x ∈ l, ∀ left : Int, 0 ≤ left → left ≤ 1048576 → Fn0 Tryz.prog 156 [(.agg (DExpr.c x)), I left] (I (lft left ((DExpr.s x))))) : Fn0 Tryz.prog 144 [sls 5 DExpr.c l, I left] (I (lft left (szs DExpr.s l))) := by
  refine fn0F 27 keep144 ib144 mk144 mix Tryz.func144 rfl (by kernel_rfl) (by simp) fun h => ?_
  simp -dsimp -implicitDefEqProofs only [go_sem, Tryz.f144, ↓reduceIte, keep144, ib144, mk144]
  intro hl
  rw [IntWalk.i64_in _ (by omega)]
  refine ⟨fun hn => ?_, fun hn => ?_⟩
  · exact (lft_neg (by rw [szs_eq]; omega)).symm
  · refine loopF (keep := keep144) (ib := ib144) (mk := mk144) mix (by kernel_rfl) (fun k : Nat => [(0, sls 5 DExpr.c l), (1, I (left - l.length - (((l.take k).map DExpr.s).sum : Int))), (5, I k)]) (fun _ => h) (fun k => k ≤ l.length ∧ 0 ≤ left - l.length - (((l.take k).map DExpr.s).sum : Int)) (fun k => l.length - k) 0 (by simp [SatL, tget, Heap.le_refl]; omega) ?_
    intro k ⟨hk, hb⟩
    rcases Nat.lt_or_ge k l.length with hlt | hge
    · have ea : l[k]? = some l[k] := List.getElem?_eq_getElem hlt
      simp -dsimp -implicitDefEqProofs only [go_sem, ↓reduceIte, keep144, ib144, mk144, Tryz.f144, ea, DExpr.c_eq]
      refine fun _ => ⟨fun _ => ⟨hlt, ?_⟩, fun hn => absurd hlt hn⟩
      have hx := hc l[k] (List.getElem_mem hlt) (left - l.length - (((l.take k).map DExpr.s).sum : Int)) (by omega) (by omega)
      simp only [DExpr.c_eq] at hx
      refine HFnF.mk hx ?_
      have hs := sum_take_succ DExpr.s l k hlt
      have hs' := sum_take_le DExpr.s l (k + 1)
      try dsimp only at hs
      rcases lft_cases (left - l.length - (((l.take k).map DExpr.s).sum : Int)) ((DExpr.s l[k])) with ⟨e, hl1⟩ | ⟨e, hl1⟩
      · simp -dsimp -implicitDefEqProofs only [go_sem, ↓reduceIte, keep144, ib144, mk144, Tryz.f144, e]
        exact (lft_neg (by rw [szs_eq]; omega)).symm
      · have hn1 : (left - l.length - (((l.take k).map DExpr.s).sum : Int) - ((DExpr.s l[k]) : Int) < 0) = False := eq_false (by omega)
        simp -dsimp -implicitDefEqProofs only [go_sem, ↓reduceIte, keep144, ib144, mk144, Tryz.f144, e, hn1]
        refine ⟨k + 1, ⟨?_, ?_⟩, ⟨by omega, by rw [hs]; omega⟩, by omega⟩
        · rw [hs]; omega
        · rw [IntWalk.i64_in _ (by omega)]; rfl
    · have hk' : k = l.length := by omega
      subst hk'
      simp -dsimp -implicitDefEqProofs only [go_sem, ↓reduceIte, keep144, ib144, mk144, Tryz.f144, Nat.lt_irrefl]
      refine fun _ => ?_
      rw [List.take_length] at hb ⊢
      rw [lft_pos (by rw [szs_eq]; omega), szs_eq]
      omega

def keep156 : List Nat := [0, 1, 2, 4, 10]
def ib156 : List Nat := [2]
def mk156 : Marks := fun _ => ([], .nil, [])
set_option maxRecDepth 100000 in
theorem sz_Expr_step (x : DExpr) (left : Int) (h0 : 0 ≤ left) (h1 : left ≤ 1048576) (hk : ∀ left : Int, 0 ≤ left → left ≤ 1048576 → Fn0 Tryz.prog 144 [(sls 5 DExpr.c x.fKids), I left] (I (lft left (szs DExpr.s x.fKids)))) : Fn0 Tryz.prog 156 [.agg x.c, I left] (I (lft left x.s)) := by
  rw [DExpr.s_eq]
  simp only [DExpr.c_eq]
  refine fn0F 12 keep156 ib156 mk156 mix Tryz.func156 rfl (by kernel_rfl) (by simp) fun h => ?_
  simp -dsimp -implicitDefEqProofs only [go_sem, Tryz.f156, ↓reduceIte, keep156, ib156, mk156]
  refine HFnF.mk (hk left (by omega) (by omega)) ?_
  rcases lft_cases left (szs DExpr.s x.fKids) with ⟨e, hl1⟩ | ⟨e, hl1⟩
  · simp -dsimp -implicitDefEqProofs only [go_sem, ↓reduceIte, keep156, ib156, mk156, Tryz.f156, e]
  · have hn1 : (left - ((szs DExpr.s x.fKids) : Int) < 0) = False := eq_false (by omega)
    simp -dsimp -implicitDefEqProofs only [go_sem, ↓reduceIte, keep156, ib156, mk156, Tryz.f156, e, hn1]
  try (rw [lft_pos (by omega)]; omega)
theorem sz_Expr (x : DExpr) (left : Int) (h0 : 0 ≤ left) (h1 : left ≤ 1048576) : Fn0 Tryz.prog 156 [.agg x.c, I left] (I (lft left x.s)) :=
  sz_Expr_step x left h0 h1 fun left h0 h1 => sz_ExprS x.fKids left h0 h1 fun y hy left h0 h1 => sz_Expr y left h0 h1
termination_by SizeOf.sizeOf x
decreasing_by exact DExpr.kid_lt hy

def keep131 : List Nat := [0, 1, 2, 4, 11, 17]
def ib131 : List Nat := [2]
def mk131 : Marks := fun _ => ([], .nil, [])
set_option maxRecDepth 100000 in
theorem sz_Func (x : DFunc) (left : Int) (h0 : 0 ≤ left) (h1 : left ≤ 1048576) : Fn0 Tryz.prog 131 [.agg x.c, I left] (I (lft left x.s)) := by
  rw [DFunc.s_eq]
  simp only [DFunc.c_eq]
  refine fn0F 19 keep131 ib131 mk131 mix Tryz.func131 rfl (by kernel_rfl) (by simp) fun h => ?_
  simp -dsimp -implicitDefEqProofs only [go_sem, Tryz.f131, ↓reduceIte, keep131, ib131, mk131]
  refine fun hl0 => ?_
  rw [IntWalk.i64_in _ (by omega)]
  generalize hL0 : left - ((x.fName.length : Nat) : Int) = L0
  refine ⟨fun hn => (lft_neg (by omega)).symm, fun hn0 => ?_⟩
  refine HFnF.mk (sz_ExprS x.fOuts (L0) (by omega) (by omega) (fun x _ left h0 h1 => sz_Expr x left h0 h1)) ?_
  generalize hL1 : lft (L0) (szs DExpr.s x.fOuts) = L1
  simp -dsimp -implicitDefEqProofs only [go_sem, ↓reduceIte, keep131, ib131, mk131, Tryz.f131]
  have hs1 := lft_step hL1
  refine ⟨fun hn => (lft_neg (by have := hs1.1 hn; omega)).symm, fun hn1 => ?_⟩
  have hp1 := hs1.2 hn1
  clear hs1 hL1
  try (rw [lft_pos (by omega)]; omega)

def keep105 : List Nat := [0, 1, 4, 5, 11, 15, 25]
def ib105 : List Nat := []
def mk105 : Marks := fun _ => ([], .nil, [])
set_option maxRecDepth 100000 in
theorem sz_FuncS (l : List DFunc) (left : Int) (h0 : 0 ≤ left) (h1 : left ≤ 1048576) (hc : ∀ x ∈ l, ∀ left : Int, 0 ≤ left → left ≤ 1048576 → Fn0 Tryz.prog 131 [(.agg (DFunc.c x)), I left] (I (lft left ((DFunc.s x))))) : Fn0 Tryz.prog 105 [sls 3 DFunc.c l, I left] (I (lft left (szs DFunc.s l))) := by
  refine fn0F 27 keep105 ib105 mk105 mix Tryz.func105 rfl (by kernel_rfl) (by simp) fun h => ?_
  simp -dsimp -implicitDefEqProofs only [go_sem, Tryz.f105, ↓reduceIte, keep105, ib105, mk105]
  intro hl
  rw [IntWalk.i64_in _ (by omega)]
  refine ⟨fun hn => ?_, fun hn => ?_⟩
  · exact (lft_neg (by rw [szs_eq]; omega)).symm
  · refine loopF (keep := keep105) (ib := ib105) (mk := mk105) mix (by kernel_rfl) (fun k : Nat => [(0, sls 3 DFunc.c l), (1, I (left - l.length - (((l.take k).map DFunc.s).sum : Int))), (5, I k)]) (fun _ => h) (fun k => k ≤ l.length ∧ 0 ≤ left - l.length - (((l.take k).map DFunc.s).sum : Int)) (fun k => l.length - k) 0 (by simp [SatL, tget, Heap.le_refl]; omega) ?_
    intro k ⟨hk, hb⟩
    rcases Nat.lt_or_ge k l.length with hlt | hge
    · have ea : l[k]? = some l[k] := List.getElem?_eq_getElem hlt
      simp -dsimp -implicitDefEqProofs only [go_sem, ↓reduceIte, keep105, ib105, mk105, Tryz.f105, ea, DFunc.c_eq]
      refine fun _ => ⟨fun _ => ⟨hlt, ?_⟩, fun hn => absurd hlt hn⟩
      have hx := hc l[k] (List.getElem_mem hlt) (left - l.length - (((l.take k).map DFunc.s).sum : Int)) (by omega) (by omega)
      simp only [DFunc.c_eq] at hx
      refine HFnF.mk hx ?_
      have hs := sum_take_succ DFunc.s l k hlt
      have hs' := sum_take_le DFunc.s l (k + 1)
      try dsimp only at hs
      rcases lft_cases (left - l.length - (((l.take k).map DFunc.s).sum : Int)) ((DFunc.s l[k])) with ⟨e, hl1⟩ | ⟨e, hl1⟩
      · simp -dsimp -implicitDefEqProofs only [go_sem, ↓reduceIte, keep105, ib105, mk105, Tryz.f105, e]
        exact (lft_neg (by rw [szs_eq]; omega)).symm
      · have hn1 : (left - l.length - (((l.take k).map DFunc.s).sum : Int) - ((DFunc.s l[k]) : Int) < 0) = False := eq_false (by omega)
        simp -dsimp -implicitDefEqProofs only [go_sem, ↓reduceIte, keep105, ib105, mk105, Tryz.f105, e, hn1]
        refine ⟨k + 1, ⟨?_, ?_⟩, ⟨by omega, by rw [hs]; omega⟩, by omega⟩
        · rw [hs]; omega
        · rw [IntWalk.i64_in _ (by omega)]; rfl
    · have hk' : k = l.length := by omega
      subst hk'
      simp -dsimp -implicitDefEqProofs only [go_sem, ↓reduceIte, keep105, ib105, mk105, Tryz.f105, Nat.lt_irrefl]
      refine fun _ => ?_
      rw [List.take_length] at hb ⊢
      rw [lft_pos (by rw [szs_eq]; omega), szs_eq]
      omega

def keep55 : List Nat := [0, 1, 2, 4, 10]
def ib55 : List Nat := [2]
def mk55 : Marks := fun _ => ([], .nil, [])
set_option maxRecDepth 100000 in
theorem sz_Program (x : DProgram) (left : Int) (h0 : 0 ≤ left) (h1 : left ≤ 1048576) : Fn0 Tryz.prog 55 [.agg x.c, I left] (I (lft left x.s)) := by
  rw [DProgram.s_eq]
  simp only [DProgram.c_eq]
  refine fn0F 12 keep55 ib55 mk55 mix Tryz.func55 rfl (by kernel_rfl) (by simp) fun h => ?_
  simp -dsimp -implicitDefEqProofs only [go_sem, Tryz.f55, ↓reduceIte, keep55, ib55, mk55]
  refine HFnF.mk (sz_FuncS x.fFuncs left (by omega) (by omega) (fun x _ left h0 h1 => sz_Func x left h0 h1)) ?_
  rcases lft_cases left (szs DFunc.s x.fFuncs) with ⟨e, hl1⟩ | ⟨e, hl1⟩
  · simp -dsimp -implicitDefEqProofs only [go_sem, ↓reduceIte, keep55, ib55, mk55, Tryz.f55, e]
  · have hn1 : (left - ((szs DFunc.s x.fFuncs) : Int) < 0) = False := eq_false (by omega)
    simp -dsimp -implicitDefEqProofs only [go_sem, ↓reduceIte, keep55, ib55, mk55, Tryz.f55, e, hn1]
  try (rw [lft_pos (by omega)]; omega)

def keep41 : List Nat := [0, 1, 4, 10]
def ib41 : List Nat := []
def mk41 : Marks := fun _ => ([], .nil, [])
set_option maxRecDepth 100000 in
theorem sz_Int64S (sz : Nat) (es : List (List HVal)) (tg : Bool) (left : Int) (h0 : 0 ≤ left) (h1 : left ≤ 1048576) : Fn0 Tryz.prog 41 [.sl sz es tg, I left] (I (lft left es.length)) := by
  refine fn0F 12 keep41 ib41 mk41 mix Tryz.func41 rfl (by kernel_rfl) (by simp) fun h => ?_
  simp -dsimp -implicitDefEqProofs only [go_sem, Tryz.f41, ↓reduceIte, keep41, ib41, mk41]
  intro hl
  rw [IntWalk.i64_in _ (by omega)]
  refine ⟨fun hn => ?_, fun hn => ?_⟩
  · exact (lft_neg hn).symm
  · exact (lft_pos (by omega)).symm

def keep56 : List Nat := [0, 1, 4, 5, 11, 15, 25]
def ib56 : List Nat := []
def mk56 : Marks := fun _ => ([], .nil, [])
set_option maxRecDepth 100000 in
theorem sz_Int64SS (l : List (List Int)) (left : Int) (h0 : 0 ≤ left) (h1 : left ≤ 1048576) (hc : ∀ x ∈ l, ∀ left : Int, 0 ≤ left → left ≤ 1048576 → Fn0 Tryz.prog 41 [(sls 1 (fun n => [I n]) x), I left] (I (lft left (x.length)))) : Fn0 Tryz.prog 56 [sls 1 (fun x => [sls 1 (fun n => [I n]) x]) l, I left] (I (lft left (szs (fun x : List Int => x.length) l))) := by
  refine fn0F 27 keep56 ib56 mk56 mix Tryz.func56 rfl (by kernel_rfl) (by simp) fun h => ?_
  simp -dsimp -implicitDefEqProofs only [go_sem, Tryz.f56, ↓reduceIte, keep56, ib56, mk56]
  intro hl
  rw [IntWalk.i64_in _ (by omega)]
  refine ⟨fun hn => ?_, fun hn => ?_⟩
  · exact (lft_neg (by rw [szs_eq]; omega)).symm
  · refine loopF (keep := keep56) (ib := ib56) (mk := mk56) mix (by kernel_rfl) (fun k : Nat => [(0, sls 1 (fun x => [sls 1 (fun n => [I n]) x]) l), (1, I (left - l.length - (((l.take k).map (fun x : List Int => x.length)).sum : Int))), (5, I k)]) (fun _ => h) (fun k => k ≤ l.length ∧ 0 ≤ left - l.length - (((l.take k).map (fun x : List Int => x.length)).sum : Int)) (fun k => l.length - k) 0 (by simp [SatL, tget, Heap.le_refl]; omega) ?_
    intro k ⟨hk, hb⟩
    rcases Nat.lt_or_ge k l.length with hlt | hge
    · have ea : l[k]? = some l[k] := List.getElem?_eq_getElem hlt
      simp -dsimp -implicitDefEqProofs only [go_sem, ↓reduceIte, keep56, ib56, mk56, Tryz.f56, ea]
      refine fun _ => ⟨fun _ => ⟨hlt, ?_⟩, fun hn => absurd hlt hn⟩
      have hx := hc l[k] (List.getElem_mem hlt) (left - l.length - (((l.take k).map (fun x : List Int => x.length)).sum : Int)) (by omega) (by omega)
      refine HFnF.mk hx ?_
      have hs := sum_take_succ (fun x : List Int => x.length) l k hlt
      have hs' := sum_take_le (fun x : List Int => x.length) l (k + 1)
      try dsimp only at hs
      rcases lft_cases (left - l.length - (((l.take k).map (fun x : List Int => x.length)).sum : Int)) (l[k].length) with ⟨e, hl1⟩ | ⟨e, hl1⟩
      · simp -dsimp -implicitDefEqProofs only [go_sem, ↓reduceIte, keep56, ib56, mk56, Tryz.f56, e]
        exact (lft_neg (by rw [szs_eq]; omega)).symm
      · have hn1 : (left - l.length - (((l.take k).map (fun x : List Int => x.length)).sum : Int) - (l[k].length : Int) < 0) = False := eq_false (by omega)
        simp -dsimp -implicitDefEqProofs only [go_sem, ↓reduceIte, keep56, ib56, mk56, Tryz.f56, e, hn1]
        refine ⟨k + 1, ⟨?_, ?_⟩, ⟨by omega, by rw [hs]; omega⟩, by omega⟩
        · rw [hs]; omega
        · rw [IntWalk.i64_in _ (by omega)]; rfl
    · have hk' : k = l.length := by omega
      subst hk'
      simp -dsimp -implicitDefEqProofs only [go_sem, ↓reduceIte, keep56, ib56, mk56, Tryz.f56, Nat.lt_irrefl]
      refine fun _ => ?_
      rw [List.take_length] at hb ⊢
      rw [lft_pos (by rw [szs_eq]; omega), szs_eq]
      omega

def keep18 : List Nat := [0, 1, 2, 4, 10, 16, 22]
def ib18 : List Nat := [2]
def mk18 : Marks := fun _ => ([], .nil, [])
set_option maxRecDepth 100000 in
theorem sz_Job (x : DJob) (left : Int) (h0 : 0 ≤ left) (h1 : left ≤ 1048576) : Fn0 Tryz.prog 18 [.agg x.c, I left] (I (lft left x.s)) := by
  rw [DJob.s_eq]
  simp only [DJob.c_eq]
  refine fn0F 24 keep18 ib18 mk18 mix Tryz.func18 rfl (by kernel_rfl) (by simp) fun h => ?_
  simp -dsimp -implicitDefEqProofs only [go_sem, Tryz.f18, ↓reduceIte, keep18, ib18, mk18]
  refine HFnF.mk (sz_Program x.fProgram (left) (by omega) (by omega)) ?_
  generalize hL0 : lft left (DProgram.s x.fProgram) = L0
  simp -dsimp -implicitDefEqProofs only [go_sem, ↓reduceIte, keep18, ib18, mk18, Tryz.f18]
  have hs0 := lft_step hL0
  refine ⟨fun hn => (lft_neg (by have := hs0.1 hn; omega)).symm, fun hn0 => ?_⟩
  have hp0 := hs0.2 hn0
  clear hs0 hL0
  refine HFnF.mk (sz_Int64S _ _ _ (L0) (by omega) (by omega)) ?_
  rw [List.length_map]
  generalize hL1 : lft (L0) x.fPoint.length = L1
  simp -dsimp -implicitDefEqProofs only [go_sem, ↓reduceIte, keep18, ib18, mk18, Tryz.f18]
  have hs1 := lft_step hL1
  refine ⟨fun hn => (lft_neg (by have := hs1.1 hn; omega)).symm, fun hn1 => ?_⟩
  have hp1 := hs1.2 hn1
  clear hs1 hL1
  refine HFnF.mk (sz_Int64SS x.fTerms (L1) (by omega) (by omega) (fun x _ left h0 h1 => (by have hq := sz_Int64S 1 (x.map (fun n => [I n])) false left h0 h1; rw [List.length_map] at hq; exact hq))) ?_
  generalize hL2 : lft (L1) (szs (fun x : List Int => x.length) x.fTerms) = L2
  simp -dsimp -implicitDefEqProofs only [go_sem, ↓reduceIte, keep18, ib18, mk18, Tryz.f18]
  have hs2 := lft_step hL2
  refine ⟨fun hn => (lft_neg (by have := hs2.1 hn; omega)).symm, fun hn2 => ?_⟩
  have hp2 := hs2.2 hn2
  clear hs2 hL2
  try (rw [lft_pos (by omega)]; omega)


def keep42 : List Nat := [0, 1, 4, 10]
def ib42 : List Nat := []
def mk42 : Marks := fun _ => ([], .nil, [])
set_option maxRecDepth 100000 in
theorem sz_BoolS (sz : Nat) (es : List (List HVal)) (tg : Bool) (left : Int) (h0 : 0 ≤ left) (h1 : left ≤ 1048576) : Fn0 Tryz.prog 42 [.sl sz es tg, I left] (I (lft left es.length)) := by
  refine fn0F 12 keep42 ib42 mk42 mix Tryz.func42 rfl (by kernel_rfl) (by simp) fun h => ?_
  simp -dsimp -implicitDefEqProofs only [go_sem, Tryz.f42, ↓reduceIte, keep42, ib42, mk42]
  intro hl
  rw [IntWalk.i64_in _ (by omega)]
  refine ⟨fun hn => ?_, fun hn => ?_⟩
  · exact (lft_neg hn).symm
  · exact (lft_pos (by omega)).symm

def keep90 : List Nat := [0, 1, 2, 4, 10]
def ib90 : List Nat := [2]
def mk90 : Marks := fun _ => ([], .nil, [])
set_option maxRecDepth 100000 in
theorem sz_Part (x : DPart) (left : Int) (h0 : 0 ≤ left) (h1 : left ≤ 1048576) : Fn0 Tryz.prog 90 [.agg x.c, I left] (I (lft left x.s)) := by
  rw [DPart.s_eq]
  simp only [DPart.c_eq]
  refine fn0F 12 keep90 ib90 mk90 mix Tryz.func90 rfl (by kernel_rfl) (by simp) fun h => ?_
  simp -dsimp -implicitDefEqProofs only [go_sem, Tryz.f90, ↓reduceIte, keep90, ib90, mk90]
  refine HFnF.mk (sz_Int64S _ _ _ left (by omega) (by omega)) ?_
  rw [List.length_map]
  rcases lft_cases left x.fGrad.length with ⟨e, hl1⟩ | ⟨e, hl1⟩
  · simp -dsimp -implicitDefEqProofs only [go_sem, ↓reduceIte, keep90, ib90, mk90, Tryz.f90, e]
  · have hn1 : (left - (x.fGrad.length : Int) < 0) = False := eq_false (by omega)
    simp -dsimp -implicitDefEqProofs only [go_sem, ↓reduceIte, keep90, ib90, mk90, Tryz.f90, e, hn1]
  try (rw [lft_pos (by omega)]; omega)

def keep43 : List Nat := [0, 1, 4, 5, 11, 15, 25]
def ib43 : List Nat := []
def mk43 : Marks := fun _ => ([], .nil, [])
set_option maxRecDepth 100000 in
theorem sz_PartS (l : List DPart) (left : Int) (h0 : 0 ≤ left) (h1 : left ≤ 1048576) (hc : ∀ x ∈ l, ∀ left : Int, 0 ≤ left → left ≤ 1048576 → Fn0 Tryz.prog 90 [(.agg (DPart.c x)), I left] (I (lft left ((DPart.s x))))) : Fn0 Tryz.prog 43 [sls 3 DPart.c l, I left] (I (lft left (szs DPart.s l))) := by
  refine fn0F 27 keep43 ib43 mk43 mix Tryz.func43 rfl (by kernel_rfl) (by simp) fun h => ?_
  simp -dsimp -implicitDefEqProofs only [go_sem, Tryz.f43, ↓reduceIte, keep43, ib43, mk43]
  intro hl
  rw [IntWalk.i64_in _ (by omega)]
  refine ⟨fun hn => ?_, fun hn => ?_⟩
  · exact (lft_neg (by rw [szs_eq]; omega)).symm
  · refine loopF (keep := keep43) (ib := ib43) (mk := mk43) mix (by kernel_rfl) (fun k : Nat => [(0, sls 3 DPart.c l), (1, I (left - l.length - (((l.take k).map DPart.s).sum : Int))), (5, I k)]) (fun _ => h) (fun k => k ≤ l.length ∧ 0 ≤ left - l.length - (((l.take k).map DPart.s).sum : Int)) (fun k => l.length - k) 0 (by simp [SatL, tget, Heap.le_refl]; omega) ?_
    intro k ⟨hk, hb⟩
    rcases Nat.lt_or_ge k l.length with hlt | hge
    · have ea : l[k]? = some l[k] := List.getElem?_eq_getElem hlt
      simp -dsimp -implicitDefEqProofs only [go_sem, ↓reduceIte, keep43, ib43, mk43, Tryz.f43, ea, DPart.c_eq]
      refine fun _ => ⟨fun _ => ⟨hlt, ?_⟩, fun hn => absurd hlt hn⟩
      have hx := hc l[k] (List.getElem_mem hlt) (left - l.length - (((l.take k).map DPart.s).sum : Int)) (by omega) (by omega)
      simp only [DPart.c_eq] at hx
      refine HFnF.mk hx ?_
      have hs := sum_take_succ DPart.s l k hlt
      have hs' := sum_take_le DPart.s l (k + 1)
      try dsimp only at hs
      rcases lft_cases (left - l.length - (((l.take k).map DPart.s).sum : Int)) ((DPart.s l[k])) with ⟨e, hl1⟩ | ⟨e, hl1⟩
      · simp -dsimp -implicitDefEqProofs only [go_sem, ↓reduceIte, keep43, ib43, mk43, Tryz.f43, e]
        exact (lft_neg (by rw [szs_eq]; omega)).symm
      · have hn1 : (left - l.length - (((l.take k).map DPart.s).sum : Int) - ((DPart.s l[k]) : Int) < 0) = False := eq_false (by omega)
        simp -dsimp -implicitDefEqProofs only [go_sem, ↓reduceIte, keep43, ib43, mk43, Tryz.f43, e, hn1]
        refine ⟨k + 1, ⟨?_, ?_⟩, ⟨by omega, by rw [hs]; omega⟩, by omega⟩
        · rw [hs]; omega
        · rw [IntWalk.i64_in _ (by omega)]; rfl
    · have hk' : k = l.length := by omega
      subst hk'
      simp -dsimp -implicitDefEqProofs only [go_sem, ↓reduceIte, keep43, ib43, mk43, Tryz.f43, Nat.lt_irrefl]
      refine fun _ => ?_
      rw [List.take_length] at hb ⊢
      rw [lft_pos (by rw [szs_eq]; omega), szs_eq]
      omega

def keep9 : List Nat := [0, 1, 2, 4, 10, 16, 22, 28, 34]
def ib9 : List Nat := [2]
def mk9 : Marks := fun _ => ([], .nil, [])
set_option maxRecDepth 100000 in
theorem sz_Service (x : DService) (left : Int) (h0 : 0 ≤ left) (h1 : left ≤ 1048576) : Fn0 Tryz.prog 9 [.agg x.c, I left] (I (lft left x.s)) := by
  rw [DService.s_eq]
  simp only [DService.c_eq]
  refine fn0F 36 keep9 ib9 mk9 mix Tryz.func9 rfl (by kernel_rfl) (by simp) fun h => ?_
  simp -dsimp -implicitDefEqProofs only [go_sem, Tryz.f9, ↓reduceIte, keep9, ib9, mk9]
  refine HFnF.mk (sz_Job x.fJob (left) (by omega) (by omega)) ?_
  generalize hL0 : lft left (DJob.s x.fJob) = L0
  simp -dsimp -implicitDefEqProofs only [go_sem, ↓reduceIte, keep9, ib9, mk9, Tryz.f9]
  have hs0 := lft_step hL0
  refine ⟨fun hn => (lft_neg (by have := hs0.1 hn; omega)).symm, fun hn0 => ?_⟩
  have hp0 := hs0.2 hn0
  clear hs0 hL0
  refine HFnF.mk (sz_Int64S _ _ _ (L0) (by omega) (by omega)) ?_
  rw [List.length_map]
  generalize hL1 : lft (L0) x.fStamps.length = L1
  simp -dsimp -implicitDefEqProofs only [go_sem, ↓reduceIte, keep9, ib9, mk9, Tryz.f9]
  have hs1 := lft_step hL1
  refine ⟨fun hn => (lft_neg (by have := hs1.1 hn; omega)).symm, fun hn1 => ?_⟩
  have hp1 := hs1.2 hn1
  clear hs1 hL1
  refine HFnF.mk (sz_BoolS _ _ _ (L1) (by omega) (by omega)) ?_
  rw [List.length_map]
  generalize hL2 : lft (L1) x.fKnown.length = L2
  simp -dsimp -implicitDefEqProofs only [go_sem, ↓reduceIte, keep9, ib9, mk9, Tryz.f9]
  have hs2 := lft_step hL2
  refine ⟨fun hn => (lft_neg (by have := hs2.1 hn; omega)).symm, fun hn2 => ?_⟩
  have hp2 := hs2.2 hn2
  clear hs2 hL2
  refine HFnF.mk (sz_PartS x.fParts (L2) (by omega) (by omega) (fun x _ left h0 h1 => sz_Part x left h0 h1)) ?_
  generalize hL3 : lft (L2) (szs DPart.s x.fParts) = L3
  simp -dsimp -implicitDefEqProofs only [go_sem, ↓reduceIte, keep9, ib9, mk9, Tryz.f9]
  have hs3 := lft_step hL3
  refine ⟨fun hn => (lft_neg (by have := hs3.1 hn; omega)).symm, fun hn3 => ?_⟩
  have hp3 := hs3.2 hn3
  clear hs3 hL3
  refine HFnF.mk (sz_Int64S _ _ _ (L3) (by omega) (by omega)) ?_
  rw [List.length_map]
  generalize hL4 : lft (L3) x.fOwners.length = L4
  simp -dsimp -implicitDefEqProofs only [go_sem, ↓reduceIte, keep9, ib9, mk9, Tryz.f9]
  have hs4 := lft_step hL4
  refine ⟨fun hn => (lft_neg (by have := hs4.1 hn; omega)).symm, fun hn4 => ?_⟩
  have hp4 := hs4.2 hn4
  clear hs4 hL4
  try (rw [lft_pos (by omega)]; omega)

open Go.Proofs
set_option linter.unusedVariables false
set_option linter.unusedSimpArgs false


def keep154 : List Nat := [0, 1, 4, 5, 10, 14, 26]
def ib154 : List Nat := []
def mk154 : Marks := fun id => match id with | 6 => ([], (.op 0 (.op 1 (.op 2 (.op 3 (.op 4 (.op 5 (.op 6 (.op 7 (.op 8 (.op 9 .nil)))))))))), []) | _ => ([], .nil, [])
set_option maxRecDepth 100000 in
theorem eq_ExprS (a b : List DExpr) (hc : ∀ x ∈ a, ∀ y, Fn0 Tryz.prog 165 [(.agg (DExpr.c x)), (.agg (DExpr.c y))] (.bool (decide (x = y)))) : Fn0 Tryz.prog 154 [(sls 5 DExpr.c a), (sls 5 DExpr.c b)] (.bool (decide (a = b))) := by
  refine fn0F 27 keep154 ib154 mk154 mix Tryz.func154 rfl (by kernel_rfl) (by simp) fun h => ?_
  simp -dsimp -implicitDefEqProofs only [go_sem, Tryz.f154, ↓reduceIte, keep154, ib154, mk154]
  refine fun _ _ => ⟨fun hne => ?_, fun heq => ?_⟩
  · exact (decide_eq_false fun e => hne (by rw [e])).symm
  · refine loopF (keep := keep154) (ib := ib154) (mk := mk154) mix (by kernel_rfl) (fun k : Nat => [(0, (sls 5 DExpr.c a)), (1, (sls 5 DExpr.c b)), (5, I k)]) (fun _ => h) (fun k => k ≤ a.length ∧ a.take k = b.take k) (fun k => a.length - k) 0 (by simp [SatL, tget, Heap.le_refl]) ?_
    intro k ⟨hk, hp⟩
    rcases Nat.lt_or_ge k a.length with hlt | hge
    · have hlb : k < b.length := by omega
      have ea : a[k]? = some a[k] := List.getElem?_eq_getElem hlt
      have eb : b[k]? = some b[k] := List.getElem?_eq_getElem hlb
      simp -dsimp -implicitDefEqProofs only [go_sem, ↓reduceIte, keep154, ib154, mk154, Tryz.f154, ea, eb, DExpr.c_eq]
      refine fun _ => ⟨fun _ => ⟨hlt, hlb, ?_⟩, fun hn => absurd hlt hn⟩
      have hx := hc a[k] (List.getElem_mem hlt) b[k]
      simp only [DExpr.c_eq] at hx
      refine CallSF.mk hx ?_
      by_cases he : a[k] = b[k]
      · have d := decide_eq_true he
        simp -dsimp -implicitDefEqProofs only [go_sem, ↓reduceIte, keep154, ib154, mk154, Tryz.f154, d]
        exact ⟨k + 1, by rw [IntWalk.i64_in _ (by omega)]; rfl, ⟨by omega, take_step hlt hlb hp he⟩, by omega⟩
      · have d := decide_eq_false he
        simp -dsimp -implicitDefEqProofs only [go_sem, ↓reduceIte, keep154, ib154, mk154, Tryz.f154, d]
        exact (decide_eq_false fun e => he (getElem_of_eq e hlt)).symm
    · have hk' : k = a.length := by omega
      subst hk'
      simp -dsimp -implicitDefEqProofs only [go_sem, ↓reduceIte, keep154, ib154, mk154, Tryz.f154, Nat.lt_irrefl]
      exact fun _ => (decide_eq_true (eq_of_take heq hp)).symm

def keep165 : List Nat := [0, 1, 2, 3, 4, 9, 14, 19, 24, 30]
def ib165 : List Nat := [2, 3]
def mk165 : Marks := fun _ => ([], .nil, [])
set_option maxRecDepth 100000 in
theorem eq_Expr_step (a b : DExpr) (hk : Fn0 Tryz.prog 154 [(sls 5 DExpr.c a.fKids), (sls 5 DExpr.c b.fKids)] (.bool (decide (a.fKids = b.fKids)))) : Fn0 Tryz.prog 165 [.agg a.c, .agg b.c] (.bool (decide (a = b))) := by
  simp only [DExpr.c_eq]
  refine fn0F 31 keep165 ib165 mk165 mix Tryz.func165 rfl (by kernel_rfl) (by simp) fun h => ?_
  simp -dsimp -implicitDefEqProofs only [go_sem, Tryz.f165, ↓reduceIte, keep165, ib165, mk165]
  refine ⟨fun hn => (decide_eq_false fun e => hn (by rw [e])).symm, fun efKind => ?_⟩
  refine ⟨fun hn => (decide_eq_false fun e => hn (by rw [e])).symm, fun efNum => ?_⟩
  refine ⟨fun hn => (decide_eq_false fun e => hn (by rw [e])).symm, fun efPick => ?_⟩
  refine ⟨fun hn => (decide_eq_false fun e => hn (by rw [e])).symm, fun efCount => ?_⟩
  refine HFnF.mk hk ?_
  by_cases efKids : a.fKids = b.fKids
  case neg =>
    have d := decide_eq_false efKids
    simp -dsimp -implicitDefEqProofs only [go_sem, ↓reduceIte, keep165, ib165, mk165, Tryz.f165, d]
    exact (decide_eq_false fun e => efKids (by rw [e])).symm
  have dfKids := decide_eq_true efKids
  simp -dsimp -implicitDefEqProofs only [go_sem, ↓reduceIte, keep165, ib165, mk165, Tryz.f165, dfKids]
  exact (decide_eq_true (DExpr.eq_iff.2 ⟨efKind, efNum, efPick, efCount, efKids⟩)).symm
theorem eq_Expr (a b : DExpr) : Fn0 Tryz.prog 165 [.agg a.c, .agg b.c] (.bool (decide (a = b))) :=
  eq_Expr_step a b (eq_ExprS a.fKids b.fKids fun x hx y => eq_Expr x y)
termination_by SizeOf.sizeOf a
decreasing_by exact DExpr.kid_lt hx

def keep138 : List Nat := [0, 1, 2, 3, 4, 9, 14, 20]
def ib138 : List Nat := [2, 3]
def mk138 : Marks := fun _ => ([], .nil, [])
set_option maxRecDepth 100000 in
theorem eq_Func (a b : DFunc) : Fn0 Tryz.prog 138 [.agg a.c, .agg b.c] (.bool (decide (a = b))) := by
  simp only [DFunc.c_eq]
  refine fn0F 21 keep138 ib138 mk138 mix Tryz.func138 rfl (by kernel_rfl) (by simp) fun h => ?_
  simp -dsimp -implicitDefEqProofs only [go_sem, Tryz.f138, ↓reduceIte, keep138, ib138, mk138]
  refine ⟨fun hn => (decide_eq_false fun e => hn (by rw [e])).symm, fun efName => ?_⟩
  refine ⟨fun hn => (decide_eq_false fun e => hn (by rw [e])).symm, fun efParams => ?_⟩
  refine HFnF.mk (eq_ExprS a.fOuts b.fOuts (fun x _ y => (eq_Expr x y))) ?_
  by_cases efOuts : a.fOuts = b.fOuts
  case neg =>
    have d := decide_eq_false efOuts
    simp -dsimp -implicitDefEqProofs only [go_sem, ↓reduceIte, keep138, ib138, mk138, Tryz.f138, d]
    exact (decide_eq_false fun e => efOuts (by rw [e])).symm
  have dfOuts := decide_eq_true efOuts
  simp -dsimp -implicitDefEqProofs only [go_sem, ↓reduceIte, keep138, ib138, mk138, Tryz.f138, dfOuts]
  exact (decide_eq_true (DFunc.eq_iff.2 ⟨efName, efParams, efOuts⟩)).symm

def keep115 : List Nat := [0, 1, 4, 5, 10, 14, 26]
def ib115 : List Nat := []
def mk115 : Marks := fun id => match id with | 6 => ([], (.op 0 (.op 1 (.op 2 (.op 3 (.op 4 (.op 5 (.op 6 (.op 7 (.op 8 (.op 9 .nil)))))))))), []) | _ => ([], .nil, [])
set_option maxRecDepth 100000 in
theorem eq_FuncS (a b : List DFunc) (hc : ∀ x ∈ a, ∀ y, Fn0 Tryz.prog 138 [(.agg (DFunc.c x)), (.agg (DFunc.c y))] (.bool (decide (x = y)))) : Fn0 Tryz.prog 115 [(sls 3 DFunc.c a), (sls 3 DFunc.c b)] (.bool (decide (a = b))) := by
  refine fn0F 27 keep115 ib115 mk115 mix Tryz.func115 rfl (by kernel_rfl) (by simp) fun h => ?_
  simp -dsimp -implicitDefEqProofs only [go_sem, Tryz.f115, ↓reduceIte, keep115, ib115, mk115]
  refine fun _ _ => ⟨fun hne => ?_, fun heq => ?_⟩
  · exact (decide_eq_false fun e => hne (by rw [e])).symm
  · refine loopF (keep := keep115) (ib := ib115) (mk := mk115) mix (by kernel_rfl) (fun k : Nat => [(0, (sls 3 DFunc.c a)), (1, (sls 3 DFunc.c b)), (5, I k)]) (fun _ => h) (fun k => k ≤ a.length ∧ a.take k = b.take k) (fun k => a.length - k) 0 (by simp [SatL, tget, Heap.le_refl]) ?_
    intro k ⟨hk, hp⟩
    rcases Nat.lt_or_ge k a.length with hlt | hge
    · have hlb : k < b.length := by omega
      have ea : a[k]? = some a[k] := List.getElem?_eq_getElem hlt
      have eb : b[k]? = some b[k] := List.getElem?_eq_getElem hlb
      simp -dsimp -implicitDefEqProofs only [go_sem, ↓reduceIte, keep115, ib115, mk115, Tryz.f115, ea, eb, DFunc.c_eq]
      refine fun _ => ⟨fun _ => ⟨hlt, hlb, ?_⟩, fun hn => absurd hlt hn⟩
      have hx := hc a[k] (List.getElem_mem hlt) b[k]
      simp only [DFunc.c_eq] at hx
      refine CallSF.mk hx ?_
      by_cases he : a[k] = b[k]
      · have d := decide_eq_true he
        simp -dsimp -implicitDefEqProofs only [go_sem, ↓reduceIte, keep115, ib115, mk115, Tryz.f115, d]
        exact ⟨k + 1, by rw [IntWalk.i64_in _ (by omega)]; rfl, ⟨by omega, take_step hlt hlb hp he⟩, by omega⟩
      · have d := decide_eq_false he
        simp -dsimp -implicitDefEqProofs only [go_sem, ↓reduceIte, keep115, ib115, mk115, Tryz.f115, d]
        exact (decide_eq_false fun e => he (getElem_of_eq e hlt)).symm
    · have hk' : k = a.length := by omega
      subst hk'
      simp -dsimp -implicitDefEqProofs only [go_sem, ↓reduceIte, keep115, ib115, mk115, Tryz.f115, Nat.lt_irrefl]
      exact fun _ => (decide_eq_true (eq_of_take heq hp)).symm

def keep69 : List Nat := [0, 1, 2, 3, 4, 10]
def ib69 : List Nat := [2, 3]
def mk69 : Marks := fun _ => ([], .nil, [])
set_option maxRecDepth 100000 in
theorem eq_Program (a b : DProgram) : Fn0 Tryz.prog 69 [.agg a.c, .agg b.c] (.bool (decide (a = b))) := by
  simp only [DProgram.c_eq]
  refine fn0F 11 keep69 ib69 mk69 mix Tryz.func69 rfl (by kernel_rfl) (by simp) fun h => ?_
  simp -dsimp -implicitDefEqProofs only [go_sem, Tryz.f69, ↓reduceIte, keep69, ib69, mk69]
  refine HFnF.mk (eq_FuncS a.fFuncs b.fFuncs (fun x _ y => (eq_Func x y))) ?_
  by_cases efFuncs : a.fFuncs = b.fFuncs
  case neg =>
    have d := decide_eq_false efFuncs
    simp -dsimp -implicitDefEqProofs only [go_sem, ↓reduceIte, keep69, ib69, mk69, Tryz.f69, d]
    exact (decide_eq_false fun e => efFuncs (by rw [e])).symm
  have dfFuncs := decide_eq_true efFuncs
  simp -dsimp -implicitDefEqProofs only [go_sem, ↓reduceIte, keep69, ib69, mk69, Tryz.f69, dfFuncs]
  exact (decide_eq_true (DProgram.eq_iff.2 efFuncs)).symm

def keep13 : List Nat := [0, 1, 4, 5, 10, 14, 25]
def ib13 : List Nat := []
def mk13 : Marks := fun id => match id with | 6 => ([], (.op 0 (.op 1 (.op 2 (.op 3 (.op 4 (.op 5 (.op 6 (.op 7 (.op 8 .nil))))))))), []) | _ => ([], .nil, [])
set_option maxRecDepth 100000 in
theorem eq_Int64S (a b : List Int) : Fn0 Tryz.prog 13 [(sls 1 (fun n => [I n]) a), (sls 1 (fun n => [I n]) b)] (.bool (decide (a = b))) := by
  refine fn0F 26 keep13 ib13 mk13 mix Tryz.func13 rfl (by kernel_rfl) (by simp) fun h => ?_
  simp -dsimp -implicitDefEqProofs only [go_sem, Tryz.f13, ↓reduceIte, keep13, ib13, mk13]
  refine fun _ _ => ⟨fun hne => ?_, fun heq => ?_⟩
  · exact (decide_eq_false fun e => hne (by rw [e])).symm
  · refine loopF (keep := keep13) (ib := ib13) (mk := mk13) mix (by kernel_rfl) (fun k : Nat => [(0, (sls 1 (fun n => [I n]) a)), (1, (sls 1 (fun n => [I n]) b)), (5, I k)]) (fun _ => h) (fun k => k ≤ a.length ∧ a.take k = b.take k) (fun k => a.length - k) 0 (by simp [SatL, tget, Heap.le_refl]) ?_
    intro k ⟨hk, hp⟩
    rcases Nat.lt_or_ge k a.length with hlt | hge
    · have hlb : k < b.length := by omega
      have ea : a[k]? = some a[k] := List.getElem?_eq_getElem hlt
      have eb : b[k]? = some b[k] := List.getElem?_eq_getElem hlb
      simp -dsimp -implicitDefEqProofs only [go_sem, ↓reduceIte, keep13, ib13, mk13, Tryz.f13, ea, eb]
      refine fun _ => ⟨fun _ => ⟨hlt, hlb, fun hne => ?_, fun he => ?_⟩, fun hn => absurd hlt hn⟩
      · first
          | exact (decide_eq_false fun e => hne (getElem_of_eq e hlt)).symm
          | exact (decide_eq_false fun e => by have := getElem_of_eq e hlt (hb := hlb); rw [this] at hne; simp at hne).symm
      · exact ⟨k + 1, by rw [IntWalk.i64_in _ (by omega)]; rfl, ⟨by omega, take_step hlt hlb hp (by first | exact he | simpa using he)⟩, by omega⟩
    · have hk' : k = a.length := by omega
      subst hk'
      simp -dsimp -implicitDefEqProofs only [go_sem, ↓reduceIte, keep13, ib13, mk13, Tryz.f13, Nat.lt_irrefl]
      exact fun _ => (decide_eq_true (eq_of_take heq hp)).symm

def keep70 : List Nat := [0, 1, 4, 5, 10, 14, 26]
def ib70 : List Nat := []
def mk70 : Marks := fun id => match id with | 6 => ([], (.op 0 (.op 1 (.op 2 (.op 3 (.op 4 (.op 5 (.op 6 (.op 7 (.op 8 (.op 9 .nil)))))))))), []) | _ => ([], .nil, [])
set_option maxRecDepth 100000 in
theorem eq_Int64SS (a b : List (List Int)) (hc : ∀ x ∈ a, ∀ y, Fn0 Tryz.prog 13 [(sls 1 (fun n => [I n]) x), (sls 1 (fun n => [I n]) y)] (.bool (decide (x = y)))) : Fn0 Tryz.prog 70 [(sls 1 (fun x => [sls 1 (fun n => [I n]) x]) a), (sls 1 (fun x => [sls 1 (fun n => [I n]) x]) b)] (.bool (decide (a = b))) := by
  refine fn0F 27 keep70 ib70 mk70 mix Tryz.func70 rfl (by kernel_rfl) (by simp) fun h => ?_
  simp -dsimp -implicitDefEqProofs only [go_sem, Tryz.f70, ↓reduceIte, keep70, ib70, mk70]
  refine fun _ _ => ⟨fun hne => ?_, fun heq => ?_⟩
  · exact (decide_eq_false fun e => hne (by rw [e])).symm
  · refine loopF (keep := keep70) (ib := ib70) (mk := mk70) mix (by kernel_rfl) (fun k : Nat => [(0, (sls 1 (fun x => [sls 1 (fun n => [I n]) x]) a)), (1, (sls 1 (fun x => [sls 1 (fun n => [I n]) x]) b)), (5, I k)]) (fun _ => h) (fun k => k ≤ a.length ∧ a.take k = b.take k) (fun k => a.length - k) 0 (by simp [SatL, tget, Heap.le_refl]) ?_
    intro k ⟨hk, hp⟩
    rcases Nat.lt_or_ge k a.length with hlt | hge
    · have hlb : k < b.length := by omega
      have ea : a[k]? = some a[k] := List.getElem?_eq_getElem hlt
      have eb : b[k]? = some b[k] := List.getElem?_eq_getElem hlb
      simp -dsimp -implicitDefEqProofs only [go_sem, ↓reduceIte, keep70, ib70, mk70, Tryz.f70, ea, eb]
      refine fun _ => ⟨fun _ => ⟨hlt, hlb, ?_⟩, fun hn => absurd hlt hn⟩
      have hx := hc a[k] (List.getElem_mem hlt) b[k]
      refine CallSF.mk hx ?_
      by_cases he : a[k] = b[k]
      · have d := decide_eq_true he
        simp -dsimp -implicitDefEqProofs only [go_sem, ↓reduceIte, keep70, ib70, mk70, Tryz.f70, d]
        exact ⟨k + 1, by rw [IntWalk.i64_in _ (by omega)]; rfl, ⟨by omega, take_step hlt hlb hp he⟩, by omega⟩
      · have d := decide_eq_false he
        simp -dsimp -implicitDefEqProofs only [go_sem, ↓reduceIte, keep70, ib70, mk70, Tryz.f70, d]
        exact (decide_eq_false fun e => he (getElem_of_eq e hlt)).symm
    · have hk' : k = a.length := by omega
      subst hk'
      simp -dsimp -implicitDefEqProofs only [go_sem, ↓reduceIte, keep70, ib70, mk70, Tryz.f70, Nat.lt_irrefl]
      exact fun _ => (decide_eq_true (eq_of_take heq hp)).symm

def keep23 : List Nat := [0, 1, 2, 3, 4, 10, 15, 20, 26, 32]
def ib23 : List Nat := [2, 3]
def mk23 : Marks := fun _ => ([], .nil, [])
set_option maxRecDepth 100000 in
theorem eq_Job (a b : DJob) : Fn0 Tryz.prog 23 [.agg a.c, .agg b.c] (.bool (decide (a = b))) := by
  simp only [DJob.c_eq]
  refine fn0F 33 keep23 ib23 mk23 mix Tryz.func23 rfl (by kernel_rfl) (by simp) fun h => ?_
  simp -dsimp -implicitDefEqProofs only [go_sem, Tryz.f23, ↓reduceIte, keep23, ib23, mk23]
  refine HFnF.mk (eq_Program a.fProgram b.fProgram) ?_
  by_cases efProgram : a.fProgram = b.fProgram
  case neg =>
    have d := decide_eq_false efProgram
    simp -dsimp -implicitDefEqProofs only [go_sem, ↓reduceIte, keep23, ib23, mk23, Tryz.f23, d]
    exact (decide_eq_false fun e => efProgram (by rw [e])).symm
  have dfProgram := decide_eq_true efProgram
  simp -dsimp -implicitDefEqProofs only [go_sem, ↓reduceIte, keep23, ib23, mk23, Tryz.f23, dfProgram]
  refine ⟨fun hn => (decide_eq_false fun e => hn (by rw [e])).symm, fun efFunc => ?_⟩
  refine ⟨fun hn => (decide_eq_false fun e => hn (by rw [e])).symm, fun efShared => ?_⟩
  refine HFnF.mk (eq_Int64S a.fPoint b.fPoint) ?_
  by_cases efPoint : a.fPoint = b.fPoint
  case neg =>
    have d := decide_eq_false efPoint
    simp -dsimp -implicitDefEqProofs only [go_sem, ↓reduceIte, keep23, ib23, mk23, Tryz.f23, d]
    exact (decide_eq_false fun e => efPoint (by rw [e])).symm
  have dfPoint := decide_eq_true efPoint
  simp -dsimp -implicitDefEqProofs only [go_sem, ↓reduceIte, keep23, ib23, mk23, Tryz.f23, dfPoint]
  refine HFnF.mk (eq_Int64SS a.fTerms b.fTerms (fun x _ y => (eq_Int64S x y))) ?_
  by_cases efTerms : a.fTerms = b.fTerms
  case neg =>
    have d := decide_eq_false efTerms
    simp -dsimp -implicitDefEqProofs only [go_sem, ↓reduceIte, keep23, ib23, mk23, Tryz.f23, d]
    exact (decide_eq_false fun e => efTerms (by rw [e])).symm
  have dfTerms := decide_eq_true efTerms
  simp -dsimp -implicitDefEqProofs only [go_sem, ↓reduceIte, keep23, ib23, mk23, Tryz.f23, dfTerms]
  exact (decide_eq_true (DJob.eq_iff.2 ⟨efProgram, efFunc, efShared, efPoint, efTerms⟩)).symm


def keep51 : List Nat := [0, 1, 4, 5, 10, 14, 25]
def ib51 : List Nat := []
def mk51 : Marks := fun id => match id with | 6 => ([], (.op 0 (.op 1 (.op 2 (.op 3 (.op 4 (.op 5 (.op 6 (.op 7 (.op 8 .nil))))))))), []) | _ => ([], .nil, [])
set_option maxRecDepth 100000 in
theorem eq_BoolS (a b : List Bool) : Fn0 Tryz.prog 51 [(sls 1 (fun b => [.bool b]) a), (sls 1 (fun b => [.bool b]) b)] (.bool (decide (a = b))) := by
  refine fn0F 26 keep51 ib51 mk51 mix Tryz.func51 rfl (by kernel_rfl) (by simp) fun h => ?_
  simp -dsimp -implicitDefEqProofs only [go_sem, Tryz.f51, ↓reduceIte, keep51, ib51, mk51]
  refine fun _ _ => ⟨fun hne => ?_, fun heq => ?_⟩
  · exact (decide_eq_false fun e => hne (by rw [e])).symm
  · refine loopF (keep := keep51) (ib := ib51) (mk := mk51) mix (by kernel_rfl) (fun k : Nat => [(0, (sls 1 (fun b => [.bool b]) a)), (1, (sls 1 (fun b => [.bool b]) b)), (5, I k)]) (fun _ => h) (fun k => k ≤ a.length ∧ a.take k = b.take k) (fun k => a.length - k) 0 (by simp [SatL, tget, Heap.le_refl]) ?_
    intro k ⟨hk, hp⟩
    rcases Nat.lt_or_ge k a.length with hlt | hge
    · have hlb : k < b.length := by omega
      have ea : a[k]? = some a[k] := List.getElem?_eq_getElem hlt
      have eb : b[k]? = some b[k] := List.getElem?_eq_getElem hlb
      simp -dsimp -implicitDefEqProofs only [go_sem, ↓reduceIte, keep51, ib51, mk51, Tryz.f51, ea, eb]
      refine fun _ => ⟨fun _ => ⟨hlt, hlb, fun hne => ?_, fun he => ?_⟩, fun hn => absurd hlt hn⟩
      · first
          | exact (decide_eq_false fun e => hne (getElem_of_eq e hlt)).symm
          | exact (decide_eq_false fun e => by have := getElem_of_eq e hlt (hb := hlb); rw [this] at hne; simp at hne).symm
      · exact ⟨k + 1, by rw [IntWalk.i64_in _ (by omega)]; rfl, ⟨by omega, take_step hlt hlb hp (by first | exact he | simpa using he)⟩, by omega⟩
    · have hk' : k = a.length := by omega
      subst hk'
      simp -dsimp -implicitDefEqProofs only [go_sem, ↓reduceIte, keep51, ib51, mk51, Tryz.f51, Nat.lt_irrefl]
      exact fun _ => (decide_eq_true (eq_of_take heq hp)).symm

def keep96 : List Nat := [0, 1, 2, 3, 4, 9, 14, 20]
def ib96 : List Nat := [2, 3]
def mk96 : Marks := fun _ => ([], .nil, [])
set_option maxRecDepth 100000 in
theorem eq_Part (a b : DPart) : Fn0 Tryz.prog 96 [.agg a.c, .agg b.c] (.bool (decide (a = b))) := by
  simp only [DPart.c_eq]
  refine fn0F 21 keep96 ib96 mk96 mix Tryz.func96 rfl (by kernel_rfl) (by simp) fun h => ?_
  simp -dsimp -implicitDefEqProofs only [go_sem, Tryz.f96, ↓reduceIte, keep96, ib96, mk96]
  refine ⟨fun hn => (decide_eq_false fun e => hn (by rw [e])).symm, fun efCode => ?_⟩
  refine ⟨fun hn => (decide_eq_false fun e => hn (by rw [e])).symm, fun efValue => ?_⟩
  refine HFnF.mk (eq_Int64S a.fGrad b.fGrad) ?_
  by_cases efGrad : a.fGrad = b.fGrad
  case neg =>
    have d := decide_eq_false efGrad
    simp -dsimp -implicitDefEqProofs only [go_sem, ↓reduceIte, keep96, ib96, mk96, Tryz.f96, d]
    exact (decide_eq_false fun e => efGrad (by rw [e])).symm
  have dfGrad := decide_eq_true efGrad
  simp -dsimp -implicitDefEqProofs only [go_sem, ↓reduceIte, keep96, ib96, mk96, Tryz.f96, dfGrad]
  exact (decide_eq_true (DPart.eq_iff.2 ⟨efCode, efValue, efGrad⟩)).symm

def keep52 : List Nat := [0, 1, 4, 5, 10, 14, 26]
def ib52 : List Nat := []
def mk52 : Marks := fun id => match id with | 6 => ([], (.op 0 (.op 1 (.op 2 (.op 3 (.op 4 (.op 5 (.op 6 (.op 7 (.op 8 (.op 9 .nil)))))))))), []) | _ => ([], .nil, [])
set_option maxRecDepth 100000 in
theorem eq_PartS (a b : List DPart) (hc : ∀ x ∈ a, ∀ y, Fn0 Tryz.prog 96 [(.agg (DPart.c x)), (.agg (DPart.c y))] (.bool (decide (x = y)))) : Fn0 Tryz.prog 52 [(sls 3 DPart.c a), (sls 3 DPart.c b)] (.bool (decide (a = b))) := by
  refine fn0F 27 keep52 ib52 mk52 mix Tryz.func52 rfl (by kernel_rfl) (by simp) fun h => ?_
  simp -dsimp -implicitDefEqProofs only [go_sem, Tryz.f52, ↓reduceIte, keep52, ib52, mk52]
  refine fun _ _ => ⟨fun hne => ?_, fun heq => ?_⟩
  · exact (decide_eq_false fun e => hne (by rw [e])).symm
  · refine loopF (keep := keep52) (ib := ib52) (mk := mk52) mix (by kernel_rfl) (fun k : Nat => [(0, (sls 3 DPart.c a)), (1, (sls 3 DPart.c b)), (5, I k)]) (fun _ => h) (fun k => k ≤ a.length ∧ a.take k = b.take k) (fun k => a.length - k) 0 (by simp [SatL, tget, Heap.le_refl]) ?_
    intro k ⟨hk, hp⟩
    rcases Nat.lt_or_ge k a.length with hlt | hge
    · have hlb : k < b.length := by omega
      have ea : a[k]? = some a[k] := List.getElem?_eq_getElem hlt
      have eb : b[k]? = some b[k] := List.getElem?_eq_getElem hlb
      simp -dsimp -implicitDefEqProofs only [go_sem, ↓reduceIte, keep52, ib52, mk52, Tryz.f52, ea, eb, DPart.c_eq]
      refine fun _ => ⟨fun _ => ⟨hlt, hlb, ?_⟩, fun hn => absurd hlt hn⟩
      have hx := hc a[k] (List.getElem_mem hlt) b[k]
      simp only [DPart.c_eq] at hx
      refine CallSF.mk hx ?_
      by_cases he : a[k] = b[k]
      · have d := decide_eq_true he
        simp -dsimp -implicitDefEqProofs only [go_sem, ↓reduceIte, keep52, ib52, mk52, Tryz.f52, d]
        exact ⟨k + 1, by rw [IntWalk.i64_in _ (by omega)]; rfl, ⟨by omega, take_step hlt hlb hp he⟩, by omega⟩
      · have d := decide_eq_false he
        simp -dsimp -implicitDefEqProofs only [go_sem, ↓reduceIte, keep52, ib52, mk52, Tryz.f52, d]
        exact (decide_eq_false fun e => he (getElem_of_eq e hlt)).symm
    · have hk' : k = a.length := by omega
      subst hk'
      simp -dsimp -implicitDefEqProofs only [go_sem, ↓reduceIte, keep52, ib52, mk52, Tryz.f52, Nat.lt_irrefl]
      exact fun _ => (decide_eq_true (eq_of_take heq hp)).symm

def keep14 : List Nat := [0, 1, 2, 3, 4, 10, 16, 22, 28, 34]
def ib14 : List Nat := [2, 3]
def mk14 : Marks := fun _ => ([], .nil, [])
set_option maxRecDepth 100000 in
theorem eq_Service (a b : DService) : Fn0 Tryz.prog 14 [.agg a.c, .agg b.c] (.bool (decide (a = b))) := by
  simp only [DService.c_eq]
  refine fn0F 35 keep14 ib14 mk14 mix Tryz.func14 rfl (by kernel_rfl) (by simp) fun h => ?_
  simp -dsimp -implicitDefEqProofs only [go_sem, Tryz.f14, ↓reduceIte, keep14, ib14, mk14]
  refine HFnF.mk (eq_Job a.fJob b.fJob) ?_
  by_cases efJob : a.fJob = b.fJob
  case neg =>
    have d := decide_eq_false efJob
    simp -dsimp -implicitDefEqProofs only [go_sem, ↓reduceIte, keep14, ib14, mk14, Tryz.f14, d]
    exact (decide_eq_false fun e => efJob (by rw [e])).symm
  have dfJob := decide_eq_true efJob
  simp -dsimp -implicitDefEqProofs only [go_sem, ↓reduceIte, keep14, ib14, mk14, Tryz.f14, dfJob]
  refine HFnF.mk (eq_Int64S a.fStamps b.fStamps) ?_
  by_cases efStamps : a.fStamps = b.fStamps
  case neg =>
    have d := decide_eq_false efStamps
    simp -dsimp -implicitDefEqProofs only [go_sem, ↓reduceIte, keep14, ib14, mk14, Tryz.f14, d]
    exact (decide_eq_false fun e => efStamps (by rw [e])).symm
  have dfStamps := decide_eq_true efStamps
  simp -dsimp -implicitDefEqProofs only [go_sem, ↓reduceIte, keep14, ib14, mk14, Tryz.f14, dfStamps]
  refine HFnF.mk (eq_BoolS a.fKnown b.fKnown) ?_
  by_cases efKnown : a.fKnown = b.fKnown
  case neg =>
    have d := decide_eq_false efKnown
    simp -dsimp -implicitDefEqProofs only [go_sem, ↓reduceIte, keep14, ib14, mk14, Tryz.f14, d]
    exact (decide_eq_false fun e => efKnown (by rw [e])).symm
  have dfKnown := decide_eq_true efKnown
  simp -dsimp -implicitDefEqProofs only [go_sem, ↓reduceIte, keep14, ib14, mk14, Tryz.f14, dfKnown]
  refine HFnF.mk (eq_PartS a.fParts b.fParts (fun x _ y => (eq_Part x y))) ?_
  by_cases efParts : a.fParts = b.fParts
  case neg =>
    have d := decide_eq_false efParts
    simp -dsimp -implicitDefEqProofs only [go_sem, ↓reduceIte, keep14, ib14, mk14, Tryz.f14, d]
    exact (decide_eq_false fun e => efParts (by rw [e])).symm
  have dfParts := decide_eq_true efParts
  simp -dsimp -implicitDefEqProofs only [go_sem, ↓reduceIte, keep14, ib14, mk14, Tryz.f14, dfParts]
  refine HFnF.mk (eq_Int64S a.fOwners b.fOwners) ?_
  by_cases efOwners : a.fOwners = b.fOwners
  case neg =>
    have d := decide_eq_false efOwners
    simp -dsimp -implicitDefEqProofs only [go_sem, ↓reduceIte, keep14, ib14, mk14, Tryz.f14, d]
    exact (decide_eq_false fun e => efOwners (by rw [e])).symm
  have dfOwners := decide_eq_true efOwners
  simp -dsimp -implicitDefEqProofs only [go_sem, ↓reduceIte, keep14, ib14, mk14, Tryz.f14, dfOwners]
  exact (decide_eq_true (DService.eq_iff.2 ⟨efJob, efStamps, efKnown, efParts, efOwners⟩)).symm

end Go.Hl

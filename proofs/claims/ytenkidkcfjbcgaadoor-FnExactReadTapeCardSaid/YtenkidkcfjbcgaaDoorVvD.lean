/-
  Contracts of functions and laws of the layer over the walk.
-/
import Derived.Test.YtenkidkcfjbcgaaDoorVvC
import Derived.Test.YtenkidkcfjbcgaaDoorVvA
import Derived.Test.YtenkidkcfjbcgaaDoorHlD
import Derived.Test.YtenkidkcfjbcgaaDoorVvB
namespace Go.Hl
open Go.Proofs
set_option linter.unusedVariables false
set_option linter.unusedSimpArgs false
def keep40 : List Nat := [0, 1, 4, 5, 6, 7, 21, 24, 25, 36, 47, 66, 89, 102]
def ib40 : List Nat := [81]
def mk40 : Marks := fun id => match id with | 16 => ([5, 15, 19], (.op 0 (.op 1 (.op 2 (.op 3 (.op 4 (.op 6 (.op 7 (.op 8 (.op 9 (.op 10 (.op 11 (.op 12 (.op 13 (.op 14 (.op 5 (.op 15 (.op 16 (.op 17 (.op 18 (.op 19 .nil)))))))))))))))))))), []) | _ => ([], .nil, [])
set_option maxRecDepth 100000 in
theorem sline_bad {h0 h : Heap} {nb : Nat} {S : TSt} (H : StgIn h0 nb S h) (s : List UInt8) (hs : s.length ≤ 50000) (ps : List (List UInt8)) (w : List UInt8) (hw : spB 32 s = w :: ps) (hbad : toNums 999999999 ps = none ∨ toNums 999999999 ps = some []) :
    HFn Tryd.prog 40 [.op nb 5 0 0, .str s] h fun r h' => r = .bool false ∧ h0.le h' := by
  have hsp := l01Split s 32 (by omega)
  have hsl := spB_len 32 s
  have hpl : ps.length ≤ 1048576 := by rw [hw] at hsl; have := hsl.1; simp at this; omega
  have hps : ∀ p ∈ ps, p.length ≤ 1048600 := fun p hp => by rw [hw] at hsl; have := hsl.2 p (by simp [hp]); omega
  rw [hw] at hsp
  have hle : h0.le h := H.le
  obtain ⟨om, og, ov, H⟩ := H
  have hb := H.box
  unfold stgBox at hb
  have hget : ∀ L : List (List HVal), (([HVal.str w] :: L)[Int.toNat 0]?) = some [.str w] := fun _ => rfl
  have hnum := l04Numbers w ps false (by omega) hps
  refine fnKF 117 keep40 ib40 mk40 mix Tryd.func40 rfl (by kernel_rfl) (by simp) ?_
  simp (maxSteps := 1000000) -dsimp -implicitDefEqProofs only [go_sem, ↓reduceIte, keep40, ib40, mk40, Tryd.f40, hb]
  first | refine HFnF.mk (hsp) ?_ | refine CallSF.mk (hsp) ?_ | refine HFnF.mkAt (hsp) ?_ | refine CallSF.mk (FnAt.fn0 (hsp)) ?_
  simp (maxSteps := 1000000) -dsimp -implicitDefEqProofs only [go_sem, ↓reduceIte, keep40, ib40, mk40, Tryd.f40]
  first | refine HFnF.mk (hnum) ?_ | refine CallSF.mk (hnum) ?_ | refine HFnF.mkAt (hnum) ?_ | refine CallSF.mk (FnAt.fn0 (hnum)) ?_
  simp (maxSteps := 1000000) -dsimp -implicitDefEqProofs only [go_sem, ↓reduceIte, keep40, ib40, mk40, Tryd.f40]
  rcases hbad with q | q
  · rw [q]
    simp (maxSteps := 1000000) -dsimp -implicitDefEqProofs only [go_sem, ↓reduceIte, keep40, ib40, mk40, Tryd.f40, hb, Option.isSome_none]
    exact ⟨_, h, shift_le (Heap.le_refl _), rfl, hle⟩
  · rw [q]
    simp (maxSteps := 1000000) -dsimp -implicitDefEqProofs only [go_sem, ↓reduceIte, keep40, ib40, mk40, Tryd.f40, hb, Option.isSome_some]
    exact fun _ => ⟨fun _ => ⟨_, h, shift_le (Heap.le_refl _), rfl, hle⟩, fun e => absurd rfl e⟩
set_option maxRecDepth 100000 in
theorem sline_tape {h0 h : Heap} {nb : Nat} {S : TSt} (H : StgIn h0 nb S h) (s : List UInt8) (hs : s.length ≤ 50000) (ps : List (List UInt8)) (w : List UInt8) (ht : w = wTape) (hw : spB 32 s = w :: ps) (n : List Int) (hn : ¬ n = []) (hp : toNums 999999999 ps = some n) (h0s : S.stage = 0) (h1 : n.length = 1) :
    HFn Tryd.prog 40 [.op nb 5 0 0, .str s] h fun r h' => r = .bool true ∧ StgIn h0 nb { S with inp := n.getD 0 0, stage := 1 } h' := by
  have hsp := l01Split s 32 (by omega)
  have hsl := spB_len 32 s
  have hpl : ps.length ≤ 1048576 := by rw [hw] at hsl; have := hsl.1; simp at this; omega
  have hps : ∀ p ∈ ps, p.length ≤ 1048600 := fun p hp => by rw [hw] at hsl; have := hsl.2 p (by simp [hp]); omega
  rw [hw] at hsp
  have hle : h0.le h := H.le
  obtain ⟨om, og, ov, H⟩ := H
  have hb := H.box
  unfold stgBox at hb
  have hget : ∀ L : List (List HVal), (([HVal.str w] :: L)[Int.toNat 0]?) = some [.str w] := fun _ => rfl
  have hnum := l04Numbers w ps false (by omega) hps
  rw [hp] at hnum
  simp only [Option.getD_some, Option.isSome_some] at hnum
  have hl : 0 < n.length := List.length_pos_iff.2 hn
  have ea : n[Int.toNat 0]? = some (n.getD 0 0) := by
    show n[0]? = _
    rw [List.getD_eq_getElem?_getD, List.getElem?_eq_getElem hl]; rfl
  have en : ((n.length : Int) = 0) = False := eq_false (by omega)
  have ew : (w = [116, 97, 112, 101]) = True := eq_true ht
  have e0 : (S.stage = 0) = True := eq_true h0s
  have e1 : ((n.length : Int) = 1) = True := eq_true (by omega)
  refine fnKF 117 keep40 ib40 mk40 mix Tryd.func40 rfl (by kernel_rfl) (by simp) ?_
  simp (maxSteps := 1000000) -dsimp -implicitDefEqProofs only [go_sem, ↓reduceIte, keep40, ib40, mk40, Tryd.f40, hb]
  first | refine HFnF.mk (hsp) ?_ | refine CallSF.mk (hsp) ?_ | refine HFnF.mkAt (hsp) ?_ | refine CallSF.mk (FnAt.fn0 (hsp)) ?_
  simp (maxSteps := 1000000) -dsimp -implicitDefEqProofs only [go_sem, ↓reduceIte, keep40, ib40, mk40, Tryd.f40]
  first | refine HFnF.mk (hnum) ?_ | refine CallSF.mk (hnum) ?_ | refine HFnF.mkAt (hnum) ?_ | refine CallSF.mk (FnAt.fn0 (hnum)) ?_
  simp (maxSteps := 1000000) -dsimp -implicitDefEqProofs only [go_sem, ↓reduceIte, keep40, ib40, mk40, Tryd.f40]
  simp (maxSteps := 1000000) -dsimp -implicitDefEqProofs only [go_sem, ↓reduceIte, keep40, ib40, mk40, Tryd.f40, hb, hget, ew, ea, en, e0, e1]
  refine fun _ => ⟨by omega, fun _ => ⟨by omega, ?_⟩⟩
  rw [upd_upd]
  exact ⟨_, _, shift_le (Heap.le_refl _), rfl, om, og, ov, H.re (bx' := stgBox (n.getD 0 0) 1) (stgBox_odd _ _)⟩
set_option maxRecDepth 100000 in
theorem sline_guard {h0 h : Heap} {nb : Nat} {S : TSt} (H : StgIn h0 nb S h) (s : List UInt8) (hs : s.length ≤ 50000) (ps : List (List UInt8)) (w : List UInt8) (ht : w = wZero ∨ w = wOther) (hw : spB 32 s = w :: ps) (n : List Int) (hn : ¬ n = []) (hp : toNums 999999999 ps = some n) (h1 : n.length = 1) (h12 : S.stage = 1 ∨ S.stage = 2) (hcap : S.guards.length ≤ 1048576) :
    HFn Tryd.prog 40 [.op nb 5 0 0, .str s] h fun r h' => r = .bool true ∧ StgIn h0 nb { S with guards := S.guards ++ [⟨n.getD 0 0, decide (w = wZero)⟩], stage := 2 } h' := by
  have hsp := l01Split s 32 (by omega)
  have hsl := spB_len 32 s
  have hpl : ps.length ≤ 1048576 := by rw [hw] at hsl; have := hsl.1; simp at this; omega
  have hps : ∀ p ∈ ps, p.length ≤ 1048600 := fun p hp => by rw [hw] at hsl; have := hsl.2 p (by simp [hp]); omega
  rw [hw] at hsp
  have hle : h0.le h := H.le
  obtain ⟨om, og, ov, H⟩ := H
  have hb := H.box
  unfold stgBox at hb
  have hget : ∀ L : List (List HVal), (([HVal.str w] :: L)[Int.toNat 0]?) = some [.str w] := fun _ => rfl
  have hnum := l04Numbers w ps false (by omega) hps
  rw [hp] at hnum
  simp only [Option.getD_some, Option.isSome_some] at hnum
  have hl : 0 < n.length := List.length_pos_iff.2 hn
  have ea : n[Int.toNat 0]? = some (n.getD 0 0) := by
    show n[0]? = _
    rw [List.getD_eq_getElem?_getD, List.getElem?_eq_getElem hl]; rfl
  have en : ((n.length : Int) = 0) = False := eq_false (by omega)
  have w1 : ¬ w = [116, 97, 112, 101] := by rcases ht with rfl | rfl <;> decide
  have e1 : ((n.length : Int) = 1) = True := eq_true (by omega)
  have hgd := H.gds
  have hcap' : S.r.guards.length ≤ 1048576 := hcap
  refine fnKF 117 keep40 ib40 mk40 mix Tryd.func40 rfl (by kernel_rfl) (by simp) ?_
  simp (maxSteps := 1000000) -dsimp -implicitDefEqProofs only [go_sem, ↓reduceIte, keep40, ib40, mk40, Tryd.f40, hb]
  first | refine HFnF.mk (hsp) ?_ | refine CallSF.mk (hsp) ?_ | refine HFnF.mkAt (hsp) ?_ | refine CallSF.mk (FnAt.fn0 (hsp)) ?_
  simp (maxSteps := 1000000) -dsimp -implicitDefEqProofs only [go_sem, ↓reduceIte, keep40, ib40, mk40, Tryd.f40]
  first | refine HFnF.mk (hnum) ?_ | refine CallSF.mk (hnum) ?_ | refine HFnF.mkAt (hnum) ?_ | refine CallSF.mk (FnAt.fn0 (hnum)) ?_
  simp (maxSteps := 1000000) -dsimp -implicitDefEqProofs only [go_sem, ↓reduceIte, keep40, ib40, mk40, Tryd.f40]
  by_cases hz : w = wZero
  · have z1 : (w = [122, 101, 114, 111]) = True := eq_true hz
    rw [decide_eq_true hz]
    rcases h12 with q | q
    · have s1 : (S.stage = 1) = True := eq_true q
      cases og with
      | none =>
        have hg0 : S.guards = [] := rowsOf_nil.1 hgd
        simp (maxSteps := 1000000) -dsimp -implicitDefEqProofs only [go_sem, ↓reduceIte, keep40, ib40, mk40, Tryd.f40, hb, hget, w1, ea, en, e1, z1, s1, onil_none, decide_true, decide_false]
        refine fun _ => ⟨by omega, fun _ => ⟨by omega, by omega, by decide, by decide, by decide, fun m hm => ?_⟩⟩
        have d_m_nb : ¬ m = nb := fun e => by rw [e, hb] at hm; cases hm
        have d_nb_m : ¬ nb = m := Ne.symm d_m_nb
        have e_m_nb : (m = nb) = False := eq_false d_m_nb
        have e_nb_m : (nb = m) = False := eq_false d_nb_m
        simp (maxSteps := 1000000) -dsimp -implicitDefEqProofs only [go_sem, ↓reduceIte, keep40, ib40, mk40, Tryd.f40, hb, e_m_nb, e_nb_m, upd_ne]
        rw [upd_upd]
        obtain ⟨g, hg, hR⟩ := H.addg ⟨n.getD 0 0, true⟩ hm (stgBox_odd S.inp 2) (F := upd (upd h m (.row 2 [[.v (I (n.getD 0 0)), .v (.bool true)]])) nb (stgBox S.inp 2 (S.r.guard ⟨n.getD 0 0, true⟩) om (some m) ov)) (upd_same _ _ _)
          (by rw [upd_ne _ _ _ _ d_m_nb, upd_same, show S.r.guards = [] from hg0]; rfl) (fun k h1 h2 _ => by rw [upd_ne _ _ _ _ h1, upd_ne _ _ _ _ h2])
        refine ⟨_, g, shift_le ?_, rfl, om, some m, ov, hR⟩
        have hl0 : (S.r.guard ⟨n.getD 0 0, true⟩).guards.length = 1 := by show (S.guards ++ [_]).length = 1; rw [hg0]; rfl
        unfold stgBox at hg
        simp only [hl0, onil_some] at hg
        exact hg
      | some m =>
        have hm := hgd.2
        have d_m_nb : ¬ m = nb := fun e => by rw [e, hb] at hm; cases hm
        have d_nb_m : ¬ nb = m := Ne.symm d_m_nb
        have e_m_nb : (m = nb) = False := eq_false d_m_nb
        have e_nb_m : (nb = m) = False := eq_false d_nb_m
        simp (maxSteps := 1000000) -dsimp -implicitDefEqProofs only [go_sem, ↓reduceIte, keep40, ib40, mk40, Tryd.f40, hb, hm, hget, w1, ea, en, e1, z1, s1, onil_some, decide_true, decide_false, e_m_nb, e_nb_m, upd_ne]
        refine fun _ => ⟨by omega, fun _ => ⟨by omega, by omega, by decide, by decide, by decide, by rw [rowsOf_len]; exact Nat.le_refl _, by omega, by omega, fun b hb1 => ?_⟩⟩
        have d_b_nb : ¬ b = nb := fun e => by rw [e, hb] at hb1; cases hb1
        have d_nb_b : ¬ nb = b := Ne.symm d_b_nb
        have e_b_nb : (b = nb) = False := eq_false d_b_nb
        have e_nb_b : (nb = b) = False := eq_false d_nb_b
        have d_b_m : ¬ b = m := fun e => by rw [e, hm] at hb1; cases hb1
        have d_m_b : ¬ m = b := Ne.symm d_b_m
        have e_b_m : (b = m) = False := eq_false d_b_m
        have e_m_b : (m = b) = False := eq_false d_m_b
        simp (maxSteps := 1000000) -dsimp -implicitDefEqProofs only [go_sem, ↓reduceIte, keep40, ib40, mk40, Tryd.f40, hb, hm, e_m_nb, e_m_b, e_nb_m, e_nb_b, e_b_m, e_b_nb, upd_ne]
        rw [List.take_of_length_le (by rw [rowsOf_len]; exact Nat.le_refl _), upd_upd]
        obtain ⟨g, hg, hR⟩ := H.addg ⟨n.getD 0 0, true⟩ hb1 (stgBox_odd S.inp 2) (F := upd (upd (upd h m .gone) b (.row 2 (rowsOf DGuard.c S.r.guards ++ [[.v (I (n.getD 0 0)), .v (.bool true)]]))) nb (stgBox S.inp 2 (S.r.guard ⟨n.getD 0 0, true⟩) om (some b) ov)) (upd_same _ _ _)
          (by rw [upd_ne _ _ _ _ d_b_nb, upd_same, rowsOf_snoc]; rfl) (fun k h1 h2 h3 => by rw [upd_ne _ _ _ _ h1, upd_ne _ _ _ _ h2, upd_ne _ _ _ _ (fun q => h3 (by rw [q]))])
        refine ⟨_, g, shift_le ?_, rfl, om, some b, ov, hR⟩
        have hl0 : (S.r.guard ⟨n.getD 0 0, true⟩).guards.length = S.r.guards.length + 1 := by show (S.guards ++ [_]).length = _; rw [List.length_append]; rfl
        unfold stgBox at hg
        simp only [hl0, onil_some] at hg
        exact hg
    · have s1 : (S.stage = 1) = False := eq_false (by omega)
      have s2 : (S.stage = 2) = True := eq_true q
      cases og with
      | none =>
        have hg0 : S.guards = [] := rowsOf_nil.1 hgd
        simp (maxSteps := 1000000) -dsimp -implicitDefEqProofs only [go_sem, ↓reduceIte, keep40, ib40, mk40, Tryd.f40, hb, hget, w1, ea, en, e1, z1, s1, s2, onil_none, decide_true, decide_false]
        refine fun _ => ⟨by omega, fun _ => ⟨by omega, by omega, by decide, by decide, by decide, fun m hm => ?_⟩⟩
        have d_m_nb : ¬ m = nb := fun e => by rw [e, hb] at hm; cases hm
        have d_nb_m : ¬ nb = m := Ne.symm d_m_nb
        have e_m_nb : (m = nb) = False := eq_false d_m_nb
        have e_nb_m : (nb = m) = False := eq_false d_nb_m
        simp (maxSteps := 1000000) -dsimp -implicitDefEqProofs only [go_sem, ↓reduceIte, keep40, ib40, mk40, Tryd.f40, hb, e_m_nb, e_nb_m, upd_ne]
        rw [upd_upd]
        obtain ⟨g, hg, hR⟩ := H.addg ⟨n.getD 0 0, true⟩ hm (stgBox_odd S.inp 2) (F := upd (upd h m (.row 2 [[.v (I (n.getD 0 0)), .v (.bool true)]])) nb (stgBox S.inp 2 (S.r.guard ⟨n.getD 0 0, true⟩) om (some m) ov)) (upd_same _ _ _)
          (by rw [upd_ne _ _ _ _ d_m_nb, upd_same, show S.r.guards = [] from hg0]; rfl) (fun k h1 h2 _ => by rw [upd_ne _ _ _ _ h1, upd_ne _ _ _ _ h2])
        refine ⟨_, g, shift_le ?_, rfl, om, some m, ov, hR⟩
        have hl0 : (S.r.guard ⟨n.getD 0 0, true⟩).guards.length = 1 := by show (S.guards ++ [_]).length = 1; rw [hg0]; rfl
        unfold stgBox at hg
        simp only [hl0, onil_some] at hg
        exact hg
      | some m =>
        have hm := hgd.2
        have d_m_nb : ¬ m = nb := fun e => by rw [e, hb] at hm; cases hm
        have d_nb_m : ¬ nb = m := Ne.symm d_m_nb
        have e_m_nb : (m = nb) = False := eq_false d_m_nb
        have e_nb_m : (nb = m) = False := eq_false d_nb_m
        simp (maxSteps := 1000000) -dsimp -implicitDefEqProofs only [go_sem, ↓reduceIte, keep40, ib40, mk40, Tryd.f40, hb, hm, hget, w1, ea, en, e1, z1, s1, s2, onil_some, decide_true, decide_false, e_m_nb, e_nb_m, upd_ne]
        refine fun _ => ⟨by omega, fun _ => ⟨by omega, by omega, by decide, by decide, by decide, by rw [rowsOf_len]; exact Nat.le_refl _, by omega, by omega, fun b hb1 => ?_⟩⟩
        have d_b_nb : ¬ b = nb := fun e => by rw [e, hb] at hb1; cases hb1
        have d_nb_b : ¬ nb = b := Ne.symm d_b_nb
        have e_b_nb : (b = nb) = False := eq_false d_b_nb
        have e_nb_b : (nb = b) = False := eq_false d_nb_b
        have d_b_m : ¬ b = m := fun e => by rw [e, hm] at hb1; cases hb1
        have d_m_b : ¬ m = b := Ne.symm d_b_m
        have e_b_m : (b = m) = False := eq_false d_b_m
        have e_m_b : (m = b) = False := eq_false d_m_b
        simp (maxSteps := 1000000) -dsimp -implicitDefEqProofs only [go_sem, ↓reduceIte, keep40, ib40, mk40, Tryd.f40, hb, hm, e_m_nb, e_m_b, e_nb_m, e_nb_b, e_b_m, e_b_nb, upd_ne]
        rw [List.take_of_length_le (by rw [rowsOf_len]; exact Nat.le_refl _), upd_upd]
        obtain ⟨g, hg, hR⟩ := H.addg ⟨n.getD 0 0, true⟩ hb1 (stgBox_odd S.inp 2) (F := upd (upd (upd h m .gone) b (.row 2 (rowsOf DGuard.c S.r.guards ++ [[.v (I (n.getD 0 0)), .v (.bool true)]]))) nb (stgBox S.inp 2 (S.r.guard ⟨n.getD 0 0, true⟩) om (some b) ov)) (upd_same _ _ _)
          (by rw [upd_ne _ _ _ _ d_b_nb, upd_same, rowsOf_snoc]; rfl) (fun k h1 h2 h3 => by rw [upd_ne _ _ _ _ h1, upd_ne _ _ _ _ h2, upd_ne _ _ _ _ (fun q => h3 (by rw [q]))])
        refine ⟨_, g, shift_le ?_, rfl, om, some b, ov, hR⟩
        have hl0 : (S.r.guard ⟨n.getD 0 0, true⟩).guards.length = S.r.guards.length + 1 := by show (S.guards ++ [_]).length = _; rw [List.length_append]; rfl
        unfold stgBox at hg
        simp only [hl0, onil_some] at hg
        exact hg
  · have z1 : (w = [122, 101, 114, 111]) = False := eq_false hz
    have z2 : (w = [111, 116, 104, 101, 114]) = True := eq_true (ht.resolve_left hz)
    rw [decide_eq_false hz]
    rcases h12 with q | q
    · have s1 : (S.stage = 1) = True := eq_true q
      cases og with
      | none =>
        have hg0 : S.guards = [] := rowsOf_nil.1 hgd
        simp (maxSteps := 1000000) -dsimp -implicitDefEqProofs only [go_sem, ↓reduceIte, keep40, ib40, mk40, Tryd.f40, hb, hget, w1, ea, en, e1, z1, z2, s1, onil_none, decide_true, decide_false]
        refine fun _ => ⟨by omega, fun _ => ⟨by omega, by omega, by decide, by decide, by decide, fun m hm => ?_⟩⟩
        have d_m_nb : ¬ m = nb := fun e => by rw [e, hb] at hm; cases hm
        have d_nb_m : ¬ nb = m := Ne.symm d_m_nb
        have e_m_nb : (m = nb) = False := eq_false d_m_nb
        have e_nb_m : (nb = m) = False := eq_false d_nb_m
        simp (maxSteps := 1000000) -dsimp -implicitDefEqProofs only [go_sem, ↓reduceIte, keep40, ib40, mk40, Tryd.f40, hb, e_m_nb, e_nb_m, upd_ne]
        rw [upd_upd]
        obtain ⟨g, hg, hR⟩ := H.addg ⟨n.getD 0 0, false⟩ hm (stgBox_odd S.inp 2) (F := upd (upd h m (.row 2 [[.v (I (n.getD 0 0)), .v (.bool false)]])) nb (stgBox S.inp 2 (S.r.guard ⟨n.getD 0 0, false⟩) om (some m) ov)) (upd_same _ _ _)
          (by rw [upd_ne _ _ _ _ d_m_nb, upd_same, show S.r.guards = [] from hg0]; rfl) (fun k h1 h2 _ => by rw [upd_ne _ _ _ _ h1, upd_ne _ _ _ _ h2])
        refine ⟨_, g, shift_le ?_, rfl, om, some m, ov, hR⟩
        have hl0 : (S.r.guard ⟨n.getD 0 0, false⟩).guards.length = 1 := by show (S.guards ++ [_]).length = 1; rw [hg0]; rfl
        unfold stgBox at hg
        simp only [hl0, onil_some] at hg
        exact hg
      | some m =>
        have hm := hgd.2
        have d_m_nb : ¬ m = nb := fun e => by rw [e, hb] at hm; cases hm
        have d_nb_m : ¬ nb = m := Ne.symm d_m_nb
        have e_m_nb : (m = nb) = False := eq_false d_m_nb
        have e_nb_m : (nb = m) = False := eq_false d_nb_m
        simp (maxSteps := 1000000) -dsimp -implicitDefEqProofs only [go_sem, ↓reduceIte, keep40, ib40, mk40, Tryd.f40, hb, hm, hget, w1, ea, en, e1, z1, z2, s1, onil_some, decide_true, decide_false, e_m_nb, e_nb_m, upd_ne]
        refine fun _ => ⟨by omega, fun _ => ⟨by omega, by omega, by decide, by decide, by decide, by rw [rowsOf_len]; exact Nat.le_refl _, by omega, by omega, fun b hb1 => ?_⟩⟩
        have d_b_nb : ¬ b = nb := fun e => by rw [e, hb] at hb1; cases hb1
        have d_nb_b : ¬ nb = b := Ne.symm d_b_nb
        have e_b_nb : (b = nb) = False := eq_false d_b_nb
        have e_nb_b : (nb = b) = False := eq_false d_nb_b
        have d_b_m : ¬ b = m := fun e => by rw [e, hm] at hb1; cases hb1
        have d_m_b : ¬ m = b := Ne.symm d_b_m
        have e_b_m : (b = m) = False := eq_false d_b_m
        have e_m_b : (m = b) = False := eq_false d_m_b
        simp (maxSteps := 1000000) -dsimp -implicitDefEqProofs only [go_sem, ↓reduceIte, keep40, ib40, mk40, Tryd.f40, hb, hm, e_m_nb, e_m_b, e_nb_m, e_nb_b, e_b_m, e_b_nb, upd_ne]
        rw [List.take_of_length_le (by rw [rowsOf_len]; exact Nat.le_refl _), upd_upd]
        obtain ⟨g, hg, hR⟩ := H.addg ⟨n.getD 0 0, false⟩ hb1 (stgBox_odd S.inp 2) (F := upd (upd (upd h m .gone) b (.row 2 (rowsOf DGuard.c S.r.guards ++ [[.v (I (n.getD 0 0)), .v (.bool false)]]))) nb (stgBox S.inp 2 (S.r.guard ⟨n.getD 0 0, false⟩) om (some b) ov)) (upd_same _ _ _)
          (by rw [upd_ne _ _ _ _ d_b_nb, upd_same, rowsOf_snoc]; rfl) (fun k h1 h2 h3 => by rw [upd_ne _ _ _ _ h1, upd_ne _ _ _ _ h2, upd_ne _ _ _ _ (fun q => h3 (by rw [q]))])
        refine ⟨_, g, shift_le ?_, rfl, om, some b, ov, hR⟩
        have hl0 : (S.r.guard ⟨n.getD 0 0, false⟩).guards.length = S.r.guards.length + 1 := by show (S.guards ++ [_]).length = _; rw [List.length_append]; rfl
        unfold stgBox at hg
        simp only [hl0, onil_some] at hg
        exact hg
    · have s1 : (S.stage = 1) = False := eq_false (by omega)
      have s2 : (S.stage = 2) = True := eq_true q
      cases og with
      | none =>
        have hg0 : S.guards = [] := rowsOf_nil.1 hgd
        simp (maxSteps := 1000000) -dsimp -implicitDefEqProofs only [go_sem, ↓reduceIte, keep40, ib40, mk40, Tryd.f40, hb, hget, w1, ea, en, e1, z1, z2, s1, s2, onil_none, decide_true, decide_false]
        refine fun _ => ⟨by omega, fun _ => ⟨by omega, by omega, by decide, by decide, by decide, fun m hm => ?_⟩⟩
        have d_m_nb : ¬ m = nb := fun e => by rw [e, hb] at hm; cases hm
        have d_nb_m : ¬ nb = m := Ne.symm d_m_nb
        have e_m_nb : (m = nb) = False := eq_false d_m_nb
        have e_nb_m : (nb = m) = False := eq_false d_nb_m
        simp (maxSteps := 1000000) -dsimp -implicitDefEqProofs only [go_sem, ↓reduceIte, keep40, ib40, mk40, Tryd.f40, hb, e_m_nb, e_nb_m, upd_ne]
        rw [upd_upd]
        obtain ⟨g, hg, hR⟩ := H.addg ⟨n.getD 0 0, false⟩ hm (stgBox_odd S.inp 2) (F := upd (upd h m (.row 2 [[.v (I (n.getD 0 0)), .v (.bool false)]])) nb (stgBox S.inp 2 (S.r.guard ⟨n.getD 0 0, false⟩) om (some m) ov)) (upd_same _ _ _)
          (by rw [upd_ne _ _ _ _ d_m_nb, upd_same, show S.r.guards = [] from hg0]; rfl) (fun k h1 h2 _ => by rw [upd_ne _ _ _ _ h1, upd_ne _ _ _ _ h2])
        refine ⟨_, g, shift_le ?_, rfl, om, some m, ov, hR⟩
        have hl0 : (S.r.guard ⟨n.getD 0 0, false⟩).guards.length = 1 := by show (S.guards ++ [_]).length = 1; rw [hg0]; rfl
        unfold stgBox at hg
        simp only [hl0, onil_some] at hg
        exact hg
      | some m =>
        have hm := hgd.2
        have d_m_nb : ¬ m = nb := fun e => by rw [e, hb] at hm; cases hm
        have d_nb_m : ¬ nb = m := Ne.symm d_m_nb
        have e_m_nb : (m = nb) = False := eq_false d_m_nb
        have e_nb_m : (nb = m) = False := eq_false d_nb_m
        simp (maxSteps := 1000000) -dsimp -implicitDefEqProofs only [go_sem, ↓reduceIte, keep40, ib40, mk40, Tryd.f40, hb, hm, hget, w1, ea, en, e1, z1, z2, s1, s2, onil_some, decide_true, decide_false, e_m_nb, e_nb_m, upd_ne]
        refine fun _ => ⟨by omega, fun _ => ⟨by omega, by omega, by decide, by decide, by decide, by rw [rowsOf_len]; exact Nat.le_refl _, by omega, by omega, fun b hb1 => ?_⟩⟩
        have d_b_nb : ¬ b = nb := fun e => by rw [e, hb] at hb1; cases hb1
        have d_nb_b : ¬ nb = b := Ne.symm d_b_nb
        have e_b_nb : (b = nb) = False := eq_false d_b_nb
        have e_nb_b : (nb = b) = False := eq_false d_nb_b
        have d_b_m : ¬ b = m := fun e => by rw [e, hm] at hb1; cases hb1
        have d_m_b : ¬ m = b := Ne.symm d_b_m
        have e_b_m : (b = m) = False := eq_false d_b_m
        have e_m_b : (m = b) = False := eq_false d_m_b
        simp (maxSteps := 1000000) -dsimp -implicitDefEqProofs only [go_sem, ↓reduceIte, keep40, ib40, mk40, Tryd.f40, hb, hm, e_m_nb, e_m_b, e_nb_m, e_nb_b, e_b_m, e_b_nb, upd_ne]
        rw [List.take_of_length_le (by rw [rowsOf_len]; exact Nat.le_refl _), upd_upd]
        obtain ⟨g, hg, hR⟩ := H.addg ⟨n.getD 0 0, false⟩ hb1 (stgBox_odd S.inp 2) (F := upd (upd (upd h m .gone) b (.row 2 (rowsOf DGuard.c S.r.guards ++ [[.v (I (n.getD 0 0)), .v (.bool false)]]))) nb (stgBox S.inp 2 (S.r.guard ⟨n.getD 0 0, false⟩) om (some b) ov)) (upd_same _ _ _)
          (by rw [upd_ne _ _ _ _ d_b_nb, upd_same, rowsOf_snoc]; rfl) (fun k h1 h2 h3 => by rw [upd_ne _ _ _ _ h1, upd_ne _ _ _ _ h2, upd_ne _ _ _ _ (fun q => h3 (by rw [q]))])
        refine ⟨_, g, shift_le ?_, rfl, om, some b, ov, hR⟩
        have hl0 : (S.r.guard ⟨n.getD 0 0, false⟩).guards.length = S.r.guards.length + 1 := by show (S.guards ++ [_]).length = _; rw [List.length_append]; rfl
        unfold stgBox at hg
        simp only [hl0, onil_some] at hg
        exact hg
set_option maxRecDepth 100000 in
theorem sline_out {h0 h : Heap} {nb : Nat} {S : TSt} (H : StgIn h0 nb S h) (s : List UInt8) (hs : s.length ≤ 50000) (ps : List (List UInt8)) (w : List UInt8) (ht : w = wOut) (hw : spB 32 s = w :: ps) (n : List Int) (hn : ¬ n = []) (hp : toNums 999999999 ps = some n) (h12 : S.stage = 1 ∨ S.stage = 2) :
    HFn Tryd.prog 40 [.op nb 5 0 0, .str s] h fun r h' => r = .bool true ∧ StgIn h0 nb { S with outs := n, stage := 3 } h' := by
  have hsp := l01Split s 32 (by omega)
  have hsl := spB_len 32 s
  have hpl : ps.length ≤ 1048576 := by rw [hw] at hsl; have := hsl.1; simp at this; omega
  have hps : ∀ p ∈ ps, p.length ≤ 1048600 := fun p hp => by rw [hw] at hsl; have := hsl.2 p (by simp [hp]); omega
  rw [hw] at hsp
  have hle : h0.le h := H.le
  obtain ⟨om, og, ov, H⟩ := H
  have hb := H.box
  unfold stgBox at hb
  have hget : ∀ L : List (List HVal), (([HVal.str w] :: L)[Int.toNat 0]?) = some [.str w] := fun _ => rfl
  have hnum := l04NumbersN w ps false (by omega) hps
  rw [hp] at hnum
  simp only [Option.getD_some, Option.isSome_some] at hnum
  have hl : 0 < n.length := List.length_pos_iff.2 hn
  have en : ((n.length : Int) = 0) = False := eq_false (by omega)
  have w1 : ¬ w = [116, 97, 112, 101] := by subst ht; decide
  have w2 : ¬ w = [122, 101, 114, 111] := by subst ht; decide
  have w3 : ¬ w = [111, 116, 104, 101, 114] := by subst ht; decide
  have w4 : (w = [111, 117, 116]) = True := eq_true ht
  refine fnKF 117 keep40 ib40 mk40 mix Tryd.func40 rfl (by kernel_rfl) (by simp) ?_
  simp (maxSteps := 1000000) -dsimp -implicitDefEqProofs only [go_sem, ↓reduceIte, keep40, ib40, mk40, Tryd.f40, hb]
  first | refine HFnF.mk (hsp) ?_ | refine CallSF.mk (hsp) ?_ | refine HFnF.mkAt (hsp) ?_ | refine CallSF.mk (FnAt.fn0 (hsp)) ?_
  simp (maxSteps := 1000000) -dsimp -implicitDefEqProofs only [go_sem, ↓reduceIte, keep40, ib40, mk40, Tryd.f40]
  refine HFnF.wn0 hnum ?_
  rintro r_ l_ g ⟨y, oy, rfl, rfl⟩ wn
  obtain ⟨o, ho, hv, hg⟩ := ungrown oy wn
  cases o with
  | none => exact absurd ho hn
  | some k =>
    rw [oside_some] at ho
    rw [oval_some] at hv
    rw [oheap_some] at hg
    subst hg
    have d_k_nb : ¬ k = nb := fun e => by rw [e, hb] at ho; cases ho
    have d_nb_k : ¬ nb = k := Ne.symm d_k_nb
    have e_k_nb : (k = nb) = False := eq_false d_k_nb
    have e_nb_k : (nb = k) = False := eq_false d_nb_k
    simp (maxSteps := 1000000) -dsimp -implicitDefEqProofs only [go_sem, ↓reduceIte, keep40, ib40, mk40, Tryd.f40, hb, hv, hget, e_k_nb, e_nb_k, upd_ne, en, w1, w2, w3, w4]
    refine fun _ => ⟨by omega, ?_⟩
    obtain ⟨g, hg, hR⟩ := H.seto n ho hn (stgBox_odd S.inp 3) (F := upd (upd h k (.row 1 ((n.map fun x => [I x]).map (List.map .v)))) nb (stgBox S.inp 3 ⟨S.code, n, S.guards⟩ om og (some k))) (upd_same _ _ _) (by rw [upd_ne _ _ _ _ d_k_nb, upd_same]; rfl) (fun j h1 h2 _ => by rw [upd_ne _ _ _ _ h1, upd_ne _ _ _ _ h2])
    repeat' (with_reducible first | intro _ | refine And.intro ?_ ?_)
    all_goals try omega
    all_goals
      rw [upd_upd]
      exact ⟨_, g, shift_le hg, rfl, om, og, some k, hR⟩
set_option maxRecDepth 100000 in
/-- A line that may not stand where it stands. -/
theorem sline_off {h0 h : Heap} {nb : Nat} {S : TSt} (H : StgIn h0 nb S h) (s : List UInt8) (hs : s.length ≤ 50000) (ps : List (List UInt8)) (w : List UInt8) (hw : spB 32 s = w :: ps) (n : List Int) (hn : ¬ n = []) (hp : toNums 999999999 ps = some n) (hbad : (w = wTape ∧ ¬ (S.stage = 0 ∧ n.length = 1)) ∨ ((w = wZero ∨ w = wOther) ∧ ¬ (n.length = 1 ∧ (S.stage = 1 ∨ S.stage = 2))) ∨ (w = wOut ∧ ¬ (S.stage = 1 ∨ S.stage = 2))) :
    HFn Tryd.prog 40 [.op nb 5 0 0, .str s] h fun r h' => r = .bool false ∧ h0.le h' := by
  have hsp := l01Split s 32 (by omega)
  have hsl := spB_len 32 s
  have hpl : ps.length ≤ 1048576 := by rw [hw] at hsl; have := hsl.1; simp at this; omega
  have hps : ∀ p ∈ ps, p.length ≤ 1048600 := fun p hp => by rw [hw] at hsl; have := hsl.2 p (by simp [hp]); omega
  rw [hw] at hsp
  have hle : h0.le h := H.le
  obtain ⟨om, og, ov, H⟩ := H
  have hb := H.box
  unfold stgBox at hb
  have hget : ∀ L : List (List HVal), (([HVal.str w] :: L)[Int.toNat 0]?) = some [.str w] := fun _ => rfl
  have hnum := l04Numbers w ps false (by omega) hps
  rw [hp] at hnum
  simp only [Option.getD_some, Option.isSome_some] at hnum
  have hl : 0 < n.length := List.length_pos_iff.2 hn
  have ea : n[Int.toNat 0]? = some (n.getD 0 0) := by
    show n[0]? = _
    rw [List.getD_eq_getElem?_getD, List.getElem?_eq_getElem hl]; rfl
  have en : ((n.length : Int) = 0) = False := eq_false (by omega)
  have fin : ∃ r1 g, Shift (HVal.bool false) h r1 g ∧ r1 = HVal.bool false ∧ h0.le g := ⟨_, h, shift_le (Heap.le_refl _), rfl, hle⟩
  refine fnKF 117 keep40 ib40 mk40 mix Tryd.func40 rfl (by kernel_rfl) (by simp) ?_
  simp (maxSteps := 1000000) -dsimp -implicitDefEqProofs only [go_sem, ↓reduceIte, keep40, ib40, mk40, Tryd.f40, hb]
  first | refine HFnF.mk (hsp) ?_ | refine CallSF.mk (hsp) ?_ | refine HFnF.mkAt (hsp) ?_ | refine CallSF.mk (FnAt.fn0 (hsp)) ?_
  simp (maxSteps := 1000000) -dsimp -implicitDefEqProofs only [go_sem, ↓reduceIte, keep40, ib40, mk40, Tryd.f40]
  first | refine HFnF.mk (hnum) ?_ | refine CallSF.mk (hnum) ?_ | refine HFnF.mkAt (hnum) ?_ | refine CallSF.mk (FnAt.fn0 (hnum)) ?_
  simp (maxSteps := 1000000) -dsimp -implicitDefEqProofs only [go_sem, ↓reduceIte, keep40, ib40, mk40, Tryd.f40]
  rcases hbad with ⟨ht, q⟩ | ⟨ht, q⟩ | ⟨ht, q⟩
  · have ew : (w = [116, 97, 112, 101]) = True := eq_true ht
    by_cases q0 : S.stage = 0
    · have e0 : (S.stage = 0) = True := eq_true q0
      have e1 : ((n.length : Int) = 1) = False := eq_false (by omega)
      simp (maxSteps := 1000000) -dsimp -implicitDefEqProofs only [go_sem, ↓reduceIte, keep40, ib40, mk40, Tryd.f40, hb, hget, ew, ea, en, e0, e1]
      exact fun _ => ⟨by omega, fun _ => fin⟩
    · have e0 : (S.stage = 0) = False := eq_false q0
      simp (maxSteps := 1000000) -dsimp -implicitDefEqProofs only [go_sem, ↓reduceIte, keep40, ib40, mk40, Tryd.f40, hb, hget, ew, ea, en, e0]
      exact fun _ => ⟨by omega, fin⟩
  · have w1 : ¬ w = [116, 97, 112, 101] := by rcases ht with rfl | rfl <;> decide
    by_cases hz : w = wZero
    · have z1 : (w = [122, 101, 114, 111]) = True := eq_true hz
      by_cases q0 : n.length = 1
      · have e1 : ((n.length : Int) = 1) = True := eq_true (by omega)
        have e2 : (S.stage = 1) = False := eq_false (by omega)
        have e3 : (S.stage = 2) = False := eq_false (by omega)
        simp (maxSteps := 1000000) -dsimp -implicitDefEqProofs only [go_sem, ↓reduceIte, keep40, ib40, mk40, Tryd.f40, hb, hget, w1, z1, ea, en, e1, e2, e3]
        exact fun _ => ⟨by omega, fun _ => fin⟩
      · have e1 : ((n.length : Int) = 1) = False := eq_false (by omega)
        simp (maxSteps := 1000000) -dsimp -implicitDefEqProofs only [go_sem, ↓reduceIte, keep40, ib40, mk40, Tryd.f40, hb, hget, w1, z1, ea, en, e1]
        exact fun _ => ⟨by omega, fun _ => fin⟩
    · have z1 : (w = [122, 101, 114, 111]) = False := eq_false hz
      have z2 : (w = [111, 116, 104, 101, 114]) = True := eq_true (ht.resolve_left hz)
      by_cases q0 : n.length = 1
      · have e1 : ((n.length : Int) = 1) = True := eq_true (by omega)
        have e2 : (S.stage = 1) = False := eq_false (by omega)
        have e3 : (S.stage = 2) = False := eq_false (by omega)
        simp (maxSteps := 1000000) -dsimp -implicitDefEqProofs only [go_sem, ↓reduceIte, keep40, ib40, mk40, Tryd.f40, hb, hget, w1, z1, z2, ea, en, e1, e2, e3]
        exact fun _ => ⟨by omega, fun _ => fin⟩
      · have e1 : ((n.length : Int) = 1) = False := eq_false (by omega)
        simp (maxSteps := 1000000) -dsimp -implicitDefEqProofs only [go_sem, ↓reduceIte, keep40, ib40, mk40, Tryd.f40, hb, hget, w1, z1, z2, ea, en, e1]
        exact fun _ => ⟨by omega, fun _ => fin⟩
  · have w1 : ¬ w = [116, 97, 112, 101] := by subst ht; decide
    have w2 : ¬ w = [122, 101, 114, 111] := by subst ht; decide
    have w3 : ¬ w = [111, 116, 104, 101, 114] := by subst ht; decide
    have w4 : (w = [111, 117, 116]) = True := eq_true ht
    have e2 : (S.stage = 1) = False := eq_false (by omega)
    have e3 : (S.stage = 2) = False := eq_false (by omega)
    simp (maxSteps := 1000000) -dsimp -implicitDefEqProofs only [go_sem, ↓reduceIte, keep40, ib40, mk40, Tryd.f40, hb, hget, w1, w2, w3, w4, ea, en, e2, e3]
    exact fun _ => ⟨by omega, fin⟩
set_option maxRecDepth 100000 in
theorem sline_op {h0 h : Heap} {nb : Nat} {S : TSt} (H : StgIn h0 nb S h) (s : List UInt8) (hs : s.length ≤ 50000) (ps : List (List UInt8)) (w : List UInt8) (ht : ¬ w = wTape ∧ ¬ w = wOut ∧ ¬ w = wZero ∧ ¬ w = wOther) (hw : spB 32 s = w :: ps) (n : List Int) (hn : ¬ n = []) (hp : toNums 999999999 ps = some n) (hcap : S.code.length ≤ 1048576) :
    HFn Tryd.prog 40 [.op nb 5 0 0, .str s] h (InsQ h0 nb S w n) := by
  have H' := H
  have hsp := l01Split s 32 (by omega)
  have hsl := spB_len 32 s
  have hpl : ps.length ≤ 1048576 := by rw [hw] at hsl; have := hsl.1; simp at this; omega
  have hps : ∀ p ∈ ps, p.length ≤ 1048600 := fun p hp => by rw [hw] at hsl; have := hsl.2 p (by simp [hp]); omega
  rw [hw] at hsp
  have hle : h0.le h := H.le
  obtain ⟨om, og, ov, H⟩ := H
  have hb := H.box
  unfold stgBox at hb
  have hget : ∀ L : List (List HVal), (([HVal.str w] :: L)[Int.toNat 0]?) = some [.str w] := fun _ => rfl
  have hnum := l04Numbers w ps false (by omega) hps
  rw [hp] at hnum
  simp only [Option.getD_some, Option.isSome_some] at hnum
  have hl : 0 < n.length := List.length_pos_iff.2 hn
  have ea : n[Int.toNat 0]? = some (n.getD 0 0) := by
    show n[0]? = _
    rw [List.getD_eq_getElem?_getD, List.getElem?_eq_getElem hl]; rfl
  have en : ((n.length : Int) = 0) = False := eq_false (by omega)
  obtain ⟨w1, w2, w3, w4⟩ := ht
  unfold wTape at w1; unfold wOut at w2; unfold wZero at w3; unfold wOther at w4
  refine fnKF 117 keep40 ib40 mk40 mix Tryd.func40 rfl (by kernel_rfl) (by simp) ?_
  simp (maxSteps := 1000000) -dsimp -implicitDefEqProofs only [go_sem, ↓reduceIte, keep40, ib40, mk40, Tryd.f40, hb]
  first | refine HFnF.mk (hsp) ?_ | refine CallSF.mk (hsp) ?_ | refine HFnF.mkAt (hsp) ?_ | refine CallSF.mk (FnAt.fn0 (hsp)) ?_
  simp (maxSteps := 1000000) -dsimp -implicitDefEqProofs only [go_sem, ↓reduceIte, keep40, ib40, mk40, Tryd.f40]
  first | refine HFnF.mk (hnum) ?_ | refine CallSF.mk (hnum) ?_ | refine HFnF.mkAt (hnum) ?_ | refine CallSF.mk (FnAt.fn0 (hnum)) ?_
  simp (maxSteps := 1000000) -dsimp -implicitDefEqProofs only [go_sem, ↓reduceIte, keep40, ib40, mk40, Tryd.f40]
  simp (maxSteps := 1000000) -dsimp -implicitDefEqProofs only [go_sem, ↓reduceIte, keep40, ib40, mk40, Tryd.f40, hb, hget, w1, w2, w3, w4, en]
  refine fun _ => ⟨by omega, by omega, HFnF.mkH (sinstr H' w n hcap) ?_⟩
  rintro r_ h' q
  obtain ⟨b, rfl, q2⟩ := q
  simp (maxSteps := 1000000) -dsimp -implicitDefEqProofs only [go_sem, ↓reduceIte, keep40, ib40, mk40, Tryd.f40]
  exact ⟨_, h', shift_le (Heap.le_refl _), b, rfl, q2⟩
/-- spec's reader of a line. -/
theorem sline {h0 h : Heap} {nb : Nat} {S : TSt} (H : StgIn h0 nb S h) (s : List UInt8) (hs : s.length ≤ 50000) (hc1 : S.code.length ≤ 1048576) (hc2 : S.guards.length ≤ 1048576) :
    HFn Tryd.prog 40 [.op nb 5 0 0, .str s] h fun r h' => r = .bool (lineT s S).isSome ∧ h0.le h' ∧ ∀ S', lineT s S = some S' → StgIn h0 nb S' h' := by
  have no : lineT s S = none → ∀ (r : HVal) (h' : Heap), (r = .bool false ∧ h0.le h') → r = .bool (lineT s S).isSome ∧ h0.le h' ∧ ∀ S', lineT s S = some S' → StgIn h0 nb S' h' := fun e r h' q => ⟨by rw [e]; exact q.1, q.2, fun S' z => by rw [e] at z; cases z⟩
  have yes : ∀ S2 : TSt, lineT s S = some S2 → ∀ (r : HVal) (h' : Heap), (r = .bool true ∧ StgIn h0 nb S2 h') → r = .bool (lineT s S).isSome ∧ h0.le h' ∧ ∀ S', lineT s S = some S' → StgIn h0 nb S' h' := fun S2 e r h' q => ⟨by rw [e]; exact q.1, q.2.le, fun S' z => by rw [e] at z; cases z; exact q.2⟩
  cases hw : spB 32 s with
  | nil => exact absurd hw (spB_ne 32 s)
  | cons w ps =>
    cases hp : toNums 999999999 ps with
    | none => exact (sline_bad H s hs ps w hw (.inl hp)).mono (no (by rw [lineT, hw, List.tail_cons, hp]))
    | some n =>
      by_cases hn : n = []
      · subst hn
        refine (sline_bad H s hs ps w hw (.inr hp)).mono (no ?_)
        simp only [lineT, hw, List.tail_cons, hp, ↓reduceIte]
      · have e : lineT s S = wordT w n S := by simp only [lineT, hw, List.tail_cons, hp]; rw [if_neg hn]; rfl
        by_cases ht : w = wTape
        · by_cases q : S.stage = 0 ∧ n.length = 1
          · exact (sline_tape H s hs ps w ht hw n hn hp q.1 q.2).mono (yes _ (by rw [e, wordT, if_pos ht, if_pos q]))
          · exact (sline_off H s hs ps w hw n hn hp (.inl ⟨ht, q⟩)).mono (no (by rw [e, wordT, if_pos ht, if_neg q]))
        · by_cases hz : w = wZero ∨ w = wOther
          · by_cases q : n.length = 1 ∧ (S.stage = 1 ∨ S.stage = 2)
            · exact (sline_guard H s hs ps w hz hw n hn hp q.1 q.2 hc2).mono (yes _ (by rw [e, wordT, if_neg ht, if_pos hz, if_pos q]))
            · exact (sline_off H s hs ps w hw n hn hp (.inr (.inl ⟨hz, q⟩))).mono (no (by rw [e, wordT, if_neg ht, if_pos hz, if_neg q]))
          · by_cases hou : w = wOut
            · by_cases q : S.stage = 1 ∨ S.stage = 2
              · exact (sline_out H s hs ps w hou hw n hn hp q).mono (yes _ (by rw [e, wordT, if_neg ht, if_neg hz, if_pos hou, if_pos q]))
              · exact (sline_off H s hs ps w hw n hn hp (.inr (.inr ⟨hou, q⟩))).mono (no (by rw [e, wordT, if_neg ht, if_neg hz, if_pos hou, if_neg q]))
            · refine (sline_op H s hs ps w ⟨ht, hou, fun q => hz (.inl q), fun q => hz (.inr q)⟩ hw n hn hp hc1).mono fun r h' q => ?_
              obtain ⟨b, hr, hl, hb, hx⟩ := q
              have e2 : wordT w n S = if opOf w = 0 then none else match instrT (opOf w) n with | none => none | some x => if S.stage = 1 then some { S with code := S.code ++ [x] } else none := by
                rw [wordT, if_neg ht, if_neg hz, if_neg hou]
                rfl
              have fls : wordT w n S = none → ¬ (S.stage = 1 ∧ ¬ opOf w = 0 ∧ (instrT (opOf w) n).isSome = true) → r = .bool (lineT s S).isSome ∧ h0.le h' ∧ ∀ S', lineT s S = some S' → StgIn h0 nb S' h' := fun e3 z => by
                refine no (e.trans e3) r h' ⟨?_, hl⟩
                rw [hr]
                cases b with
                | false => rfl
                | true => exact absurd (hb.1 rfl) z
              by_cases h0 : opOf w = 0
              · exact fls (by rw [e2, if_pos h0]) fun z => z.2.1 h0
              · cases hi : instrT (opOf w) n with
                | none => exact fls (by rw [e2, if_neg h0, hi]) fun z => by rw [hi] at z; cases z.2.2
                | some x =>
                  by_cases h1 : S.stage = 1
                  · have e3 : wordT w n S = some { S with code := S.code ++ [x] } := by rw [e2, if_neg h0, hi]; exact if_pos h1
                    exact yes _ (e.trans e3) r h' ⟨by rw [hr, hb.2 ⟨h1, h0, by rw [hi]; rfl⟩], hx x h0 hi⟩
                  · exact fls (by rw [e2, if_neg h0, hi]; exact if_neg h1) fun z => h1 z.1
open Go.Proofs
set_option linter.unusedVariables false
set_option linter.unusedSimpArgs false
def insOK (x : DInstr) (k inp : Int) : Prop :=
  (x.fOp = 1 ∧ x.fA = 0 ∧ x.fB = 0 ∧ 0 ≤ x.fNum ∧ x.fNum ≤ inp - 1) ∨ (x.fOp = 2 ∧ x.fA = 0 ∧ x.fB = 0 ∧ Num x.fNum) ∨
  ((3 ≤ x.fOp ∧ x.fOp ≤ 6) ∧ x.fNum = 0 ∧ (0 ≤ x.fA ∧ x.fA ≤ k - 1) ∧ (0 ≤ x.fB ∧ x.fB ≤ k - 1)) ∨ (x.fOp = 7 ∧ x.fNum = 0 ∧ x.fB = 0 ∧ 0 ≤ x.fA ∧ x.fA ≤ k - 1)
instance (x : DInstr) (k inp : Int) : Decidable (insOK x k inp) := by unfold insOK Num; infer_instance
def regsOK (s : Int) (l : List Int) : Prop := ∀ r ∈ l, 0 ≤ r ∧ r ≤ s - 1
instance (s : Int) (l : List Int) : Decidable (regsOK s l) := by unfold regsOK; infer_instance
def gdsOK (s : Int) (l : List DGuard) : Prop := ∀ g ∈ l, 0 ≤ g.fReg ∧ g.fReg ≤ s - 1
instance (s : Int) (l : List DGuard) : Decidable (gdsOK s l) := by unfold gdsOK; infer_instance
def codesOK (inp : Int) (l : List DInstr) : Prop := ∀ (k : Nat) (h : k < l.length), insOK l[k] k inp
instance (inp : Int) (l : List DInstr) : Decidable (codesOK inp l) := by unfold codesOK; infer_instance
structure DTape.ok (t : DTape) : Prop where
  inp : 0 ≤ t.fInputs ∧ t.fInputs ≤ 12
  lens : t.fCode.length ≤ 3200 ∧ t.fGuards.length ≤ 3200 ∧ 1 ≤ t.fOuts.length ∧ t.fOuts.length ≤ 12
  code : codesOK t.fInputs t.fCode
  gds : gdsOK t.fCode.length t.fGuards
  outs : regsOK t.fCode.length t.fOuts
theorem DTape.ok_iff (t : DTape) : t.ok ↔ (0 ≤ t.fInputs ∧ t.fInputs ≤ 12) ∧ (t.fCode.length ≤ 3200 ∧ t.fGuards.length ≤ 3200 ∧ 1 ≤ t.fOuts.length ∧ t.fOuts.length ≤ 12) ∧ codesOK t.fInputs t.fCode ∧ gdsOK t.fCode.length t.fGuards ∧ regsOK t.fCode.length t.fOuts :=
  ⟨fun ⟨a, b, c, d, e⟩ => ⟨a, b, c, d, e⟩, fun ⟨a, b, c, d, e⟩ => ⟨a, b, c, d, e⟩⟩
instance (t : DTape) : Decidable t.ok := decidable_of_iff _ t.ok_iff.symm
def keep79 : List Nat := [0, 1, 2, 3, 6, 8, 9, 26, 41, 63]
def ib79 : List Nat := [3]
def mk79 : Marks := fun _ => ([], .nil, [])
set_option maxRecDepth 100000 in
theorem l04Instr (x : DInstr) (k inp : Int) (hk : 0 ≤ k ∧ k ≤ 3200) (hi : 0 ≤ inp ∧ inp ≤ 12) : Fn0 Tryd.prog 79 [.agg x.c, I k, I inp] (.bool (decide (insOK x k inp))) := by
  rw [DInstr.c_eq]
  have ek : IntKind.i64.wrap (k - 1) = k - 1 := IntWalk.i64_in _ (by omega)
  have ei : IntKind.i64.wrap (inp - 1) = inp - 1 := IntWalk.i64_in _ (by omega)
  refine fn0F 80 keep79 ib79 mk79 mix Tryd.func79 rfl (by kernel_rfl) (by simp) fun h => ?_
  simp (maxSteps := 1000000) -dsimp -implicitDefEqProofs only [go_sem, ↓reduceIte, keep79, ib79, mk79, Tryd.f79, ek, ei]
  repeat' (with_reducible first | intro _ | refine And.intro ?_ ?_)
  all_goals first
    | exact (decide_eq_false (by unfold insOK Num; omega)).symm
    | skip
      first | refine HFnF.mk (l00In x.fNum 0 (inp - 1)) ?_ | refine CallSF.mk (l00In x.fNum 0 (inp - 1)) ?_ | refine HFnF.mkAt (l00In x.fNum 0 (inp - 1)) ?_ | refine CallSF.mk (FnAt.fn0 (l00In x.fNum 0 (inp - 1))) ?_
      simp (maxSteps := 1000000) -dsimp -implicitDefEqProofs only [go_sem, ↓reduceIte, keep79, ib79, mk79, Tryd.f79]
      exact decide_eq_decide.2 (by unfold insOK Num; omega)
    | skip
      first | refine HFnF.mk (l01Number x.fNum) ?_ | refine CallSF.mk (l01Number x.fNum) ?_ | refine HFnF.mkAt (l01Number x.fNum) ?_ | refine CallSF.mk (FnAt.fn0 (l01Number x.fNum)) ?_
      simp (maxSteps := 1000000) -dsimp -implicitDefEqProofs only [go_sem, ↓reduceIte, keep79, ib79, mk79, Tryd.f79]
      exact decide_eq_decide.2 (by unfold insOK Num; omega)
    | skip
      first | refine HFnF.mk (l00In x.fA 0 (k - 1)) ?_ | refine CallSF.mk (l00In x.fA 0 (k - 1)) ?_ | refine HFnF.mkAt (l00In x.fA 0 (k - 1)) ?_ | refine CallSF.mk (FnAt.fn0 (l00In x.fA 0 (k - 1))) ?_
      simp (maxSteps := 1000000) -dsimp -implicitDefEqProofs only [go_sem, ↓reduceIte, keep79, ib79, mk79, Tryd.f79]
      exact decide_eq_decide.2 (by unfold insOK Num; omega)
    | skip
      first | refine HFnF.mk (l00In x.fA 0 (k - 1)) ?_ | refine CallSF.mk (l00In x.fA 0 (k - 1)) ?_ | refine HFnF.mkAt (l00In x.fA 0 (k - 1)) ?_ | refine CallSF.mk (FnAt.fn0 (l00In x.fA 0 (k - 1))) ?_
      simp (maxSteps := 1000000) -dsimp -implicitDefEqProofs only [go_sem, ↓reduceIte, keep79, ib79, mk79, Tryd.f79]
      refine ⟨fun q => ?_, fun q => (decide_eq_false (by unfold insOK Num; omega)).symm⟩
      rw [ek]
      first | refine HFnF.mk (l00In x.fB 0 (k - 1)) ?_ | refine CallSF.mk (l00In x.fB 0 (k - 1)) ?_ | refine HFnF.mkAt (l00In x.fB 0 (k - 1)) ?_ | refine CallSF.mk (FnAt.fn0 (l00In x.fB 0 (k - 1))) ?_
      simp (maxSteps := 1000000) -dsimp -implicitDefEqProofs only [go_sem, ↓reduceIte, keep79, ib79, mk79, Tryd.f79]
      first
      | exact decide_eq_decide.2 (by unfold insOK Num; omega)
      | exact ⟨fun q => decide_eq_decide.2 (by unfold insOK Num; omega), fun q => (decide_eq_false (by unfold insOK Num; omega)).symm⟩
    | skip
      first | refine HFnF.mk (l00In x.fA 0 (k - 1)) ?_ | refine CallSF.mk (l00In x.fA 0 (k - 1)) ?_ | refine HFnF.mkAt (l00In x.fA 0 (k - 1)) ?_ | refine CallSF.mk (FnAt.fn0 (l00In x.fA 0 (k - 1))) ?_
      simp (maxSteps := 1000000) -dsimp -implicitDefEqProofs only [go_sem, ↓reduceIte, keep79, ib79, mk79, Tryd.f79]
      refine ⟨fun q => ?_, fun q => (decide_eq_false (by unfold insOK Num; omega)).symm⟩
      first
      | exact decide_eq_decide.2 (by unfold insOK Num; omega)
      | exact ⟨fun q => decide_eq_decide.2 (by unfold insOK Num; omega), fun q => (decide_eq_false (by unfold insOK Num; omega)).symm⟩
    | skip
      first | refine HFnF.mk (l00In x.fA 0 (k - 1)) ?_ | refine CallSF.mk (l00In x.fA 0 (k - 1)) ?_ | refine HFnF.mkAt (l00In x.fA 0 (k - 1)) ?_ | refine CallSF.mk (FnAt.fn0 (l00In x.fA 0 (k - 1))) ?_
      simp (maxSteps := 1000000) -dsimp -implicitDefEqProofs only [go_sem, ↓reduceIte, keep79, ib79, mk79, Tryd.f79]
      refine ⟨fun q => ?_, fun q => (decide_eq_false (by unfold insOK Num; omega)).symm⟩
      rw [ek]
      first | refine HFnF.mk (l00In x.fB 0 (k - 1)) ?_ | refine CallSF.mk (l00In x.fB 0 (k - 1)) ?_ | refine HFnF.mkAt (l00In x.fB 0 (k - 1)) ?_ | refine CallSF.mk (FnAt.fn0 (l00In x.fB 0 (k - 1))) ?_
      simp (maxSteps := 1000000) -dsimp -implicitDefEqProofs only [go_sem, ↓reduceIte, keep79, ib79, mk79, Tryd.f79]
      trace_state
      sorry
def keep85 : List Nat := [0, 1, 2, 3, 4, 6, 8, 9, 27, 42, 64]
def ib85 : List Nat := [3, 4]
def mk85 : Marks := fun _ => ([], .nil, [])
set_option maxRecDepth 100000 in
theorem isInstr (t : DTape) (x : DInstr) (k : Int) (hk : 0 ≤ k ∧ k ≤ 3200) (hi : 0 ≤ t.fInputs ∧ t.fInputs ≤ 12) : Fn0 Tryd.prog 85 [.agg t.c, .agg x.c, I k] (.bool (decide (insOK x k t.fInputs))) := by
  rw [DInstr.c_eq, DTape.c_eq]
  have ek : IntKind.i64.wrap (k - 1) = k - 1 := IntWalk.i64_in _ (by omega)
  have ei : IntKind.i64.wrap (t.fInputs - 1) = t.fInputs - 1 := IntWalk.i64_in _ (by omega)
  refine fn0F 81 keep85 ib85 mk85 mix Tryd.func85 rfl (by kernel_rfl) (by simp) fun h => ?_
  simp (maxSteps := 1000000) -dsimp -implicitDefEqProofs only [go_sem, ↓reduceIte, keep85, ib85, mk85, Tryd.f85, ek, ei]
  repeat' (with_reducible first | intro _ | refine And.intro ?_ ?_)
  all_goals first
    | exact (decide_eq_false (by unfold insOK Num; omega)).symm
    | skip
      first | refine HFnF.mk (within x.fNum 0 (t.fInputs - 1)) ?_ | refine CallSF.mk (within x.fNum 0 (t.fInputs - 1)) ?_ | refine HFnF.mkAt (within x.fNum 0 (t.fInputs - 1)) ?_ | refine CallSF.mk (FnAt.fn0 (within x.fNum 0 (t.fInputs - 1))) ?_
      simp (maxSteps := 1000000) -dsimp -implicitDefEqProofs only [go_sem, ↓reduceIte, keep85, ib85, mk85, Tryd.f85]
      exact decide_eq_decide.2 (by unfold insOK Num; omega)
    | skip
      first | refine HFnF.mk (isNumber x.fNum) ?_ | refine CallSF.mk (isNumber x.fNum) ?_ | refine HFnF.mkAt (isNumber x.fNum) ?_ | refine CallSF.mk (FnAt.fn0 (isNumber x.fNum)) ?_
      simp (maxSteps := 1000000) -dsimp -implicitDefEqProofs only [go_sem, ↓reduceIte, keep85, ib85, mk85, Tryd.f85]
      exact decide_eq_decide.2 (by unfold insOK Num; omega)
    | skip
      first | refine HFnF.mk (within x.fA 0 (k - 1)) ?_ | refine CallSF.mk (within x.fA 0 (k - 1)) ?_ | refine HFnF.mkAt (within x.fA 0 (k - 1)) ?_ | refine CallSF.mk (FnAt.fn0 (within x.fA 0 (k - 1))) ?_
      simp (maxSteps := 1000000) -dsimp -implicitDefEqProofs only [go_sem, ↓reduceIte, keep85, ib85, mk85, Tryd.f85]
      exact decide_eq_decide.2 (by unfold insOK Num; omega)
    | skip
      first | refine HFnF.mk (within x.fA 0 (k - 1)) ?_ | refine CallSF.mk (within x.fA 0 (k - 1)) ?_ | refine HFnF.mkAt (within x.fA 0 (k - 1)) ?_ | refine CallSF.mk (FnAt.fn0 (within x.fA 0 (k - 1))) ?_
      simp (maxSteps := 1000000) -dsimp -implicitDefEqProofs only [go_sem, ↓reduceIte, keep85, ib85, mk85, Tryd.f85]
      refine ⟨fun q => ?_, fun q => (decide_eq_false (by unfold insOK Num; omega)).symm⟩
      rw [ek]
      first | refine HFnF.mk (within x.fB 0 (k - 1)) ?_ | refine CallSF.mk (within x.fB 0 (k - 1)) ?_ | refine HFnF.mkAt (within x.fB 0 (k - 1)) ?_ | refine CallSF.mk (FnAt.fn0 (within x.fB 0 (k - 1))) ?_
      simp (maxSteps := 1000000) -dsimp -implicitDefEqProofs only [go_sem, ↓reduceIte, keep85, ib85, mk85, Tryd.f85]
      first
      | exact decide_eq_decide.2 (by unfold insOK Num; omega)
      | exact ⟨fun q => decide_eq_decide.2 (by unfold insOK Num; omega), fun q => (decide_eq_false (by unfold insOK Num; omega)).symm⟩
    | skip
      first | refine HFnF.mk (within x.fA 0 (k - 1)) ?_ | refine CallSF.mk (within x.fA 0 (k - 1)) ?_ | refine HFnF.mkAt (within x.fA 0 (k - 1)) ?_ | refine CallSF.mk (FnAt.fn0 (within x.fA 0 (k - 1))) ?_
      simp (maxSteps := 1000000) -dsimp -implicitDefEqProofs only [go_sem, ↓reduceIte, keep85, ib85, mk85, Tryd.f85]
      refine ⟨fun q => ?_, fun q => (decide_eq_false (by unfold insOK Num; omega)).symm⟩
      first
      | exact decide_eq_decide.2 (by unfold insOK Num; omega)
      | exact ⟨fun q => decide_eq_decide.2 (by unfold insOK Num; omega), fun q => (decide_eq_false (by unfold insOK Num; omega)).symm⟩
    | skip
      first | refine HFnF.mk (within x.fA 0 (k - 1)) ?_ | refine CallSF.mk (within x.fA 0 (k - 1)) ?_ | refine HFnF.mkAt (within x.fA 0 (k - 1)) ?_ | refine CallSF.mk (FnAt.fn0 (within x.fA 0 (k - 1))) ?_
      simp (maxSteps := 1000000) -dsimp -implicitDefEqProofs only [go_sem, ↓reduceIte, keep85, ib85, mk85, Tryd.f85]
      refine ⟨fun q => ?_, fun q => (decide_eq_false (by unfold insOK Num; omega)).symm⟩
      rw [ek]
      first | refine HFnF.mk (within x.fB 0 (k - 1)) ?_ | refine CallSF.mk (within x.fB 0 (k - 1)) ?_ | refine HFnF.mkAt (within x.fB 0 (k - 1)) ?_ | refine CallSF.mk (FnAt.fn0 (within x.fB 0 (k - 1))) ?_
      simp (maxSteps := 1000000) -dsimp -implicitDefEqProofs only [go_sem, ↓reduceIte, keep85, ib85, mk85, Tryd.f85]
      trace_state
      sorry
open Go.Proofs
set_option linter.unusedVariables false
set_option linter.unusedSimpArgs false
theorem Sub.ipL {sz : Nat} {T T' : List HVal} (s : SubL T T') : Sub (.ip sz [T] 0 0) (.ip sz [T'] 0 0) := fun E h w v r => by
  cases r with
  | ip _ _ _ _ b o cv hi hs hc h1 hr =>
    have key : ∀ i j y, at2 [T'] i j = some y → ∃ x, at2 [T] i j = some x ∧ Sub x y := fun i j y hy => by
      obtain ⟨e, he, hj⟩ := at2_some hy
      cases i with
      | succ i => simp at he
      | zero =>
        obtain rfl : T' = e := by simpa using he
        have hlt : j < T.length := by rw [s.1]; exact (List.getElem?_eq_some_iff.1 hj).1
        exact ⟨T[j], by simp [at2, List.getElem?_eq_getElem hlt], s.2 j _ _ (List.getElem?_eq_getElem hlt) hj⟩
    refine .ip sz _ 0 0 b o cv hi (fun e he => ?_) (fun i j y hy => ?_) (fun i j y hy => ?_) (fun i j y hy => ?_)
    · rw [List.mem_singleton.1 he, ← s.1]; exact hs T (by simp)
    · obtain ⟨x, hx, _⟩ := key i j y hy; exact hc i j x hx
    · obtain ⟨x, hx, _⟩ := key i j y hy; exact h1 i j x hx
    · obtain ⟨x, hx, q⟩ := key i j y hy; exact q _ _ _ _ (hr i j x hx)
theorem rowsRow_v : ∀ (c : List HVal), OV.rowsRow (c.map .v) = []
  | [] => OV.row_nil
  | x :: c => by rw [List.map_cons, OV.row_cons, OV.v_rows, rowsRow_v c]; rfl
theorem rowsRows_v : ∀ (l : List (List HVal)), OV.rowsRows (l.map (List.map .v)) = []
  | [] => rfl
  | x :: l => by rw [List.map_cons, OV.rowsRows, rowsRow_v, rowsRows_v l]; rfl
theorem cells_v (l : List (List HVal)) : OV.cells (l.map (List.map .v)) = l.map (List.map Cell.v) := by simp [OV.cells, OV.val]
/-- An own slice of flat elements under an optional name; nz is what stands for no name. -/
def oY (nz : OV) (sz : Nat) (es : List (List HVal)) : Option Nat → OV
  | none => nz
  | some n => .sl n sz (es.map (List.map .v))
theorem oY_rows (nz : OV) (hz : nz.rows = []) (sz : Nat) (es : List (List HVal)) (o : Option Nat) : (oY nz sz es o).rows = o.toList.map fun n => (n, .row sz (es.map (List.map Cell.v))) := by
  cases o with
  | none => exact hz
  | some n => show (OV.sl n sz (es.map (List.map .v))).rows = _; rw [OV.sl_rows, rowsRows_v, cells_v]; rfl
theorem OR_flat {α : Type} {R : α → List OV → Prop} {c : α → List HVal} (hR : ∀ x, R x ((c x).map .v)) : ∀ l : List α, OR R l ((l.map c).map (List.map .v))
  | [] => trivial
  | x :: l => ⟨hR x, OR_flat hR l⟩
theorem OS_oY {α : Type} {R : α → List OV → Prop} {c : α → List HVal} (hR : ∀ x, R x ((c x).map .v)) {h : Heap} {sz : Nat} {l : List α} {o : Option Nat} (ho : oRow h sz (rowsOf c l) o) : OS R sz l (oY (.nil sz) sz (l.map c) o) := by
  cases o with
  | none => have : l = [] := rowsOf_nil.1 ho; subst this; exact OS.nil
  | some n => exact OS.mk (OR_flat hR l)
theorem oY_val {α : Type} {c : α → List HVal} {h : Heap} {sz : Nat} {l : List α} {o : Option Nat} (ho : oRow h sz (rowsOf c l) o) : Sub (onil sz l.length o) (oY (.nil sz) sz (l.map c) o).val := by
  cases o with
  | none => exact Sub.nil sz true
  | some n => rw [onil_some]; show Sub _ (HVal.os n sz 0 ((l.map c).map (List.map OV.v)).length); simp only [List.length_map]; exact Sub.refl _
theorem oZ_val {α : Type} {c : α → List HVal} {sz : Nat} {l : List α} {o : Option Nat} : (oY (.v .nilsl) sz (l.map c) o).val = onil sz l.length o := by
  cases o with
  | none => rfl
  | some n => rw [onil_some]; show HVal.os n sz 0 ((l.map c).map (List.map OV.v)).length = _; simp only [List.length_map]
theorem oZ_dat {α : Type} {c : α → List HVal} {h : Heap} {sz : Nat} {l : List α} {o : Option Nat} (ho : oRow h sz (rowsOf c l) o) : Sub (oY (.v .nilsl) sz (l.map c) o).dat (sls sz c l) := by
  cases o with
  | none => have : l = [] := rowsOf_nil.1 ho; subst this; exact Sub.nil sz false
  | some n =>
    have e : (oY (.v .nilsl) sz (l.map c) (some n)).dat = sls sz c l := by
      show (OV.sl n sz ((l.map c).map (List.map .v))).dat = _
      rw [OV.dat, OV.datRows_map, List.map_map, List.map_map]
      refine congrArg (HVal.sl sz · false) (List.map_congr_left fun a _ => ?_)
      show ((c a).map OV.v).map OV.dat = c a
      rw [List.map_map]
      exact List.map_id'' (fun _ => rfl) _
    rw [e]; exact Sub.refl _
def RSt.t (S : RSt) (inp : Int) : DTape := ⟨inp, S.code, S.guards, S.vals⟩
def tapY (nz : Nat → OV) (inp : Int) (S : RSt) (om og ov : Option Nat) : List OV := [.v (I inp), oY (nz 4) 4 (S.code.map DInstr.c) om, oY (nz 2) 2 (S.guards.map DGuard.c) og, oY (nz 1) 1 (S.vals.map fun n => [I n]) ov]
theorem tapY_rows (nz : Nat → OV) (hz : ∀ k, (nz k).rows = []) (inp : Int) (S : RSt) (om og ov : Option Nat) :
    OV.rowsRow (tapY nz inp S om og ov) = (om.toList.map fun n => (n, HObj.row 4 (rowsOf DInstr.c S.code))) ++ ((og.toList.map fun n => (n, .row 2 (rowsOf DGuard.c S.guards))) ++ (ov.toList.map fun n => (n, .row 1 (rowsOf (fun n => [I n]) S.vals)))) := by
  simp only [tapY, OV.row_cons, OV.row_nil, OV.v_rows, oY_rows _ (hz _), List.nil_append, List.append_nil, rowsOf]
theorem mem_optl {α β : Type} {f : α → β} {o : Option α} {x : β} (h : x ∈ o.toList.map f) : ∃ n, some n = o ∧ x = f n := by
  cases o with
  | none => simp at h
  | some n => exact ⟨n, rfl, by simpa using h⟩
theorem RecG.owns {h0 h : Heap} {nb : Nat} {bx : RSt → Option Nat → Option Nat → Option Nat → HObj} {S : RSt} {om og ov : Option Nat} (H : RecG bx h0 nb S om og ov h) (nz : Nat → OV) (hz : ∀ k, (nz k).rows = []) (inp : Int) :
    Owns h (OV.rowsRow (tapY nz inp S om og ov)) ∧ (∀ n ∈ namesOf (OV.rowsRow (tapY nz inp S om og ov)), some n = om ∨ some n = og ∨ some n = ov) := by
  rw [tapY_rows nz hz]
  constructor
  · intro p hp
    rcases List.mem_append.1 hp with q | q
    · obtain ⟨n, e, rfl⟩ := mem_optl q; exact (H.kinds n).2.1 e
    · rcases List.mem_append.1 q with q | q
      · obtain ⟨n, e, rfl⟩ := mem_optl q; exact (H.kinds n).2.2.1 e
      · obtain ⟨n, e, rfl⟩ := mem_optl q; exact (H.kinds n).2.2.2 e
  · intro n hn
    obtain ⟨p, hp, rfl⟩ := List.mem_map.1 hn
    rcases List.mem_append.1 hp with q | q
    · obtain ⟨n, e, rfl⟩ := mem_optl q; exact .inl e
    · rcases List.mem_append.1 q with q | q
      · obtain ⟨n, e, rfl⟩ := mem_optl q; exact .inr (.inl e)
      · obtain ⟨n, e, rfl⟩ := mem_optl q; exact .inr (.inr e)
theorem RecG.new {h0 h : Heap} {nb : Nat} {bx : RSt → Option Nat → Option Nat → Option Nat → HObj} {S : RSt} {om og ov : Option Nat} (H : RecG bx h0 nb S om og ov h) (inp : Int) :
    New h0 (OV.rowsRow (tapY OV.nil inp S om og ov)) (fun n => if n = nb then none else h n) := by
  obtain ⟨h1, h2⟩ := H.owns OV.nil OV.nil_rows inp
  have a := H.apart
  have hne : ∀ n, (some n = om ∨ some n = og ∨ some n = ov) → ¬ n = nb := fun n hn e => by
    have := (a n).1 e
    rcases hn with q | q | q
    · exact this.1 q
    · exact this.2.1 q
    · exact this.2.2 q
  refine ⟨?_, fun n hn => H.fresh n (.inr (h2 n hn)), fun p hp => (if_neg (hne _ (h2 _ (List.mem_map_of_mem hp)))).trans (h1 p hp), fun n hn => ?_⟩
  · rw [tapY_rows OV.nil OV.nil_rows]
    have x1 : ∀ m g, om = some m → og = some g → ¬ m = g := fun m g e1 e2 q => ((a m).2.1 e1.symm).1 (by rw [e2, q])
    have x2 : ∀ m g, om = some m → ov = some g → ¬ m = g := fun m g e1 e2 q => ((a m).2.1 e1.symm).2 (by rw [e2, q])
    have x3 : ∀ m g, og = some m → ov = some g → ¬ m = g := fun m g e1 e2 q => (a m).2.2.1 e1.symm (by rw [e2, q])
    cases om <;> cases og <;> cases ov <;> simp_all [namesOf]
  · by_cases e : n = nb
    · show (if n = nb then none else h n) = _
      rw [if_pos e, H.fresh n (.inl e)]
    · show (if n = nb then none else h n) = _
      rw [if_neg e]
      have hm : ∀ (o : Option Nat), (o = om ∨ o = og ∨ o = ov) → some n = o → False := fun o ho q => hn (by
        rw [tapY_rows OV.nil OV.nil_rows]
        rcases ho with rfl | rfl | rfl <;> simp [namesOf, ← q])
      exact H.upto n e (fun q => hm om (.inl rfl) q) (fun q => hm og (.inr (.inl rfl)) q) (fun q => hm ov (.inr (.inr rfl)) q)
/-- What has been read, handed back. -/
theorem RecG.own {h0 h : Heap} {nb : Nat} {bx : RSt → Option Nat → Option Nat → Option Nat → HObj} {S : RSt} {om og ov : Option Nat} (H : RecG bx h0 nb S om og ov h) (inp : Int) :
    ∃ r1 g l, Shift (.tup [.agg [I inp, onil 4 S.code.length om, onil 2 S.guards.length og, onil 1 S.vals.length ov], I 0, I 0]) h r1 g ∧ QA (S.t inp).o (fun y => .tup [y, I 0, I 0]) r1 l ∧ New h0 l g := by
  refine ⟨.tup [.agg ((tapY OV.nil inp S om og ov).map OV.val), I 0, I 0], fun n => if n = nb then none else h n, _, Shift.of (Sub.tup (.cons (Sub.agg ?_) (.cons (.refl _) (.cons (.refl _) .nil)))) fun n => ?_, ⟨tapY OV.nil inp S om og ov, ?_, rfl, rfl⟩, H.new inp⟩
  · exact .cons (.refl _) (.cons (oY_val H.code) (.cons (oY_val H.gds) (.cons (oY_val H.vals) .nil)))
  · by_cases e : n = nb
    · exact .inl (if_pos e)
    · exact .inr (if_neg e)
  · exact ⟨_, _, _, rfl, OS_oY (R := DInstr.o) (c := DInstr.c) (fun _ => rfl) H.code, OS_oY (R := DGuard.o) (c := DGuard.c) (fun _ => rfl) H.gds, OS_oY (R := oP I) (c := fun n => [I n]) (fun _ => rfl) H.vals⟩
theorem nilz_rows (k : Nat) : (OV.v .nilsl).rows = [] := OV.v_rows _
theorem RecG.view {h0 h : Heap} {nb : Nat} {bx : RSt → Option Nat → Option Nat → Option Nat → HObj} {S : RSt} {om og ov : Option Nat} (H : RecG bx h0 nb S om og ov h) (inp : Int) :
    View h (.agg [I inp, onil 4 S.code.length om, onil 2 S.guards.length og, onil 1 S.vals.length ov]) (.agg (S.t inp).c) := by
  have := View.agg (tapY (fun _ => .v .nilsl) inp S om og ov) (H.owns _ nilz_rows inp).1
  rw [show (tapY (fun _ => .v .nilsl) inp S om og ov).map OV.val = [I inp, onil 4 S.code.length om, onil 2 S.guards.length og, onil 1 S.vals.length ov] by simp only [tapY, List.map_cons, List.map_nil, oZ_val]; rfl] at this
  refine this.sub (Sub.agg ?_)
  rw [DTape.c_eq]
  exact .cons (.refl _) (.cons (oZ_dat H.code) (.cons (oZ_dat H.gds) (.cons (oZ_dat H.vals) .nil)))
theorem RecG.viewp {h0 h : Heap} {nb : Nat} {inp st : Int} {S : RSt} {om og ov : Option Nat} (H : RecG (stgBox inp st) h0 nb S om og ov h) :
    View h (.op nb 5 0 0) (.ip 5 [(S.t inp).c ++ [I st]] 0 0) := by
  have hrow : OV.rowsRow (tapY (fun _ => .v .nilsl) inp S om og ov ++ [.v (I st)]) = OV.rowsRow (tapY (fun _ => .v .nilsl) inp S om og ov) := by
    simp only [tapY, List.cons_append, List.nil_append, OV.row_cons, OV.row_nil, OV.v_rows, List.append_nil]
  have hb := H.box
  have hbx : stgBox inp st S om og ov = .row 5 (OV.cells [tapY (fun _ => .v .nilsl) inp S om og ov ++ [.v (I st)]]) := by
    simp only [stgBox, tapY, OV.cells, List.cons_append, List.nil_append, List.map_cons, List.map_nil, oZ_val]; rfl
  rw [hbx] at hb
  have := View.op (n := nb) (sz := 5) (i := 0) (off := 0) [tapY (fun _ => .v .nilsl) inp S om og ov ++ [.v (I st)]] hb (by simp) (by
    have h1 : OV.rowsRows [tapY (fun _ => .v .nilsl) inp S om og ov ++ [.v (I st)]] = OV.rowsRow (tapY (fun _ => .v .nilsl) inp S om og ov ++ [.v (I st)]) := by simp [OV.rowsRows]
    rw [h1, hrow]; exact (H.owns _ nilz_rows inp).1)
  rw [OV.datRows_map] at this
  refine this.sub ?_
  rw [DTape.c_eq]
  exact Sub.ipL (.cons (.refl _) (.cons (oZ_dat H.code) (.cons (oZ_dat H.gds) (.cons (oZ_dat H.vals) (.cons (.refl _) .nil)))))
open Go.Proofs
set_option linter.unusedVariables false
set_option linter.unusedSimpArgs false
def zTape : DTape := ⟨0, [], [], []⟩
/-- Lines, read in order: what has been read, or the number of the first line that may not stand there. -/
def goT : List (List UInt8) → Nat → TSt → TSt ⊕ Nat
  | [], _, S => .inl S
  | s :: l, i, S => match lineT s S with | none => .inr i | some S' => goT l (i + 1) S'
theorem goT_nil (i : Nat) (S : TSt) : goT [] i S = .inl S := rfl
theorem goT_bad {l : List (List UInt8)} {k i : Nat} {S : TSt} (hk : k < l.length) (h : lineT l[k] S = none) : goT (l.drop k) i S = .inr i := by
  rw [List.drop_eq_getElem_cons hk, goT, h]
theorem goT_ok {l : List (List UInt8)} {k i : Nat} {S S' : TSt} (hk : k < l.length) (h : lineT l[k] S = some S') : goT (l.drop k) i S = goT (l.drop (k + 1)) (i + 1) S' := by
  rw [List.drop_eq_getElem_cons hk, goT, h]
def endT (e : List UInt8) (n : Nat) : TSt ⊕ Nat → DTape × Int × Int
  | .inr i => (zTape, (i : Int) + 1, 5)
  | .inl S => if ¬ e = [] ∨ ¬ S.stage = 3 then (zTape, (n : Int) + 1, 5) else if (S.r.t S.inp).ok then (S.r.t S.inp, 0, 0) else (zTape, 0, 1)
def tapeRes (t : List UInt8) : DTape × Int × Int := if 50000 < t.length then (zTape, 0, 2) else
  endT ((spB 10 t).getD ((spB 10 t).length - 1) []) ((spB 10 t).length - 1) (goT ((spB 10 t).take ((spB 10 t).length - 1)) 0 TSt.none)
/-- What has been read is not long. -/
def TSt.small (S : TSt) (k : Nat) : Prop := S.code.length ≤ k ∧ S.guards.length ≤ k ∧ S.outs.length ≤ 60000
theorem TSt.small_none : TSt.none.small 0 := ⟨Nat.le_refl _, Nat.le_refl _, Nat.zero_le _⟩
theorem toNums_len {hi : Int} {ps : List (List UInt8)} {l : List Int} (h : toNums hi ps = some l) : l.length = ps.length := by
  rw [toNums] at h
  split at h
  · rw [← Option.some.inj h, List.length_map]
  · cases h
theorem lineT_small {s : List UInt8} {S S' : TSt} {k : Nat} (hs : s.length ≤ 50000) (h : S.small k) (e : lineT s S = some S') : S'.small (k + 1) := by
  obtain ⟨h1, h2, h3⟩ := h
  unfold lineT at e
  split at e
  · cases e
  · rename_i n hn
    have hl := toNums_len hn
    have hl2 := (spB_len 32 s).1
    rw [List.length_tail] at hl
    split at e
    · cases e
    · unfold wordT at e
      repeat' (split at e)
      all_goals first
        | (cases e; done)
        | (cases e; refine ⟨?_, ?_, ?_⟩ <;> simp only [List.length_append, List.length_singleton] <;> omega)
theorem zTape_o : ZeroO zTape.o [.int .i64 0, .nilsl, .nilsl, .nilsl] := ⟨_, ⟨.nil 4, .nil 2, .nil 1, rfl, OS.nil, OS.nil, OS.nil⟩, rfl, by
  exact Sub.agg (.cons (.refl _) (.cons (Sub.nil 4 true) (.cons (Sub.nil 2 true) (.cons (Sub.nil 1 true) .nil))))⟩
theorem tape_err {h h' : Heap} {a b : Int} {r : DTape × Int × Int} (hr : r = (zTape, a, b)) (hl : h.le h') : ∃ r1 g l, Shift (.tup [.agg [.int .i64 0, .nilsl, .nilsl, .nilsl], I a, I b]) h' r1 g ∧ QA r.1.o (fun y => .tup [y, I r.2.1, I r.2.2]) r1 l ∧ New h l g := by
  subst hr
  exact own_zero zTape_o (wsub_tup [] [_, _]) hl
theorem tape_fin {h0 h F : Heap} {nb : Nat} {bx : RSt → Option Nat → Option Nat → Option Nat → HObj} {S : RSt} {om og ov : Option Nat} {inp : Int} {r : DTape × Int × Int} (hr : r = (S.t inp, 0, 0)) (H : RecG bx h0 nb S om og ov h) (hl : h.le F) :
    ∃ r1 g l, Shift (.tup [.agg [I inp, onil 4 S.code.length om, onil 2 S.guards.length og, onil 1 S.vals.length ov], I 0, I 0]) F r1 g ∧ QA r.1.o (fun y => .tup [y, I r.2.1, I r.2.2]) r1 l ∧ New h0 l g := by
  subst hr
  obtain ⟨r1, g, l, h1, h2, h3⟩ := H.own inp
  exact ⟨r1, g, l, Shift.trans (Shift.of (Sub.refl _) hl) h1, h2, h3⟩
open Go.Proofs
set_option linter.unusedVariables false
set_option linter.unusedSimpArgs false
def keep41 : List Nat := [0, 2, 3, 4, 5, 6, 38, 45, 61, 68, 82, 89, 102]
def ib41 : List Nat := []
def mk41 : Marks := fun id => match id with | 7 => ([], (.op 0 (.op 1 (.op 2 (.op 3 (.op 4 (.op 5 (.op 6 (.op 7 (.op 8 (.op 9 (.op 10 (.op 11 (.op 12 (.op 13 .nil)))))))))))))), []) | _ => ([], .nil, [])
set_option maxRecDepth 100000 in
theorem l04Ok (t : DTape) (st : Int) (hc : t.fCode.length ≤ 1048576) (hg : t.fGuards.length ≤ 1048576) (ho : t.fOuts.length ≤ 1048576) : Fn0 Tryd.prog 41 [.ip 5 [t.c ++ [I st]] 0 0] (.bool (decide t.ok)) := by
  have no : ¬ t.ok → false = decide t.ok := fun q => (decide_eq_false q).symm
  rw [DTape.c_eq]
  simp only [List.cons_append, List.nil_append]
  refine fn0F 103 keep41 ib41 mk41 mix Tryd.func41 rfl (by kernel_rfl) (by simp) fun h => ?_
  simp (maxSteps := 1000000) -dsimp -implicitDefEqProofs only [go_sem, ↓reduceIte, keep41, ib41, mk41, Tryd.f41]
  intro _
  first | refine HFnF.mk (l00In t.fInputs 0 12) ?_ | refine CallSF.mk (l00In t.fInputs 0 12) ?_ | refine HFnF.mkAt (l00In t.fInputs 0 12) ?_ | refine CallSF.mk (FnAt.fn0 (l00In t.fInputs 0 12)) ?_
  simp (maxSteps := 1000000) -dsimp -implicitDefEqProofs only [go_sem, ↓reduceIte, keep41, ib41, mk41, Tryd.f41]
  repeat' (with_reducible first | intro _ | refine And.intro ?_ ?_)
  · first | refine HFnF.mk (l00In t.fOuts.length 1 12) ?_ | refine CallSF.mk (l00In t.fOuts.length 1 12) ?_ | refine HFnF.mkAt (l00In t.fOuts.length 1 12) ?_ | refine CallSF.mk (FnAt.fn0 (l00In t.fOuts.length 1 12)) ?_
    simp (maxSteps := 1000000) -dsimp -implicitDefEqProofs only [go_sem, ↓reduceIte, keep41, ib41, mk41, Tryd.f41]
    repeat' (with_reducible first | intro _ | refine And.intro ?_ ?_)
    · exact no fun q => by have := q.lens; omega
    have e1 : IntKind.i64.wrap ((t.fCode.length : Int) - 1) = t.fCode.length - 1 := IntWalk.i64_in _ (by omega)
    have el : ∀ {l : List Int}, l = l.map fun n => n := fun {l} => by simp
    refine loopF (keep := keep41) (ib := ib41) (mk := mk41) mix (by kernel_rfl) (fun k : Nat => [(0, .ip 5 [[I t.fInputs, sls 4 DInstr.c t.fCode, sls 2 DGuard.c t.fGuards, ints t.fOuts, I st]] 0 0), (3, I t.fCode.length), (4, I k)]) (fun _ => h) (fun k => k ≤ t.fCode.length ∧ ∀ (j : Nat) (hj : j < t.fCode.length), j < k → insOK t.fCode[j] j t.fInputs) (fun k => t.fCode.length - k) 0 (by simp [SatL, tget, Heap.le_refl]) ?_
    intro k ⟨hk, hp⟩
    rcases Nat.lt_or_ge k t.fCode.length with hlt | hge
    · have ea : t.fCode[k]? = some t.fCode[k] := List.getElem?_eq_getElem hlt
      have hins := l04Instr t.fCode[k] k t.fInputs (by omega) (by omega)
      rw [DInstr.c_eq] at hins
      simp (maxSteps := 1000000) -dsimp -implicitDefEqProofs only [go_sem, ↓reduceIte, keep41, ib41, mk41, Tryd.f41, ea, DInstr.c_eq]
      repeat' (with_reducible first | intro _ | refine And.intro ?_ ?_)
      all_goals try omega
      first | refine HFnF.mk (hins) ?_ | refine CallSF.mk (hins) ?_ | refine HFnF.mkAt (hins) ?_ | refine CallSF.mk (FnAt.fn0 (hins)) ?_
      simp (maxSteps := 1000000) -dsimp -implicitDefEqProofs only [go_sem, ↓reduceIte, keep41, ib41, mk41, Tryd.f41]
      repeat' (with_reducible first | intro _ | refine And.intro ?_ ?_)
      · rename_i hq
        exact no fun q => hq (q.code k hlt)
      · rename_i hq
        refine ⟨k + 1, ?_⟩
        repeat' (with_reducible refine And.intro ?_ ?_)
        all_goals try (rw [IntWalk.i64_in _ (by omega)]; first | rfl | omega)
        all_goals try omega
        all_goals try (repeat' (with_reducible first | exact Heap.le_refl _ | refine (le_upd (by first | assumption | exact And.right (by assumption) | exact upd_none.2 (by assumption))).2 ?_))
        intro j hj hjk
        rcases Nat.lt_succ_iff_lt_or_eq.1 hjk with z | rfl
        · exact hp j hj z
        · exact hq
    have hk' : k = t.fCode.length := by omega
    subst hk'
    have hcode : codesOK t.fInputs t.fCode := fun j hj => hp j hj hj
    simp (maxSteps := 1000000) -dsimp -implicitDefEqProofs only [go_sem, ↓reduceIte, keep41, ib41, mk41, Tryd.f41, Nat.lt_irrefl]
    intro _
    refine loopF (keep := keep41) (ib := ib41) (mk := mk41) mix (by kernel_rfl) (fun k : Nat => [(0, .ip 5 [[I t.fInputs, sls 4 DInstr.c t.fCode, sls 2 DGuard.c t.fGuards, ints t.fOuts, I st]] 0 0), (3, I t.fCode.length), (5, I k)]) (fun _ => h) (fun k => k ≤ t.fGuards.length ∧ ∀ g ∈ t.fGuards.take k, 0 ≤ g.fReg ∧ g.fReg ≤ (t.fCode.length : Int) - 1) (fun k => t.fGuards.length - k) 0 (by simp [SatL, tget, Heap.le_refl]) ?_
    intro k ⟨hk2, hp2⟩
    rcases Nat.lt_or_ge k t.fGuards.length with hlt | hge
    · have ea : t.fGuards[k]? = some t.fGuards[k] := List.getElem?_eq_getElem hlt
      have hins := l00In t.fGuards[k].fReg 0 (t.fCode.length - 1)
      simp (maxSteps := 1000000) -dsimp -implicitDefEqProofs only [go_sem, ↓reduceIte, keep41, ib41, mk41, Tryd.f41, ea, DGuard.c_eq, e1]
      repeat' (with_reducible first | intro _ | refine And.intro ?_ ?_)
      all_goals try omega
      first | refine HFnF.mk (hins) ?_ | refine CallSF.mk (hins) ?_ | refine HFnF.mkAt (hins) ?_ | refine CallSF.mk (FnAt.fn0 (hins)) ?_
      simp (maxSteps := 1000000) -dsimp -implicitDefEqProofs only [go_sem, ↓reduceIte, keep41, ib41, mk41, Tryd.f41]
      repeat' (with_reducible first | intro _ | refine And.intro ?_ ?_)
      · rename_i hq
        exact no fun q => hq (q.gds _ (List.getElem_mem hlt))
      · rename_i hq
        refine ⟨k + 1, ?_⟩
        repeat' (with_reducible refine And.intro ?_ ?_)
        all_goals try (rw [IntWalk.i64_in _ (by omega)]; first | rfl | omega)
        all_goals try omega
        all_goals try (repeat' (with_reducible first | exact Heap.le_refl _ | refine (le_upd (by first | assumption | exact And.right (by assumption) | exact upd_none.2 (by assumption))).2 ?_))
        exact all_step hlt hp2 hq
    have hk' : k = t.fGuards.length := by omega
    subst hk'
    rw [List.take_length] at hp2
    simp (maxSteps := 1000000) -dsimp -implicitDefEqProofs only [go_sem, ↓reduceIte, keep41, ib41, mk41, Tryd.f41, Nat.lt_irrefl]
    intro _
    refine loopF (keep := keep41) (ib := ib41) (mk := mk41) mix (by kernel_rfl) (fun k : Nat => [(0, .ip 5 [[I t.fInputs, sls 4 DInstr.c t.fCode, sls 2 DGuard.c t.fGuards, ints t.fOuts, I st]] 0 0), (3, I t.fCode.length), (6, I k)]) (fun _ => h) (fun k => k ≤ t.fOuts.length ∧ ∀ g ∈ t.fOuts.take k, 0 ≤ g ∧ g ≤ (t.fCode.length : Int) - 1) (fun k => t.fOuts.length - k) 0 (by simp [SatL, tget, Heap.le_refl]) ?_
    intro k ⟨hk3, hp3⟩
    rcases Nat.lt_or_ge k t.fOuts.length with hlt | hge
    · have ea : t.fOuts[k]? = some t.fOuts[k] := List.getElem?_eq_getElem hlt
      have hins := l00In t.fOuts[k] 0 (t.fCode.length - 1)
      simp (maxSteps := 1000000) -dsimp -implicitDefEqProofs only [go_sem, ↓reduceIte, keep41, ib41, mk41, Tryd.f41, ea, e1]
      repeat' (with_reducible first | intro _ | refine And.intro ?_ ?_)
      all_goals try omega
      first | refine HFnF.mk (hins) ?_ | refine CallSF.mk (hins) ?_ | refine HFnF.mkAt (hins) ?_ | refine CallSF.mk (FnAt.fn0 (hins)) ?_
      simp (maxSteps := 1000000) -dsimp -implicitDefEqProofs only [go_sem, ↓reduceIte, keep41, ib41, mk41, Tryd.f41]
      repeat' (with_reducible first | intro _ | refine And.intro ?_ ?_)
      · rename_i hq
        exact no fun q => hq (q.outs _ (List.getElem_mem hlt))
      · rename_i hq
        refine ⟨k + 1, ?_⟩
        repeat' (with_reducible refine And.intro ?_ ?_)
        all_goals try (rw [IntWalk.i64_in _ (by omega)]; first | rfl | omega)
        all_goals try omega
        all_goals try (repeat' (with_reducible first | exact Heap.le_refl _ | refine (le_upd (by first | assumption | exact And.right (by assumption) | exact upd_none.2 (by assumption))).2 ?_))
        exact all_step hlt hp3 hq
    have hk' : k = t.fOuts.length := by omega
    subst hk'
    rw [List.take_length] at hp3
    simp (maxSteps := 1000000) -dsimp -implicitDefEqProofs only [go_sem, ↓reduceIte, keep41, ib41, mk41, Tryd.f41, Nat.lt_irrefl]
    intro _
    exact (decide_eq_true ⟨by omega, by omega, hcode, hp2, hp3⟩).symm
  all_goals exact no fun q => by have := q.lens; have := q.inp; omega
def keep87 : List Nat := [0, 1, 3]
def ib87 : List Nat := []
def mk87 : Marks := fun _ => ([], .nil, [])
set_option maxRecDepth 100000 in
theorem ValidTape1 (r c : Int) (hc : 0 ≤ c ∧ c ≤ 3200) (n : Nat) {h0 : Heap} (hn : h0 n = some (.row 1 [[.v (I c)]])) : FnAt Tryd.prog 87 [I r, .op n 1 0 0] (.bool (!decide (0 ≤ r ∧ r ≤ c - 1))) h0 := by
  have hg (h : Heap) (hle : h0.le h) := Heap.le_get hle hn
  have e1 : IntKind.i64.wrap (c - 1) = c - 1 := IntWalk.i64_in _ (by omega)
  refine fnAtF 9 keep87 ib87 mk87 mix Tryd.func87 rfl (by kernel_rfl) (by simp) fun h hle => ?_
  simp (maxSteps := 1000000) -dsimp -implicitDefEqProofs only [go_sem, ↓reduceIte, keep87, ib87, mk87, Tryd.f87]
  have hn' := hg h hle
  simp (maxSteps := 1000000) -dsimp -implicitDefEqProofs only [go_sem, ↓reduceIte, keep87, ib87, mk87, Tryd.f87, hn', e1]
  first | refine HFnF.mk (within r 0 (c - 1)) ?_ | refine CallSF.mk (within r 0 (c - 1)) ?_ | refine HFnF.mkAt (within r 0 (c - 1)) ?_ | refine CallSF.mk (FnAt.fn0 (within r 0 (c - 1))) ?_
  simp (maxSteps := 1000000) -dsimp -implicitDefEqProofs only [go_sem, ↓reduceIte, keep87, ib87, mk87, Tryd.f87]
def keep44 : List Nat := [0, 1, 2, 3, 4, 5, 7, 30, 35, 36, 37, 38, 46, 49, 50, 51, 52, 60]
def ib44 : List Nat := [1]
def mk44 : Marks := fun _ => ([], .nil, [])
set_option maxRecDepth 100000 in
theorem ValidTape (t : DTape) (hc : t.fCode.length ≤ 1048576) (hg : t.fGuards.length ≤ 1048576) (ho : t.fOuts.length ≤ 1048576) : Fn0 Tryd.prog 44 [.agg t.c] (.bool (decide t.ok)) := by
  have no : ¬ t.ok → false = decide t.ok := fun q => (decide_eq_false q).symm
  rw [DTape.c_eq]
  refine fn0F 67 keep44 ib44 mk44 mix Tryd.func44 rfl (by kernel_rfl) (by simp) fun h => ?_
  simp (maxSteps := 1000000) -dsimp -implicitDefEqProofs only [go_sem, ↓reduceIte, keep44, ib44, mk44, Tryd.f44]
  first | refine HFnF.mk (within t.fInputs 0 12) ?_ | refine CallSF.mk (within t.fInputs 0 12) ?_ | refine HFnF.mkAt (within t.fInputs 0 12) ?_ | refine CallSF.mk (FnAt.fn0 (within t.fInputs 0 12)) ?_
  simp (maxSteps := 1000000) -dsimp -implicitDefEqProofs only [go_sem, ↓reduceIte, keep44, ib44, mk44, Tryd.f44]
  repeat' (with_reducible first | intro _ | refine And.intro ?_ ?_)
  · first | refine HFnF.mk (within t.fOuts.length 1 12) ?_ | refine CallSF.mk (within t.fOuts.length 1 12) ?_ | refine HFnF.mkAt (within t.fOuts.length 1 12) ?_ | refine CallSF.mk (FnAt.fn0 (within t.fOuts.length 1 12)) ?_
    simp (maxSteps := 1000000) -dsimp -implicitDefEqProofs only [go_sem, ↓reduceIte, keep44, ib44, mk44, Tryd.f44]
    repeat' (with_reducible first | intro _ | refine And.intro ?_ ?_)
    · exact no fun q => by have := q.lens; omega
    rename_i n hn _
    have e1 : IntKind.i64.wrap ((t.fCode.length : Int) - 1) = t.fCode.length - 1 := IntWalk.i64_in _ (by omega)
    rw [upd_upd]
    refine loopF (keep := keep44) (ib := ib44) (mk := mk44) mix (by kernel_rfl) (fun k : Nat => [(1, .ip 4 [[I t.fInputs, sls 4 DInstr.c t.fCode, sls 2 DGuard.c t.fGuards, ints t.fOuts]] 0 0), (3, .op n 1 0 0), (35, sls 4 DInstr.c t.fCode), (36, I t.fCode.length), (37, I k)]) (fun _ => upd h n (.row 1 [[.v (I t.fCode.length)]])) (fun k => k ≤ t.fCode.length ∧ ∀ (j : Nat) (hj : j < t.fCode.length), j < k → insOK t.fCode[j] j t.fInputs) (fun k => t.fCode.length - k) 0 (by simp [SatL, tget, Heap.le_refl]) ?_
    intro k ⟨hk, hp⟩
    rcases Nat.lt_or_ge k t.fCode.length with hlt | hge
    · have ea : t.fCode[k]? = some t.fCode[k] := List.getElem?_eq_getElem hlt
      have hins := isInstr t t.fCode[k] k (by omega) (by omega)
      rw [DInstr.c_eq, DTape.c_eq] at hins
      simp (maxSteps := 1000000) -dsimp -implicitDefEqProofs only [go_sem, ↓reduceIte, keep44, ib44, mk44, Tryd.f44, ea, DInstr.c_eq]
      repeat' (with_reducible first | intro _ | refine And.intro ?_ ?_)
      all_goals try omega
      rename_i b hbb
      have hle : ∀ X, (upd h n (.row 1 [[.v (I t.fCode.length)]])).le (upd (upd h n (.row 1 [[.v (I t.fCode.length)]])) b X) := fun X => Heap.le_upd (by rw [upd_ne _ _ _ _ hbb.1]; exact hbb.2) (Heap.le_refl _)
      have hle0 : ∀ X, h.le (upd (upd h n (.row 1 [[.v (I t.fCode.length)]])) b X) := fun X => Heap.le_trans (Heap.le_upd hn (Heap.le_refl _)) (hle X)
      rw [upd_upd]
      first | refine HFnF.mk (hins) ?_ | refine CallSF.mk (hins) ?_ | refine HFnF.mkAt (hins) ?_ | refine CallSF.mk (FnAt.fn0 (hins)) ?_
      simp (maxSteps := 1000000) -dsimp -implicitDefEqProofs only [go_sem, ↓reduceIte, keep44, ib44, mk44, Tryd.f44]
      refine ⟨fun hq => ⟨no fun q => hq (q.code k hlt), hle0 _⟩, fun hq => ⟨k + 1, IntWalk.i64_in _ (by omega), hle _, ⟨by omega, ?_⟩, by omega⟩⟩
      intro j hj hjk
      rcases Nat.lt_succ_iff_lt_or_eq.1 hjk with z | rfl
      · exact hp j hj z
      · exact hq
    have hk' : k = t.fCode.length := by omega
    subst hk'
    have hcode : codesOK t.fInputs t.fCode := fun j hj => hp j hj hj
    simp (maxSteps := 1000000) -dsimp -implicitDefEqProofs only [go_sem, ↓reduceIte, keep44, ib44, mk44, Tryd.f44, Nat.lt_irrefl]
    intro _
    refine loopF (keep := keep44) (ib := ib44) (mk := mk44) mix (by kernel_rfl) (fun k : Nat => [(1, .ip 4 [[I t.fInputs, sls 4 DInstr.c t.fCode, sls 2 DGuard.c t.fGuards, ints t.fOuts]] 0 0), (3, .op n 1 0 0), (49, sls 2 DGuard.c t.fGuards), (50, I t.fGuards.length), (51, I k)]) (fun _ => upd h n (.row 1 [[.v (I t.fCode.length)]])) (fun k => k ≤ t.fGuards.length ∧ ∀ g ∈ t.fGuards.take k, 0 ≤ g.fReg ∧ g.fReg ≤ (t.fCode.length : Int) - 1) (fun k => t.fGuards.length - k) 0 (by simp [SatL, tget, Heap.le_refl]) ?_
    intro k ⟨hk2, hp2⟩
    rcases Nat.lt_or_ge k t.fGuards.length with hlt | hge
    · have ea : t.fGuards[k]? = some t.fGuards[k] := List.getElem?_eq_getElem hlt
      have hins := within t.fGuards[k].fReg 0 (t.fCode.length - 1)
      simp (maxSteps := 1000000) -dsimp -implicitDefEqProofs only [go_sem, ↓reduceIte, keep44, ib44, mk44, Tryd.f44, ea, DGuard.c_eq]
      repeat' (with_reducible first | intro _ | refine And.intro ?_ ?_)
      all_goals try omega
      rename_i b hbb
      have hle : ∀ X, (upd h n (.row 1 [[.v (I t.fCode.length)]])).le (upd (upd h n (.row 1 [[.v (I t.fCode.length)]])) b X) := fun X => Heap.le_upd (by rw [upd_ne _ _ _ _ hbb.1]; exact hbb.2) (Heap.le_refl _)
      have hle0 : ∀ X, h.le (upd (upd h n (.row 1 [[.v (I t.fCode.length)]])) b X) := fun X => Heap.le_trans (Heap.le_upd hn (Heap.le_refl _)) (hle X)
      have d_b_n : ¬ b = n := hbb.1
      have d_n_b : ¬ n = b := Ne.symm d_b_n
      have e_b_n : (b = n) = False := eq_false d_b_n
      have e_n_b : (n = b) = False := eq_false d_n_b
      rw [upd_upd]
      simp (maxSteps := 1000000) -dsimp -implicitDefEqProofs only [go_sem, ↓reduceIte, keep44, ib44, mk44, Tryd.f44, e_b_n, e_n_b, upd_ne, e1]
      first | refine HFnF.mk (hins) ?_ | refine CallSF.mk (hins) ?_ | refine HFnF.mkAt (hins) ?_ | refine CallSF.mk (FnAt.fn0 (hins)) ?_
      simp (maxSteps := 1000000) -dsimp -implicitDefEqProofs only [go_sem, ↓reduceIte, keep44, ib44, mk44, Tryd.f44]
      refine ⟨fun hq => ⟨no fun q => hq (q.gds _ (List.getElem_mem hlt)), hle0 _⟩, fun hq => ⟨k + 1, IntWalk.i64_in _ (by omega), hle _, ⟨by omega, all_step hlt hp2 hq⟩, by omega⟩⟩
    have hk' : k = t.fGuards.length := by omega
    subst hk'
    rw [List.take_length] at hp2
    simp (maxSteps := 1000000) -dsimp -implicitDefEqProofs only [go_sem, ↓reduceIte, keep44, ib44, mk44, Tryd.f44, Nat.lt_irrefl]
    refine HFnF.mkAt (hasF_Int64S t.fOuts (fun r => !decide (0 ≤ r ∧ r ≤ (t.fCode.length : Int) - 1)) 87 [.op n 1 0 0] fun r _ => ValidTape1 r t.fCode.length (by omega) n (by simp [upd_get])) ?_
    simp (maxSteps := 1000000) -dsimp -implicitDefEqProofs only [go_sem, ↓reduceIte, keep44, ib44, mk44, Tryd.f44]
    refine ⟨?_, Heap.le_upd hn (Heap.le_refl _)⟩
    rw [any_not, decide_eq_decide]
    exact ⟨fun q => ⟨by omega, by omega, hcode, hp2, q⟩, fun q => q.outs⟩
  all_goals exact no fun q => by have := q.lens; have := q.inp; omega
open Go.Proofs
set_option linter.unusedVariables false
set_option linter.unusedSimpArgs false
theorem tapeRes_long {t : List UInt8} (h : 50000 < t.length) : tapeRes t = (zTape, 0, 2) := by rw [tapeRes, if_pos h]
theorem tap_new {h : Heap} {nb : Nat} (hn : h nb = none) : TapIn h nb TSt.none (upd h nb (.row 6 [[.v (I 0), .v .nilsl, .v .nilsl, .v .nilsl, .v (.bool false), .v (.bool false)]])) :=
  ⟨none, none, none, upd_same _ _ _, tapBox_odd _ _ _, rfl, rfl, rfl, fun n hn2 => by rcases hn2 with rfl | hn2; exact hn; simp at hn2, fun n h1 _ _ _ => upd_ne _ _ _ _ h1⟩
theorem stg_new {h : Heap} {nb : Nat} (hn : h nb = none) : StgIn h nb TSt.none (upd h nb (.row 5 [[.v (I 0), .v .nilsl, .v .nilsl, .v .nilsl, .v (I 0)]])) :=
  ⟨none, none, none, upd_same _ _ _, stgBox_odd _ _, rfl, rfl, rfl, fun n hn2 => by rcases hn2 with rfl | hn2; exact hn; simp at hn2, fun n h1 _ _ _ => upd_ne _ _ _ _ h1⟩
def keep17 : List Nat := [0, 2, 3, 4, 5, 6, 7, 8, 9, 12, 23, 24, 25, 26, 33, 38, 54]
def ib17 : List Nat := []
def mk17 : Marks := fun _ => ([], .nil, [])
set_option maxRecDepth 100000 in
theorem ReadTapeN (t : List UInt8) (ht : t.length ≤ 1048576) : FnN Tryd.prog 17 [.str t] (QA (tapeRes t).1.o (fun y => .tup [y, I (tapeRes t).2.1, I (tapeRes t).2.2])) := by
  by_cases hlen : 50000 < t.length
  · have hR := tapeRes_long hlen
    have c0 : ((t.length : Int) > 50000) = True := eq_true (by omega)
    refine fnNF 66 keep17 ib17 mk17 mix Tryd.func17 rfl (by kernel_rfl) (by simp) fun h => ?_
    simp (maxSteps := 1000000) -dsimp -implicitDefEqProofs only [go_sem, ↓reduceIte, keep17, ib17, mk17, Tryd.f17, c0]
    intro n2 z2 _
    rw [upd_upd]
    exact tape_err hR (by repeat' (first | exact Heap.le_refl _ | refine Heap.le_both ?_ | refine Heap.le_upd (by first | assumption | (rw [upd_ne _ _ _ _ (by assumption)]; assumption) | (rw [upd_ne _ _ _ _ (by assumption), upd_ne _ _ _ _ (by assumption)]; assumption) | (rw [upd_ne _ _ _ _ (by assumption), upd_ne _ _ _ _ (by assumption), upd_ne _ _ _ _ (by assumption)]; assumption)) ?_))
  · have hsp := splitC t 10 (by omega)
    have hsl := spB_len 10 t
    have hne := spB_ne 10 t
    have hR : tapeRes t = endT ((spB 10 t).getD ((spB 10 t).length - 1) []) ((spB 10 t).length - 1) (goT ((spB 10 t).take ((spB 10 t).length - 1)) 0 TSt.none) := by rw [tapeRes, if_neg hlen]
    generalize spB 10 t = ls at *
    obtain ⟨L, hL⟩ : ∃ L, ls.length = L + 1 := ⟨ls.length - 1, by have := List.length_pos_iff.2 hne; omega⟩
    have hLt : L < ls.length := by omega
    have eL : ls[L]? = some ls[L] := List.getElem?_eq_getElem hLt
    have eLt : ls[Int.toNat (L : Int)]? = some ls[L] := eL
    rw [hL, Nat.add_sub_cancel, List.getD_eq_getElem?_getD, eL, Option.getD_some] at hR
    have htl : (ls.take L).length = L := by rw [List.length_take]; omega
    have ew : IntKind.i64.wrap (((L + 1 : Nat) : Int) - 1) = L := by rw [IntWalk.i64_in _ (by omega)]; omega
    have hlen2 : ∀ s ∈ ls.take L, s.length ≤ 50000 := fun s hs => by have := hsl.2 s (List.mem_of_mem_take hs); omega
    have c0 : ((t.length : Int) > 50000) = False := eq_false (by omega)
    refine fnNF 66 keep17 ib17 mk17 mix Tryd.func17 rfl (by kernel_rfl) (by simp) fun h => ?_
    simp (maxSteps := 1000000) -dsimp -implicitDefEqProofs only [go_sem, ↓reduceIte, keep17, ib17, mk17, Tryd.f17, c0]
    intro n2 z2
    try simp (maxSteps := 1000000) -dsimp -implicitDefEqProofs only [go_sem, ↓reduceIte, keep17, ib17, mk17, Tryd.f17]
    intro _
    first | refine HFnF.mk (hsp) ?_ | refine CallSF.mk (hsp) ?_ | refine HFnF.mkAt (hsp) ?_ | refine CallSF.mk (FnAt.fn0 (hsp)) ?_
    simp (maxSteps := 1000000) -dsimp -implicitDefEqProofs only [go_sem, ↓reduceIte, keep17, ib17, mk17, Tryd.f17]
    simp (maxSteps := 1000000) -dsimp -implicitDefEqProofs only [go_sem, ↓reduceIte, keep17, ib17, mk17, Tryd.f17, hL, ew]
    intro nb q_nb
    have d_nb_n2 : ¬ nb = n2 := by first | exact q_nb.1 | exact q_nb | exact q_nb.2.1 | exact q_nb.2 | exact q_nb.2.2.1 | exact q_nb.2.2 | exact q_nb.2.2.2.1 | exact q_nb.2.2.2 | exact q_nb.2.2.2.2.1 | exact q_nb.2.2.2.2 | exact q_nb.2.2.2.2.2.1 | exact q_nb.2.2.2.2.2 | exact q_nb.2.2.2.2.2.2.1 | exact q_nb.2.2.2.2.2.2 | exact q_nb.2.2.2.2.2.2.2.1 | exact q_nb.2.2.2.2.2.2.2 | exact q_nb.2.2.2.2.2.2.2.2.1 | exact q_nb.2.2.2.2.2.2.2.2 | exact q_nb.2.2.2.2.2.2.2.2.2.1 | exact q_nb.2.2.2.2.2.2.2.2.2 | exact q_nb.2.2.2.2.2.2.2.2.2.2.1 | exact q_nb.2.2.2.2.2.2.2.2.2.2 | exact q_nb.2.2.2.2.2.2.2.2.2.2.2.1 | exact q_nb.2.2.2.2.2.2.2.2.2.2.2 | exact q_nb.2.2.2.2.2.2.2.2.2.2.2.2.1 | exact q_nb.2.2.2.2.2.2.2.2.2.2.2.2 | exact q_nb.2.2.2.2.2.2.2.2.2.2.2.2.2.1 | exact q_nb.2.2.2.2.2.2.2.2.2.2.2.2.2
    have e_nb_n2 : (nb = n2) = False := eq_false d_nb_n2
    have e_n2_nb : (n2 = nb) = False := eq_false (Ne.symm d_nb_n2)
    have d_n2_nb : ¬ n2 = nb := Ne.symm d_nb_n2
    have z_nb : h nb = none := by first | exact q_nb.1 | exact q_nb | exact q_nb.2.1 | exact q_nb.2 | exact q_nb.2.2.1 | exact q_nb.2.2 | exact q_nb.2.2.2.1 | exact q_nb.2.2.2 | exact q_nb.2.2.2.2.1 | exact q_nb.2.2.2.2 | exact q_nb.2.2.2.2.2.1 | exact q_nb.2.2.2.2.2 | exact q_nb.2.2.2.2.2.2.1 | exact q_nb.2.2.2.2.2.2 | exact q_nb.2.2.2.2.2.2.2.1 | exact q_nb.2.2.2.2.2.2.2 | exact q_nb.2.2.2.2.2.2.2.2.1 | exact q_nb.2.2.2.2.2.2.2.2 | exact q_nb.2.2.2.2.2.2.2.2.2.1 | exact q_nb.2.2.2.2.2.2.2.2.2 | exact q_nb.2.2.2.2.2.2.2.2.2.2.1 | exact q_nb.2.2.2.2.2.2.2.2.2.2 | exact q_nb.2.2.2.2.2.2.2.2.2.2.2.1 | exact q_nb.2.2.2.2.2.2.2.2.2.2.2 | exact q_nb.2.2.2.2.2.2.2.2.2.2.2.2.1 | exact q_nb.2.2.2.2.2.2.2.2.2.2.2.2 | exact q_nb.2.2.2.2.2.2.2.2.2.2.2.2.2.1 | exact q_nb.2.2.2.2.2.2.2.2.2.2.2.2.2
    rw [← List.map_take]
    generalize ls.take L = lt at *
    have hz : upd h n2 (.row 4 [[.v (I 0), .v .nilsl, .v .nilsl, .v .nilsl]]) nb = none := by rw [upd_ne _ _ _ _ d_nb_n2]; exact z_nb
    refine fun _ => ⟨by omega, by omega, ?_⟩
    intro _
    refine loopF (keep := keep17) (ib := ib17) (mk := mk17) mix (by kernel_rfl) (fun x : Nat × TSt × Heap => [(2, .op n2 4 0 0), (5, sls 1 (fun s => [.str s]) ls), (6, .op nb 6 0 0), (7, I L), (23, .sl 1 (lt.map fun s => [.str s]) false), (24, I L), (25, I x.1)]) (fun x => x.2.2) (fun x => x.1 ≤ L ∧ TapIn (upd h n2 (.row 4 [[.v (I 0), .v .nilsl, .v .nilsl, .v .nilsl]])) nb x.2.1 x.2.2 ∧ x.2.1.fit ∧ x.2.1.small x.1 ∧ goT lt 0 TSt.none = goT (lt.drop x.1) x.1 x.2.1) (fun x => L - x.1) (0, TSt.none, upd (upd h n2 (.row 4 [[.v (I 0), .v .nilsl, .v .nilsl, .v .nilsl]])) nb (.row 6 [[.v (I 0), .v .nilsl, .v .nilsl, .v .nilsl, .v (.bool false), .v (.bool false)]])) ⟨by simp [SatL, tget, htl], Heap.le_refl _, Nat.zero_le _, tap_new hz, TSt.fit_none, TSt.small_none, rfl⟩ ?_
    rintro ⟨k, S, g⟩ ⟨hk, hT, hfit, hsm, hgo⟩
    simp only at hk hT hfit hsm hgo ⊢
    rcases Nat.lt_or_ge k L with hlt | hge
    · have hkl : k < lt.length := by omega
      have ea : lt[k]? = some lt[k] := List.getElem?_eq_getElem hkl
      have hll := hlen2 _ (List.getElem_mem hkl)
      simp (maxSteps := 1000000) -dsimp -implicitDefEqProofs only [go_sem, ↓reduceIte, keep17, ib17, mk17, Tryd.f17, ea]
      refine ⟨fun _ => ⟨hkl, HFnF.mkH (tline hT hfit lt[k] hll (by have := hsm.1; omega) (by have := hsm.2.1; omega)) ?_⟩, fun q => absurd hlt q⟩
      rintro r_ h' ⟨rfl, hle, hS⟩
      have hb2 : h' n2 = some (.row 4 [[.v (I 0), .v .nilsl, .v .nilsl, .v .nilsl]]) := Heap.le_get hle (upd_same ..)
      cases e : lineT lt[k] S with
      | none =>
        simp (maxSteps := 1000000) -dsimp -implicitDefEqProofs only [go_sem, ↓reduceIte, keep17, ib17, mk17, Tryd.f17, hb2, Option.isSome_none]
        rw [IntWalk.i64_in ((k : Int) + 1) (by omega)]
        exact tape_err (by rw [hR, hgo, goT_bad hkl e]; rfl) (Heap.le_upd z2 (Heap.le_trans (Heap.le_upd z2 (Heap.le_refl _)) hle))
      | some S' =>
        simp (maxSteps := 1000000) -dsimp -implicitDefEqProofs only [go_sem, ↓reduceIte, keep17, ib17, mk17, Tryd.f17, hb2, Option.isSome_some]
        exact ⟨(k + 1, S', h'), IntWalk.i64_in _ (by omega), Heap.le_refl _, ⟨by omega, hS S' e, lineT_fit hfit e, lineT_small hll hsm e, hgo.trans (goT_ok hkl e)⟩, by simp only; omega⟩
    · have hk' : k = L := by omega
      rw [hgo, hk', List.drop_of_length_le (by omega), goT_nil] at hR
      have hle := hT.le
      obtain ⟨om, og, ov, H⟩ := hT
      have hb := H.box
      unfold tapBox at hb
      have hkn : ¬ k < L := by omega
      have hb2 : g n2 = some (.row 4 [[.v (I 0), .v .nilsl, .v .nilsl, .v .nilsl]]) := Heap.le_get hle (upd_same ..)
      have hhle : ∀ X, h.le (upd g n2 X) := fun X => Heap.le_upd z2 (Heap.le_trans (Heap.le_upd z2 (Heap.le_refl _)) hle)
      by_cases hE : ls[L] = [] ∧ S.stage = 3
      · have e1 : (ls[L] = []) = True := eq_true hE.1
        have e3 : decide (S.stage = 3) = true := decide_eq_true hE.2
        simp (maxSteps := 1000000) -dsimp -implicitDefEqProofs only [go_sem, ↓reduceIte, keep17, ib17, mk17, Tryd.f17, hb, hb2, eL, eLt, e1, e3, hkn]
        refine ⟨hLt, HFnF.lend0 (ValidTape (S.r.t S.inp) (by have := hsm.1; show S.code.length ≤ _; omega) (by have := hsm.2.1; show S.guards.length ≤ _; omega) (by have := hsm.2.2; show S.outs.length ≤ _; omega)) (ViewL.cons (H.view S.inp) ViewL.nil) rfl ?_⟩
        have hne2 : ¬ (¬ ls[L] = [] ∨ ¬ S.stage = 3) := by rintro (z | z); exact z hE.1; exact z hE.2
        simp (maxSteps := 1000000) -dsimp -implicitDefEqProofs only [go_sem, ↓reduceIte, keep17, ib17, mk17, Tryd.f17, hb, hb2, onil_flat, onil_cells, Bool.and_self]
        repeat' (with_reducible first | intro _ | refine And.intro ?_ ?_)
        all_goals first
          | skip
            rename_i hq
            exact tape_err (hR.trans ((if_neg hne2).trans (if_neg hq))) (hhle _)
          | skip
            rename_i hq
            obtain ⟨g2, rfl, hg2n, HB⟩ := H.base z2
            rw [upd_upd]
            exact tape_fin (S := S.r) (inp := S.inp) (hR.trans ((if_neg hne2).trans (if_pos hq))) HB (Heap.le_upd hg2n (Heap.le_refl _))
      · have hR2 : tapeRes t = (zTape, (L : Int) + 1, 5) := hR.trans (if_pos (by
          by_cases z : ls[L] = []
          · exact .inr fun w => hE ⟨z, w⟩
          · exact .inl z))
        simp (maxSteps := 1000000) -dsimp -implicitDefEqProofs only [go_sem, ↓reduceIte, keep17, ib17, mk17, Tryd.f17, hb, hb2, eL, eLt, hkn]
        rw [IntWalk.i64_in ((L : Int) + 1) (by omega)]
        exact ⟨hLt, fun z => ⟨fun w => tape_err hR2 (hhle _), fun w => absurd ⟨z, w⟩ hE⟩, fun z => tape_err hR2 (hhle _)⟩
def keep16 : List Nat := [0, 2, 3, 4, 5, 6, 7, 8, 11, 22, 34, 46, 54, 62]
def ib16 : List Nat := []
def mk16 : Marks := fun _ => ([], .nil, [])
set_option maxRecDepth 100000 in
theorem specReadTape (t : List UInt8) (ht : t.length ≤ 1048576) : FnN Tryd.prog 16 [.str t] (QA (tapeRes t).1.o (fun y => .tup [y, I (tapeRes t).2.1, I (tapeRes t).2.2])) := by
  by_cases hlen : 50000 < t.length
  · have hR := tapeRes_long hlen
    have c0 : ((t.length : Int) > 50000) = True := eq_true (by omega)
    refine fnNF 68 keep16 ib16 mk16 mix Tryd.func16 rfl (by kernel_rfl) (by simp) fun h => ?_
    simp (maxSteps := 1000000) -dsimp -implicitDefEqProofs only [go_sem, ↓reduceIte, keep16, ib16, mk16, Tryd.f16, c0]
    intro n2 z2 _
    rw [upd_upd]
    exact tape_err hR (by repeat' (first | exact Heap.le_refl _ | refine Heap.le_both ?_ | refine Heap.le_upd (by first | assumption | (rw [upd_ne _ _ _ _ (by assumption)]; assumption) | (rw [upd_ne _ _ _ _ (by assumption), upd_ne _ _ _ _ (by assumption)]; assumption) | (rw [upd_ne _ _ _ _ (by assumption), upd_ne _ _ _ _ (by assumption), upd_ne _ _ _ _ (by assumption)]; assumption)) ?_))
  · have hsp := l01Split t 10 (by omega)
    have hsl := spB_len 10 t
    have hne := spB_ne 10 t
    have hR : tapeRes t = endT ((spB 10 t).getD ((spB 10 t).length - 1) []) ((spB 10 t).length - 1) (goT ((spB 10 t).take ((spB 10 t).length - 1)) 0 TSt.none) := by rw [tapeRes, if_neg hlen]
    generalize spB 10 t = ls at *
    obtain ⟨L, hL⟩ : ∃ L, ls.length = L + 1 := ⟨ls.length - 1, by have := List.length_pos_iff.2 hne; omega⟩
    have hLt : L < ls.length := by omega
    have eL : ls[L]? = some ls[L] := List.getElem?_eq_getElem hLt
    have eLt : ls[Int.toNat (L : Int)]? = some ls[L] := eL
    rw [hL, Nat.add_sub_cancel, List.getD_eq_getElem?_getD, eL, Option.getD_some] at hR
    have htl : (ls.take L).length = L := by rw [List.length_take]; omega
    have ew : IntKind.i64.wrap (((L + 1 : Nat) : Int) - 1) = L := by rw [IntWalk.i64_in _ (by omega)]; omega
    have hlen2 : ∀ s ∈ ls.take L, s.length ≤ 50000 := fun s hs => by have := hsl.2 s (List.mem_of_mem_take hs); omega
    have c0 : ((t.length : Int) > 50000) = False := eq_false (by omega)
    refine fnNF 68 keep16 ib16 mk16 mix Tryd.func16 rfl (by kernel_rfl) (by simp) fun h => ?_
    simp (maxSteps := 1000000) -dsimp -implicitDefEqProofs only [go_sem, ↓reduceIte, keep16, ib16, mk16, Tryd.f16, c0]
    intro n2 z2
    try simp (maxSteps := 1000000) -dsimp -implicitDefEqProofs only [go_sem, ↓reduceIte, keep16, ib16, mk16, Tryd.f16]
    intro _
    intro nb q_nb
    have d_nb_n2 : ¬ nb = n2 := by first | exact q_nb.1 | exact q_nb | exact q_nb.2.1 | exact q_nb.2 | exact q_nb.2.2.1 | exact q_nb.2.2 | exact q_nb.2.2.2.1 | exact q_nb.2.2.2 | exact q_nb.2.2.2.2.1 | exact q_nb.2.2.2.2 | exact q_nb.2.2.2.2.2.1 | exact q_nb.2.2.2.2.2 | exact q_nb.2.2.2.2.2.2.1 | exact q_nb.2.2.2.2.2.2 | exact q_nb.2.2.2.2.2.2.2.1 | exact q_nb.2.2.2.2.2.2.2 | exact q_nb.2.2.2.2.2.2.2.2.1 | exact q_nb.2.2.2.2.2.2.2.2 | exact q_nb.2.2.2.2.2.2.2.2.2.1 | exact q_nb.2.2.2.2.2.2.2.2.2 | exact q_nb.2.2.2.2.2.2.2.2.2.2.1 | exact q_nb.2.2.2.2.2.2.2.2.2.2 | exact q_nb.2.2.2.2.2.2.2.2.2.2.2.1 | exact q_nb.2.2.2.2.2.2.2.2.2.2.2 | exact q_nb.2.2.2.2.2.2.2.2.2.2.2.2.1 | exact q_nb.2.2.2.2.2.2.2.2.2.2.2.2 | exact q_nb.2.2.2.2.2.2.2.2.2.2.2.2.2.1 | exact q_nb.2.2.2.2.2.2.2.2.2.2.2.2.2
    have e_nb_n2 : (nb = n2) = False := eq_false d_nb_n2
    have e_n2_nb : (n2 = nb) = False := eq_false (Ne.symm d_nb_n2)
    have d_n2_nb : ¬ n2 = nb := Ne.symm d_nb_n2
    have z_nb : h nb = none := by first | exact q_nb.1 | exact q_nb | exact q_nb.2.1 | exact q_nb.2 | exact q_nb.2.2.1 | exact q_nb.2.2 | exact q_nb.2.2.2.1 | exact q_nb.2.2.2 | exact q_nb.2.2.2.2.1 | exact q_nb.2.2.2.2 | exact q_nb.2.2.2.2.2.1 | exact q_nb.2.2.2.2.2 | exact q_nb.2.2.2.2.2.2.1 | exact q_nb.2.2.2.2.2.2 | exact q_nb.2.2.2.2.2.2.2.1 | exact q_nb.2.2.2.2.2.2.2 | exact q_nb.2.2.2.2.2.2.2.2.1 | exact q_nb.2.2.2.2.2.2.2.2 | exact q_nb.2.2.2.2.2.2.2.2.2.1 | exact q_nb.2.2.2.2.2.2.2.2.2 | exact q_nb.2.2.2.2.2.2.2.2.2.2.1 | exact q_nb.2.2.2.2.2.2.2.2.2.2 | exact q_nb.2.2.2.2.2.2.2.2.2.2.2.1 | exact q_nb.2.2.2.2.2.2.2.2.2.2.2 | exact q_nb.2.2.2.2.2.2.2.2.2.2.2.2.1 | exact q_nb.2.2.2.2.2.2.2.2.2.2.2.2 | exact q_nb.2.2.2.2.2.2.2.2.2.2.2.2.2.1 | exact q_nb.2.2.2.2.2.2.2.2.2.2.2.2.2
    first | refine HFnF.mk (hsp) ?_ | refine CallSF.mk (hsp) ?_ | refine HFnF.mkAt (hsp) ?_ | refine CallSF.mk (FnAt.fn0 (hsp)) ?_
    simp (maxSteps := 1000000) -dsimp -implicitDefEqProofs only [go_sem, ↓reduceIte, keep16, ib16, mk16, Tryd.f16]
    simp (maxSteps := 1000000) -dsimp -implicitDefEqProofs only [go_sem, ↓reduceIte, keep16, ib16, mk16, Tryd.f16, hL, ew]
    have hz : upd h n2 (.row 4 [[.v (I 0), .v .nilsl, .v .nilsl, .v .nilsl]]) nb = none := by rw [upd_ne _ _ _ _ d_nb_n2]; exact z_nb
    have hltk : ∀ (k : Nat) (hk : k < (ls.take L).length), ls[k]? = some (ls.take L)[k] := fun k hk => by rw [List.getElem_take]; exact List.getElem?_eq_getElem _
    generalize ls.take L = lt at *
    intro _
    refine loopF (keep := keep16) (ib := ib16) (mk := mk16) mix (by kernel_rfl) (fun x : Nat × TSt × Heap => [(2, .op n2 4 0 0), (5, .op nb 5 0 0), (6, sls 1 (fun s => [.str s]) ls), (7, I L), (8, I x.1)]) (fun x => x.2.2) (fun x => x.1 ≤ L ∧ StgIn (upd h n2 (.row 4 [[.v (I 0), .v .nilsl, .v .nilsl, .v .nilsl]])) nb x.2.1 x.2.2 ∧ x.2.1.fit ∧ x.2.1.small x.1 ∧ goT lt 0 TSt.none = goT (lt.drop x.1) x.1 x.2.1) (fun x => L - x.1) (0, TSt.none, upd (upd h n2 (.row 4 [[.v (I 0), .v .nilsl, .v .nilsl, .v .nilsl]])) nb (.row 5 [[.v (I 0), .v .nilsl, .v .nilsl, .v .nilsl, .v (I 0)]])) ⟨by simp [SatL, tget, htl], Heap.le_refl _, Nat.zero_le _, stg_new hz, TSt.fit_none, TSt.small_none, rfl⟩ ?_
    rintro ⟨k, S, g⟩ ⟨hk, hT, hfit, hsm, hgo⟩
    simp only at hk hT hfit hsm hgo ⊢
    have cle : ((k : Int) ≤ L) = True := eq_true (by omega)
    rcases Nat.lt_or_ge k L with hlt | hge
    · have hkl : k < lt.length := by omega
      have ea := hltk k hkl
      have hll := hlen2 _ (List.getElem_mem hkl)
      have ceq : ((k : Int) = L) = False := eq_false (by omega)
      simp (maxSteps := 1000000) -dsimp -implicitDefEqProofs only [go_sem, ↓reduceIte, keep16, ib16, mk16, Tryd.f16, ea, cle, ceq]
      refine ⟨by omega, HFnF.mkH (sline hT lt[k] hll (by have := hsm.1; omega) (by have := hsm.2.1; omega)) ?_⟩
      rintro r_ h' ⟨rfl, hle, hS⟩
      have hb2 : h' n2 = some (.row 4 [[.v (I 0), .v .nilsl, .v .nilsl, .v .nilsl]]) := Heap.le_get hle (upd_same ..)
      cases e : lineT lt[k] S with
      | none =>
        simp (maxSteps := 1000000) -dsimp -implicitDefEqProofs only [go_sem, ↓reduceIte, keep16, ib16, mk16, Tryd.f16, hb2, Option.isSome_none]
        rw [IntWalk.i64_in ((k : Int) + 1) (by omega)]
        exact tape_err (by rw [hR, hgo, goT_bad hkl e]; rfl) (Heap.le_upd z2 (Heap.le_trans (Heap.le_upd z2 (Heap.le_refl _)) hle))
      | some S' =>
        simp (maxSteps := 1000000) -dsimp -implicitDefEqProofs only [go_sem, ↓reduceIte, keep16, ib16, mk16, Tryd.f16, hb2, Option.isSome_some]
        exact ⟨(k + 1, S', h'), IntWalk.i64_in _ (by omega), Heap.le_refl _, ⟨by omega, hS S' e, lineT_fit hfit e, lineT_small hll hsm e, hgo.trans (goT_ok hkl e)⟩, by simp only; omega⟩
    · have hk' : k = L := by omega
      rw [hgo, hk', List.drop_of_length_le (by omega), goT_nil] at hR
      subst hk'
      have hle := hT.le
      obtain ⟨om, og, ov, H⟩ := hT
      have hb := H.box
      unfold stgBox at hb
      have hb2 : g n2 = some (.row 4 [[.v (I 0), .v .nilsl, .v .nilsl, .v .nilsl]]) := Heap.le_get hle (upd_same ..)
      have hhle : ∀ X, h.le (upd g n2 X) := fun X => Heap.le_upd z2 (Heap.le_trans (Heap.le_upd z2 (Heap.le_refl _)) hle)
      by_cases z : ls[k] = []
      · have e1 : (ls[k] = []) = True := eq_true z
        by_cases w : S.stage = 3
        · have e3 : (S.stage = 3) = True := eq_true w
          simp (maxSteps := 1000000) -dsimp -implicitDefEqProofs only [go_sem, ↓reduceIte, keep16, ib16, mk16, Tryd.f16, hb, hb2, eL, e1, e3]
          refine ⟨fun _ => ⟨by omega, ?_⟩, fun q => absurd (Nat.le_refl _) q⟩
          refine HFnF.lend0 (l04Ok (S.r.t S.inp) S.stage (by have := hsm.1; show S.code.length ≤ _; omega) (by have := hsm.2.1; show S.guards.length ≤ _; omega) (by have := hsm.2.2; show S.outs.length ≤ _; omega)) (ViewL.cons H.viewp ViewL.nil) rfl ?_
          have hne2 : ¬ (¬ ls[k] = [] ∨ ¬ S.stage = 3) := by rintro (y | y); exact y z; exact y w
          simp (maxSteps := 1000000) -dsimp -implicitDefEqProofs only [go_sem, ↓reduceIte, keep16, ib16, mk16, Tryd.f16, hb, hb2, onil_flat, onil_cells, Bool.and_self]
          repeat' (with_reducible first | intro _ | refine And.intro ?_ ?_)
          all_goals first
            | skip
              rename_i hq
              exact tape_err (hR.trans ((if_neg hne2).trans (if_neg hq))) (hhle _)
            | skip
              rename_i hq
              obtain ⟨g2, rfl, hg2n, HB⟩ := H.base z2
              rw [upd_upd]
              exact tape_fin (S := S.r) (inp := S.inp) (hR.trans ((if_neg hne2).trans (if_pos hq))) HB (Heap.le_upd hg2n (Heap.le_refl _))
        · have hR2 : tapeRes t = (zTape, (k : Int) + 1, 5) := hR.trans (if_pos (.inr w))
          have e3 : (S.stage = 3) = False := eq_false w
          simp (maxSteps := 1000000) -dsimp -implicitDefEqProofs only [go_sem, ↓reduceIte, keep16, ib16, mk16, Tryd.f16, hb, hb2, eL, e1, e3]
          rw [IntWalk.i64_in ((k : Int) + 1) (by omega)]
          exact ⟨fun _ => ⟨by omega, tape_err hR2 (hhle _)⟩, fun q => absurd (Nat.le_refl _) q⟩
      · have hR2 : tapeRes t = (zTape, (k : Int) + 1, 5) := hR.trans (if_pos (.inl z))
        have e1 : (ls[k] = []) = False := eq_false z
        simp (maxSteps := 1000000) -dsimp -implicitDefEqProofs only [go_sem, ↓reduceIte, keep16, ib16, mk16, Tryd.f16, hb, hb2, eL, e1]
        rw [IntWalk.i64_in ((k : Int) + 1) (by omega)]
        exact ⟨fun _ => ⟨by omega, tape_err hR2 (hhle _)⟩, fun q => absurd (Nat.le_refl _) q⟩
theorem szs_zero {α : Type} {s : α → Nat} (h : ∀ x, s x = 0) (l : List α) : szs s l = l.length := by
  rw [szs_eq, show l.map s = l.map fun _ => 0 from List.map_congr_left fun x _ => h x]
  induction l with
  | nil => rfl
  | cons a l ih => rw [List.map_cons, List.sum_cons, List.length_cons]; omega
theorem tapeRes_s (t : List UInt8) : (tapeRes t).1.s ≤ 10000 := by
  have hz : zTape.s ≤ 10000 := Nat.zero_le _
  unfold tapeRes
  split
  · exact hz
  · generalize goT _ _ _ = q
    cases q with
    | inr i => exact hz
    | inl S =>
      show (if _ then _ else _ : DTape × Int × Int).1.s ≤ _
      split
      · exact hz
      · split
        · rename_i hq
          have h1 := hq.lens
          show (S.r.t S.inp).s ≤ _
          rw [DTape.s_eq, szs_zero DInstr.s_eq, szs_zero DGuard.s_eq]
          omega
        · exact hz
open Go.Proofs
set_option linter.unusedVariables false
set_option linter.unusedSimpArgs false
def keep5 : List Nat := [0, 2, 3, 4, 5, 6, 7, 8, 9, 10, 11, 12, 13, 16, 42, 50, 53, 73, 78, 81]
def ib5 : List Nat := []
def mk5 : Marks := fun _ => ([], .nil, [])
set_option maxRecDepth 100000 in
set_option maxHeartbeats 4000000 in
theorem law_FnExactReadTape (t : (List UInt8)) (h : Heap) : HFn Tryd.prog 5 [(.str t)] h fun r _ => r = .bool true := by
  refine fnHF 82 keep5 ib5 mk5 mix Tryd.func5 rfl (by kernel_rfl) (by simp) ?_
  simp (maxSteps := 1000000) -dsimp -implicitDefEqProofs only [go_sem, ↓reduceIte, keep5, ib5, mk5, Tryd.f5, Bool.true_or, Bool.or_true, Bool.false_or, Bool.or_false, protF, eq_self, decide_true, Bool.not_true, bne_self_eq_false, upd_upd, upd_get, OV.map_val, OV.map_val_nil, OV.val_v, DTape.c_eq]
  repeat' (with_reducible first | intro _ | refine And.intro ?_ ?_)
  all_goals try (first | exact ⟨_, Heap.le_refl _, rfl⟩ | exact ⟨_, Heap.le_refl _⟩)
  all_goals try omega
  have hz_t : t.length ≤ 1048576 := by omega
  have hseal := QA.fn0W (ReadTapeN t (by omega)) (fun e he => DTape.o_dat he) (wrap_tup [] [I (tapeRes t).2.1, I (tapeRes t).2.2])
  first | refine HFnF.mk (QA.fn0W (specReadTape t (by omega)) (fun e he => DTape.o_dat he) (wrap_tup [] [I (tapeRes t).2.1, I (tapeRes t).2.2])) ?_ | refine CallSF.mk (QA.fn0W (specReadTape t (by omega)) (fun e he => DTape.o_dat he) (wrap_tup [] [I (tapeRes t).2.1, I (tapeRes t).2.2])) ?_
  simp (maxSteps := 1000000) -dsimp -implicitDefEqProofs only [go_sem, ↓reduceIte, keep5, ib5, mk5, Tryd.f5, Bool.true_or, Bool.or_true, Bool.false_or, Bool.or_false, protF, eq_self, decide_true, Bool.not_true, bne_self_eq_false, upd_upd, upd_get, OV.map_val, OV.map_val_nil, OV.val_v, DTape.c_eq]
  intro nw0 qnw0
  have z0_nw0 := qnw0
  clear qnw0
  try simp (maxSteps := 1000000) -dsimp -implicitDefEqProofs only [go_sem, ↓reduceIte, keep5, ib5, mk5, Tryd.f5, Bool.true_or, Bool.or_true, Bool.false_or, Bool.or_false, protF, eq_self, decide_true, Bool.not_true, bne_self_eq_false, upd_upd, upd_get, OV.map_val, OV.map_val_nil, OV.val_v, DTape.c_eq]
  refine HFnF.wl1 (ReadTapeN t (by omega)) (ViewL.cons (View.same _ _) ViewL.nil) (QA.solid (fun e he => DTape.o_sol _ e he) (fun x hx => by simp [HVal.solid, HVal.solidL, hx])) z0_nw0 ?_
  rintro r l1 g1 ⟨eg_, oeg, rfl, rfl⟩ w1 z1_nw0
  have oog := oeg
  obtain ⟨yg_1, yg_2, yg_3, rfl, og_1, og_2, og_3⟩ := oog
  have Hg_1 : Owns g1 (OV.rowsRow [.v (.int .i64 (tapeRes t).1.fInputs), yg_1, yg_2, yg_3]) := w1.owns
  have ndg := w1.nodup
  simp (maxSteps := 1000000) -dsimp -implicitDefEqProofs only [go_sem, ↓reduceIte, keep5, ib5, mk5, Tryd.f5, Bool.true_or, Bool.or_true, Bool.false_or, Bool.or_false, protF, eq_self, decide_true, Bool.not_true, bne_self_eq_false, upd_upd, upd_get, OV.map_val, OV.map_val_nil, OV.val_v, DTape.c_eq, og_1.flat, og_1.one, og_2.flat, og_2.one, og_3.flat, og_3.one]
  intro ng qng
  have dng_nw0 : ng ≠ nw0 := fun e => by
    first
      | exact qng.1 e
      | (rw [if_pos e] at qng; cases qng)
  have eng_nw0 : (ng = nw0) = False := eq_false dng_nw0
  have fng_nw0 : (nw0 = ng) = False := eq_false (fun e => dng_nw0 e.symm)
  first
    | (rw [if_neg dng_nw0] at qng)
    | (replace qng := qng.2)
  have z1_ng := qng
  clear qng
  try simp (maxSteps := 1000000) -dsimp -implicitDefEqProofs only [go_sem, ↓reduceIte, keep5, ib5, mk5, Tryd.f5, Bool.true_or, Bool.or_true, Bool.false_or, Bool.or_false, protF, eq_self, decide_true, Bool.not_true, bne_self_eq_false, upd_upd, upd_get, OV.map_val, OV.map_val_nil, OV.val_v, DTape.c_eq, eng_nw0, fng_nw0, og_1.flat, og_1.one, og_2.flat, og_2.one, og_3.flat, og_3.one]
  refine HFnF.lend0 (eq_Tape (tapeRes t).1 (tapeRes t).1) (ViewL.cons (View.aggD [.v (.int .i64 (tapeRes t).1.fInputs), yg_1, yg_2, yg_3] (DTape.o_dat oeg) (Owns.up2 z1_nw0 ⟨dng_nw0, z1_ng⟩ Hg_1)) (ViewL.cons (by first | exact View.same _ _ | (simp only [DTape.c_eq]; exact View.same _ _)) ViewL.nil)) rfl ?_
  simp (maxSteps := 1000000) -dsimp -implicitDefEqProofs only [go_sem, ↓reduceIte, keep5, ib5, mk5, Tryd.f5, Bool.true_or, Bool.or_true, Bool.false_or, Bool.or_false, protF, eq_self, decide_true, Bool.not_true, bne_self_eq_false, upd_upd, upd_get, OV.map_val, OV.map_val_nil, OV.val_v, DTape.c_eq, eng_nw0, fng_nw0, og_1.flat, og_1.one, og_2.flat, og_2.one, og_3.flat, og_3.one]
  repeat' (with_reducible first | intro _ | refine And.intro ?_ ?_)
  all_goals try (first | exact ⟨_, Heap.le_refl _, rfl⟩ | exact ⟨_, Heap.le_refl _⟩)
  all_goals try omega
  have hctg : OV.ctTop [.v (.int .i64 (tapeRes t).1.fInputs), yg_1, yg_2, yg_3] ≤ 4000000000000000000 := by have h1 := DTape.o_top _ _ oeg; have h2 := tapeRes_s t; omega
  refine HFnF.wc2 (mark_Tape _ [.v (.int .i64 (tapeRes t).1.fInputs), yg_1, yg_2, yg_3] 1 _ oeg (by omega) (by omega) (Owns.up2 z1_nw0 ⟨dng_nw0, z1_ng⟩ Hg_1) ndg) Hg_1 z1_nw0 ⟨dng_nw0, z1_ng⟩ ?_
  rintro g2 cg2 z2_nw0 z2_ng
  obtain ⟨ccg, hccg⟩ : ∃ z : Int, z = 1 + ((OV.ctTop [.v (.int .i64 (tapeRes t).1.fInputs), yg_1, yg_2, yg_3] : Nat) : Int) := ⟨_, rfl⟩
  rw [← hccg]
  simp (maxSteps := 1000000) -dsimp -implicitDefEqProofs only [go_sem, ↓reduceIte, keep5, ib5, mk5, Tryd.f5, Bool.true_or, Bool.or_true, Bool.false_or, Bool.or_false, protF, eq_self, decide_true, Bool.not_true, bne_self_eq_false, upd_upd, upd_get, OV.map_val, OV.map_val_nil, OV.val_v, DTape.c_eq, eng_nw0, fng_nw0, og_1.flat, og_1.one, og_2.flat, og_2.one, og_3.flat, og_3.one]
  repeat' (with_reducible first | intro _ | refine And.intro ?_ ?_)
  all_goals try (first | exact ⟨_, Heap.le_refl _, rfl⟩ | exact ⟨_, Heap.le_refl _⟩)
  all_goals try omega
  have hh := held_Tape _ [.v (.int .i64 (tapeRes t).1.fInputs), yg_1, yg_2, yg_3] 1 oeg (by omega) (by omega)
  rw [← hccg] at hh
  refine HFnF.lend0 hh (ViewL.cons (View.aggM 1 [.v (.int .i64 (tapeRes t).1.fInputs), yg_1, yg_2, yg_3] (Owns.up2 z2_nw0 ⟨dng_nw0, z2_ng⟩ cg2.owns)) (ViewL.cons (View.same _ _) ViewL.nil)) rfl ?_
  simp (maxSteps := 1000000) -dsimp -implicitDefEqProofs only [go_sem, ↓reduceIte, keep5, ib5, mk5, Tryd.f5, Bool.true_or, Bool.or_true, Bool.false_or, Bool.or_false, protF, eq_self, decide_true, Bool.not_true, bne_self_eq_false, upd_upd, upd_get, OV.map_val, OV.map_val_nil, OV.val_v, DTape.c_eq, eng_nw0, fng_nw0, og_1.flat, og_1.one, og_2.flat, og_2.one, og_3.flat, og_3.one]
  repeat' (with_reducible first | intro _ | refine And.intro ?_ ?_)
  all_goals try (first | exact ⟨_, Heap.le_refl _, rfl⟩ | exact ⟨_, Heap.le_refl _⟩)
  all_goals try omega
  first | refine HFnF.mk (hseal) ?_ | refine CallSF.mk (hseal) ?_
  simp (maxSteps := 1000000) -dsimp -implicitDefEqProofs only [go_sem, ↓reduceIte, keep5, ib5, mk5, Tryd.f5, Bool.true_or, Bool.or_true, Bool.false_or, Bool.or_false, protF, eq_self, decide_true, Bool.not_true, bne_self_eq_false, upd_upd, upd_get, OV.map_val, OV.map_val_nil, OV.val_v, DTape.c_eq, eng_nw0, fng_nw0, og_1.flat, og_1.one, og_2.flat, og_2.one, og_3.flat, og_3.one]
  intro nh qnh
  have dnh_ng : nh ≠ ng := fun e => by
    first
      | exact qnh.1 e
      | (rw [if_pos e] at qnh; cases qnh)
  have enh_ng : (nh = ng) = False := eq_false dnh_ng
  have fnh_ng : (ng = nh) = False := eq_false (fun e => dnh_ng e.symm)
  first
    | (rw [if_neg dnh_ng] at qnh)
    | (replace qnh := qnh.2)
  have dnh_nw0 : nh ≠ nw0 := fun e => by
    first
      | exact qnh.1 e
      | (rw [if_pos e] at qnh; cases qnh)
  have enh_nw0 : (nh = nw0) = False := eq_false dnh_nw0
  have fnh_nw0 : (nw0 = nh) = False := eq_false (fun e => dnh_nw0 e.symm)
  first
    | (rw [if_neg dnh_nw0] at qnh)
    | (replace qnh := qnh.2)
  have z2_nh := qnh
  clear qnh
  try simp (maxSteps := 1000000) -dsimp -implicitDefEqProofs only [go_sem, ↓reduceIte, keep5, ib5, mk5, Tryd.f5, Bool.true_or, Bool.or_true, Bool.false_or, Bool.or_false, protF, eq_self, decide_true, Bool.not_true, bne_self_eq_false, upd_upd, upd_get, OV.map_val, OV.map_val_nil, OV.val_v, DTape.c_eq, eng_nw0, fng_nw0, enh_ng, fnh_ng, enh_nw0, fnh_nw0, og_1.flat, og_1.one, og_2.flat, og_2.one, og_3.flat, og_3.one]
  refine HFnF.mk (eq_Tape (tapeRes t).1 (tapeRes t).1) ?_
  simp (maxSteps := 1000000) -dsimp -implicitDefEqProofs only [go_sem, ↓reduceIte, keep5, ib5, mk5, Tryd.f5, Bool.true_or, Bool.or_true, Bool.false_or, Bool.or_false, protF, eq_self, decide_true, Bool.not_true, bne_self_eq_false, upd_upd, upd_get, OV.map_val, OV.map_val_nil, OV.val_v, DTape.c_eq, eng_nw0, fng_nw0, enh_ng, fnh_ng, enh_nw0, fnh_nw0, og_1.flat, og_1.one, og_2.flat, og_2.one, og_3.flat, og_3.one]
  repeat' (with_reducible first | intro _ | refine And.intro ?_ ?_)
  all_goals try (first | exact ⟨_, Heap.le_refl _, rfl⟩ | exact ⟨_, Heap.le_refl _⟩)
  all_goals try omega
  have hh := held_Tape _ [.v (.int .i64 (tapeRes t).1.fInputs), yg_1, yg_2, yg_3] 1 oeg (by omega) (by omega)
  rw [← hccg] at hh
  refine HFnF.lend0 hh (ViewL.cons (View.aggM 1 [.v (.int .i64 (tapeRes t).1.fInputs), yg_1, yg_2, yg_3] (Owns.up3 z2_nw0 ⟨dng_nw0, z2_ng⟩ ⟨dnh_ng, dnh_nw0, z2_nh⟩ cg2.owns)) (ViewL.cons (View.same _ _) ViewL.nil)) rfl ?_
  simp (maxSteps := 1000000) -dsimp -implicitDefEqProofs only [go_sem, ↓reduceIte, keep5, ib5, mk5, Tryd.f5, Bool.true_or, Bool.or_true, Bool.false_or, Bool.or_false, protF, eq_self, decide_true, Bool.not_true, bne_self_eq_false, upd_upd, upd_get, OV.map_val, OV.map_val_nil, OV.val_v, DTape.c_eq, eng_nw0, fng_nw0, enh_ng, fnh_ng, enh_nw0, fnh_nw0, og_1.flat, og_1.one, og_2.flat, og_2.one, og_3.flat, og_3.one]
  repeat' (with_reducible first | intro _ | refine And.intro ?_ ?_)
  all_goals try (first | exact ⟨_, Heap.le_refl _, rfl⟩ | exact ⟨_, Heap.le_refl _⟩)
  all_goals try omega

open Go.Proofs
set_option linter.unusedVariables false
set_option linter.unusedSimpArgs false
theorem dat_str {P : Program} {n : Nat} {t : TypeId} {xs : List HVal} (hu : P.underlying t = some .string) (h : Dat P n t xs) : ∃ s : List UInt8, xs = [.str s] ∧ True := by
  match n, h with
  | 0, h => exact h.elim
  | n + 1, h =>
    simp only [Dat, hu] at h
    obtain ⟨b, rfl⟩ := h
    exact ⟨b, rfl, trivial⟩
def datT : List TypeId := [2, 9, 22, 24, 25, 27, 103]
theorem datT_ok : datB Tryd.prog datT = true := by kernel_rfl

end Go.Hl

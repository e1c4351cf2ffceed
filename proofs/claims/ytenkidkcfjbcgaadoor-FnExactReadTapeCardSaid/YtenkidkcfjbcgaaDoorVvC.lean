/-
  Contracts of functions and laws of the layer over the walk.
-/
import Derived.Test.YtenkidkcfjbcgaaDoorVvB
import Derived.Test.YtenkidkcfjbcgaaDoorVvA
import Derived.Test.YtenkidkcfjbcgaaDoorHlD
namespace Go.Hl
open Go.Proofs
set_option linter.unusedVariables false
set_option linter.unusedSimpArgs false
def keep84 : List Nat := [0]
def ib84 : List Nat := [1]
def mk84 : Marks := fun _ => ([], .nil, [])
theorem opWords : Fn0 Tryd.prog 84 [] (.sl 1 (tapWl.map fun s => [.str s]) true) := by
  refine fn0F 2 keep84 ib84 mk84 mix Tryd.func84 rfl (by kernel_rfl) (by simp) fun h => ?_
  simp (maxSteps := 1000000) -dsimp -implicitDefEqProofs only [go_sem, ↓reduceIte, keep84, ib84, mk84, Tryd.f84]
  exact ⟨by decide, by decide, rfl⟩
def keep43 : List Nat := [0, 1, 4, 5, 6, 7, 8, 9, 10, 11, 12, 49, 54, 70, 81, 108, 122, 134, 141]
def ib43 : List Nat := [100, 154]
def mk43 : Marks := fun id => match id with | 13 => ([5, 13, 17], (.op 0 (.op 1 (.op 2 (.op 3 (.op 4 (.op 6 (.op 7 (.op 8 (.op 9 (.op 10 (.op 11 (.op 12 (.op 5 (.op 13 (.op 14 (.op 15 (.op 16 (.op 17 .nil)))))))))))))))))), []) | 20 => ([10, 12], (.op 0 (.op 1 (.op 2 (.op 3 (.op 4 (.op 5 (.op 6 (.op 7 (.op 8 (.op 9 (.op 10 (.op 11 (.op 12 .nil))))))))))))), []) | 26 => ([5, 6, 8, 12], (.op 0 (.op 1 (.op 2 (.op 3 (.op 4 (.op 5 (.op 6 (.op 7 (.op 8 (.op 9 (.op 10 (.op 11 (.op 12 .nil))))))))))))), []) | _ => ([], .nil, [])
set_option maxRecDepth 100000 in
theorem tline_bad {h0 h : Heap} {nb : Nat} {S : TSt} (H : TapIn h0 nb S h) (s : List UInt8) (hs : s.length ≤ 50000) (w r : List UInt8) (has : Bool) (hc : Go.Lib.cut s [32] = (w, r, has)) (hbad : has = false ∨ readL 100000 999999999 r = none ∨ readL 100000 999999999 r = some []) :
    HFn Tryd.prog 43 [.op nb 6 0 0, .str s] h fun r h' => r = .bool false ∧ h0.le h' := by
  have hcut := cutC s [32] (by omega)
  have hcl := cut_len s [32]
  rw [hc] at hcut hcl
  simp only at hcut hcl
  have hle : h0.le h := H.le
  obtain ⟨om, og, ov, H⟩ := H
  have hb := H.box
  unfold tapBox at hb
  have hrl := readList r 100000 999999999 (by omega) (by omega) (by omega)
  refine fnKF 163 keep43 ib43 mk43 mix Tryd.func43 rfl (by kernel_rfl) (by simp) ?_
  simp (maxSteps := 1000000) -dsimp -implicitDefEqProofs only [go_sem, ↓reduceIte, keep43, ib43, mk43, Tryd.f43, hb]
  first | refine HFnF.mk (hcut) ?_ | refine CallSF.mk (hcut) ?_ | refine HFnF.mkAt (hcut) ?_ | refine CallSF.mk (FnAt.fn0 (hcut)) ?_
  simp (maxSteps := 1000000) -dsimp -implicitDefEqProofs only [go_sem, ↓reduceIte, keep43, ib43, mk43, Tryd.f43]
  first | refine HFnF.mk (hrl) ?_ | refine CallSF.mk (hrl) ?_ | refine HFnF.mkAt (hrl) ?_ | refine CallSF.mk (FnAt.fn0 (hrl)) ?_
  simp (maxSteps := 1000000) -dsimp -implicitDefEqProofs only [go_sem, ↓reduceIte, keep43, ib43, mk43, Tryd.f43]
  simp (maxSteps := 1000000) -dsimp -implicitDefEqProofs only [go_sem, ↓reduceIte, keep43, ib43, mk43, Tryd.f43, hb]
  refine ⟨fun h1 => ⟨fun h2 _ => ⟨fun h3 => ?_, fun _ => ⟨_, h, shift_le (Heap.le_refl _), rfl, hle⟩⟩, fun _ => ⟨_, h, shift_le (Heap.le_refl _), rfl, hle⟩⟩, fun _ => ⟨_, h, shift_le (Heap.le_refl _), rfl, hle⟩⟩
  rcases hbad with q | q | q
  · rw [h1] at q; cases q
  · rw [q] at h2; cases h2
  · rw [q] at h3; exact absurd rfl h3
set_option maxRecDepth 100000 in
/-- A line that may not stand where it stands. -/
theorem tline_off {h0 h : Heap} {nb : Nat} {S : TSt} (H : TapIn h0 nb S h) (s : List UInt8) (hs : s.length ≤ 50000) (w r : List UInt8) (hc : Go.Lib.cut s [32] = (w, r, true)) (n : List Int) (hn : ¬ n = []) (hr : readL 100000 999999999 r = some n) (hbad : S.stage = 3 ∨ (1 ≤ S.stage ↔ w = wTape)) :
    HFn Tryd.prog 43 [.op nb 6 0 0, .str s] h fun r h' => r = .bool false ∧ h0.le h' := by
  have hcut := cutC s [32] (by omega)
  have hcl := cut_len s [32]
  rw [hc] at hcut hcl
  simp only at hcut hcl
  have hle : h0.le h := H.le
  obtain ⟨om, og, ov, H⟩ := H
  have hb := H.box
  unfold tapBox at hb
  have hrl := readList r 100000 999999999 (by omega) (by omega) (by omega)
  rw [hr] at hrl
  simp only [Option.getD_some, Option.isSome_some] at hrl
  refine fnKF 163 keep43 ib43 mk43 mix Tryd.func43 rfl (by kernel_rfl) (by simp) ?_
  simp (maxSteps := 1000000) -dsimp -implicitDefEqProofs only [go_sem, ↓reduceIte, keep43, ib43, mk43, Tryd.f43, hb]
  first | refine HFnF.mk (hcut) ?_ | refine CallSF.mk (hcut) ?_ | refine HFnF.mkAt (hcut) ?_ | refine CallSF.mk (FnAt.fn0 (hcut)) ?_
  simp (maxSteps := 1000000) -dsimp -implicitDefEqProofs only [go_sem, ↓reduceIte, keep43, ib43, mk43, Tryd.f43]
  first | refine HFnF.mk (hrl) ?_ | refine CallSF.mk (hrl) ?_ | refine HFnF.mkAt (hrl) ?_ | refine CallSF.mk (FnAt.fn0 (hrl)) ?_
  simp (maxSteps := 1000000) -dsimp -implicitDefEqProofs only [go_sem, ↓reduceIte, keep43, ib43, mk43, Tryd.f43]
  simp (maxSteps := 1000000) -dsimp -implicitDefEqProofs only [go_sem, ↓reduceIte, keep43, ib43, mk43, Tryd.f43, hb]
  refine fun _ => ⟨fun _ => ⟨fun h3 => ⟨fun _ => ⟨_, h, shift_le (Heap.le_refl _), rfl, hle⟩, fun h4 => ?_⟩, fun _ => ⟨_, h, shift_le (Heap.le_refl _), rfl, hle⟩⟩, fun _ => ⟨_, h, shift_le (Heap.le_refl _), rfl, hle⟩⟩
  exfalso
  rcases hbad with q | q
  · exact h3 q
  · have e : decide (1 ≤ S.stage) = decide (w = [116, 97, 112, 101]) := decide_eq_decide.2 q
    rw [e] at h4
    simp at h4
set_option maxRecDepth 100000 in
/-- The first line. -/
theorem tline_tape {h0 h : Heap} {nb : Nat} {S : TSt} (H : TapIn h0 nb S h) (s : List UInt8) (hs : s.length ≤ 50000) (r : List UInt8) (hc : Go.Lib.cut s [32] = (wTape, r, true)) (n : List Int) (hn : ¬ n = []) (hr : readL 100000 999999999 r = some n) (h0s : S.stage = 0) :
    HFn Tryd.prog 43 [.op nb 6 0 0, .str s] h fun r h' => r = .bool (decide (n.length = 1)) ∧ TapIn h0 nb { S with inp := n.getD 0 0, stage := 1 } h' := by
  have hcut := cutC s [32] (by omega)
  have hcl := cut_len s [32]
  rw [hc] at hcut hcl
  simp only at hcut hcl
  have hle : h0.le h := H.le
  obtain ⟨om, og, ov, H⟩ := H
  have hb := H.box
  unfold tapBox at hb
  have hrl := readList r 100000 999999999 (by omega) (by omega) (by omega)
  rw [hr] at hrl
  simp only [Option.getD_some, Option.isSome_some] at hrl
  have hop := indexS tapWl true wTape (by decide)
  rw [show Go.Lib.idxOfS (tapWl.map fun s => (⟨s.toArray⟩ : ByteArray)) ⟨wTape.toArray⟩ = -1 by decide] at hop
  have hl : 0 < n.length := List.length_pos_iff.2 hn
  have ea : n[Int.toNat 0]? = some (n.getD 0 0) := by
    show n[0]? = _
    rw [List.getD_eq_getElem?_getD, List.getElem?_eq_getElem hl]; rfl
  have ht : (wTape = [116, 97, 112, 101]) = True := eq_true rfl
  refine fnKF 163 keep43 ib43 mk43 mix Tryd.func43 rfl (by kernel_rfl) (by simp) ?_
  simp (maxSteps := 1000000) -dsimp -implicitDefEqProofs only [go_sem, ↓reduceIte, keep43, ib43, mk43, Tryd.f43, hb]
  first | refine HFnF.mk (hcut) ?_ | refine CallSF.mk (hcut) ?_ | refine HFnF.mkAt (hcut) ?_ | refine CallSF.mk (FnAt.fn0 (hcut)) ?_
  simp (maxSteps := 1000000) -dsimp -implicitDefEqProofs only [go_sem, ↓reduceIte, keep43, ib43, mk43, Tryd.f43]
  first | refine HFnF.mk (hrl) ?_ | refine CallSF.mk (hrl) ?_ | refine HFnF.mkAt (hrl) ?_ | refine CallSF.mk (FnAt.fn0 (hrl)) ?_
  simp (maxSteps := 1000000) -dsimp -implicitDefEqProofs only [go_sem, ↓reduceIte, keep43, ib43, mk43, Tryd.f43]
  simp (maxSteps := 1000000) -dsimp -implicitDefEqProofs only [go_sem, ↓reduceIte, keep43, ib43, mk43, Tryd.f43, hb, h0s, ht, decide_true]
  refine fun _ => ⟨fun h3 => ?_, fun h3 => absurd h3 (by omega)⟩
  refine ⟨fun q => absurd q (by decide), fun _ => ?_⟩
  first | refine HFnF.mk (opWords) ?_ | refine CallSF.mk (opWords) ?_ | refine HFnF.mkAt (opWords) ?_ | refine CallSF.mk (FnAt.fn0 (opWords)) ?_
  simp (maxSteps := 1000000) -dsimp -implicitDefEqProofs only [go_sem, ↓reduceIte, keep43, ib43, mk43, Tryd.f43]
  refine HFnF.mk hop ?_
  simp (maxSteps := 1000000) -dsimp -implicitDefEqProofs only [go_sem, ↓reduceIte, keep43, ib43, mk43, Tryd.f43, hb, h0s, ht, ea]
  refine ⟨by omega, fun _ => ?_⟩
  rw [upd_upd]
  exact ⟨_, _, shift_le (Heap.le_refl _), congrArg HVal.bool (decide_eq_decide.2 (by omega)), om, og, ov, H.re (bx' := tapBox (n.getD 0 0) true false) (tapBox_odd _ _ _)⟩
set_option maxRecDepth 100000 in
/-- A guard's line. -/
theorem tline_guard {h0 h : Heap} {nb : Nat} {S : TSt} (H : TapIn h0 nb S h) (s : List UInt8) (hs : s.length ≤ 50000) (w r : List UInt8) (hw : w = wZero ∨ w = wOther) (hc : Go.Lib.cut s [32] = (w, r, true)) (n : List Int) (hn : ¬ n = []) (hr : readL 100000 999999999 r = some n) (h1s : S.stage = 1 ∨ S.stage = 2) (hcap : S.guards.length ≤ 1048576) :
    HFn Tryd.prog 43 [.op nb 6 0 0, .str s] h fun r h' => r = .bool (decide (n.length = 1)) ∧ TapIn h0 nb { S with guards := S.guards ++ [⟨n.getD 0 0, decide (w = wZero)⟩], stage := 2 } h' := by
  have hcut := cutC s [32] (by omega)
  have hcl := cut_len s [32]
  rw [hc] at hcut hcl
  simp only at hcut hcl
  have hle : h0.le h := H.le
  obtain ⟨om, og, ov, H⟩ := H
  have hb := H.box
  unfold tapBox at hb
  have hrl := readList r 100000 999999999 (by omega) (by omega) (by omega)
  rw [hr] at hrl
  simp only [Option.getD_some, Option.isSome_some] at hrl
  have hop := indexS tapWl true w (by decide)
  rw [show Go.Lib.idxOfS (tapWl.map fun s => (⟨s.toArray⟩ : ByteArray)) ⟨w.toArray⟩ = -1 by rcases hw with rfl | rfl <;> decide] at hop
  have hl : 0 < n.length := List.length_pos_iff.2 hn
  have ea : n[Int.toNat 0]? = some (n.getD 0 0) := by
    show n[0]? = _
    rw [List.getD_eq_getElem?_getD, List.getElem?_eq_getElem hl]; rfl
  have w1 : ¬ w = [116, 97, 112, 101] := by rcases hw with rfl | rfl <;> decide
  have w2 : ¬ w = [111, 117, 116] := by rcases hw with rfl | rfl <;> decide
  have s1 : decide (1 ≤ S.stage) = true := decide_eq_true (by omega)
  have s3 : decide (S.stage = 3) = false := decide_eq_false (by omega)
  rw [s1, s3] at hb H
  have hgd := H.gds
  have hcap' : S.r.guards.length ≤ 1048576 := hcap
  refine fnKF 163 keep43 ib43 mk43 mix Tryd.func43 rfl (by kernel_rfl) (by simp) ?_
  simp (maxSteps := 1000000) -dsimp -implicitDefEqProofs only [go_sem, ↓reduceIte, keep43, ib43, mk43, Tryd.f43, hb]
  first | refine HFnF.mk (hcut) ?_ | refine CallSF.mk (hcut) ?_ | refine HFnF.mkAt (hcut) ?_ | refine CallSF.mk (FnAt.fn0 (hcut)) ?_
  simp (maxSteps := 1000000) -dsimp -implicitDefEqProofs only [go_sem, ↓reduceIte, keep43, ib43, mk43, Tryd.f43]
  first | refine HFnF.mk (hrl) ?_ | refine CallSF.mk (hrl) ?_ | refine HFnF.mkAt (hrl) ?_ | refine CallSF.mk (FnAt.fn0 (hrl)) ?_
  simp (maxSteps := 1000000) -dsimp -implicitDefEqProofs only [go_sem, ↓reduceIte, keep43, ib43, mk43, Tryd.f43]
  simp (maxSteps := 1000000) -dsimp -implicitDefEqProofs only [go_sem, ↓reduceIte, keep43, ib43, mk43, Tryd.f43, hb, w1, w2, decide_false]
  refine fun _ => ⟨fun h3 => ⟨fun q => absurd q (by decide), fun _ => ?_⟩, fun h3 => absurd h3 (by omega)⟩
  first | refine HFnF.mk (opWords) ?_ | refine CallSF.mk (opWords) ?_ | refine HFnF.mkAt (opWords) ?_ | refine CallSF.mk (FnAt.fn0 (opWords)) ?_
  simp (maxSteps := 1000000) -dsimp -implicitDefEqProofs only [go_sem, ↓reduceIte, keep43, ib43, mk43, Tryd.f43]
  refine HFnF.mk hop ?_
  by_cases hz : w = wZero
  · have z1 : (w = [122, 101, 114, 111]) = True := eq_true hz
    rw [decide_eq_true hz]
    cases og with
    | none =>
      have hg0 : S.guards = [] := rowsOf_nil.1 hgd
      simp (maxSteps := 1000000) -dsimp -implicitDefEqProofs only [go_sem, ↓reduceIte, keep43, ib43, mk43, Tryd.f43, hb, w1, w2, z1, ea, onil_none, decide_true, decide_false]
      refine ⟨by omega, by decide, by decide, by decide, fun m hm => ?_⟩
      have d_m_nb : ¬ m = nb := fun e => by rw [e, hb] at hm; cases hm
      have d_nb_m : ¬ nb = m := Ne.symm d_m_nb
      have e_m_nb : (m = nb) = False := eq_false d_m_nb
      have e_nb_m : (nb = m) = False := eq_false d_nb_m
      simp (maxSteps := 1000000) -dsimp -implicitDefEqProofs only [go_sem, ↓reduceIte, keep43, ib43, mk43, Tryd.f43, hb, e_m_nb, e_nb_m, upd_ne]
      obtain ⟨g, hg, hR⟩ := H.addg ⟨n.getD 0 0, true⟩ hm (tapBox_odd S.inp true false) (F := upd (upd h m (.row 2 [[.v (I (n.getD 0 0)), .v (.bool true)]])) nb (tapBox S.inp true false (S.r.guard ⟨n.getD 0 0, true⟩) om (some m) ov)) (upd_same _ _ _)
        (by rw [upd_ne _ _ _ _ d_m_nb, upd_same, show S.r.guards = [] from hg0]; rfl) (fun k h1 h2 _ => by rw [upd_ne _ _ _ _ h1, upd_ne _ _ _ _ h2])
      refine fun _ => ⟨_, g, shift_le ?_, congrArg HVal.bool (decide_eq_decide.2 (by omega)), om, some m, ov, hR⟩
      have hl0 : (S.r.guard ⟨n.getD 0 0, true⟩).guards.length = 1 := by show (S.guards ++ [_]).length = 1; rw [hg0]; rfl
      unfold tapBox at hg
      simp only [hl0, onil_some] at hg
      exact hg
    | some m =>
      have hm := hgd.2
      have d_m_nb : ¬ m = nb := fun e => by rw [e, hb] at hm; cases hm
      have d_nb_m : ¬ nb = m := Ne.symm d_m_nb
      have e_m_nb : (m = nb) = False := eq_false d_m_nb
      have e_nb_m : (nb = m) = False := eq_false d_nb_m
      simp (maxSteps := 1000000) -dsimp -implicitDefEqProofs only [go_sem, ↓reduceIte, keep43, ib43, mk43, Tryd.f43, hb, hm, w1, w2, z1, ea, onil_some, decide_true, decide_false, e_m_nb, e_nb_m, upd_ne]
      refine ⟨by omega, by decide, by decide, by decide, by rw [rowsOf_len]; exact Nat.le_refl _, by omega, by omega, fun b hb1 => ?_⟩
      have d_b_nb : ¬ b = nb := fun e => by rw [e, hb] at hb1; cases hb1
      have d_nb_b : ¬ nb = b := Ne.symm d_b_nb
      have e_b_nb : (b = nb) = False := eq_false d_b_nb
      have e_nb_b : (nb = b) = False := eq_false d_nb_b
      have d_b_m : ¬ b = m := fun e => by rw [e, hm] at hb1; cases hb1
      have d_m_b : ¬ m = b := Ne.symm d_b_m
      have e_b_m : (b = m) = False := eq_false d_b_m
      have e_m_b : (m = b) = False := eq_false d_m_b
      simp (maxSteps := 1000000) -dsimp -implicitDefEqProofs only [go_sem, ↓reduceIte, keep43, ib43, mk43, Tryd.f43, hb, hm, e_m_nb, e_m_b, e_nb_m, e_nb_b, e_b_m, e_b_nb, upd_ne]
      rw [List.take_of_length_le (by rw [rowsOf_len]; exact Nat.le_refl _)]
      obtain ⟨g, hg, hR⟩ := H.addg ⟨n.getD 0 0, true⟩ hb1 (tapBox_odd S.inp true false) (F := upd (upd (upd h m .gone) b (.row 2 (rowsOf DGuard.c S.r.guards ++ [[.v (I (n.getD 0 0)), .v (.bool true)]]))) nb (tapBox S.inp true false (S.r.guard ⟨n.getD 0 0, true⟩) om (some b) ov)) (upd_same _ _ _)
        (by rw [upd_ne _ _ _ _ d_b_nb, upd_same, rowsOf_snoc]; rfl) (fun k h1 h2 h3 => by rw [upd_ne _ _ _ _ h1, upd_ne _ _ _ _ h2, upd_ne _ _ _ _ (fun q => h3 (by rw [q]))])
      refine fun _ => ⟨_, g, shift_le ?_, congrArg HVal.bool (decide_eq_decide.2 (by omega)), om, some b, ov, hR⟩
      have hl0 : (S.r.guard ⟨n.getD 0 0, true⟩).guards.length = S.r.guards.length + 1 := by show (S.guards ++ [_]).length = _; rw [List.length_append]; rfl
      unfold tapBox at hg
      simp only [hl0, onil_some] at hg
      exact hg
  · have z1 : (w = [122, 101, 114, 111]) = False := eq_false hz
    have z2 : (w = [111, 116, 104, 101, 114]) = True := eq_true (hw.resolve_left hz)
    rw [decide_eq_false hz]
    cases og with
    | none =>
      have hg0 : S.guards = [] := rowsOf_nil.1 hgd
      simp (maxSteps := 1000000) -dsimp -implicitDefEqProofs only [go_sem, ↓reduceIte, keep43, ib43, mk43, Tryd.f43, hb, w1, w2, z1, z2, ea, onil_none, decide_true, decide_false]
      refine ⟨by omega, by decide, by decide, by decide, fun m hm => ?_⟩
      have d_m_nb : ¬ m = nb := fun e => by rw [e, hb] at hm; cases hm
      have d_nb_m : ¬ nb = m := Ne.symm d_m_nb
      have e_m_nb : (m = nb) = False := eq_false d_m_nb
      have e_nb_m : (nb = m) = False := eq_false d_nb_m
      simp (maxSteps := 1000000) -dsimp -implicitDefEqProofs only [go_sem, ↓reduceIte, keep43, ib43, mk43, Tryd.f43, hb, e_m_nb, e_nb_m, upd_ne]
      obtain ⟨g, hg, hR⟩ := H.addg ⟨n.getD 0 0, false⟩ hm (tapBox_odd S.inp true false) (F := upd (upd h m (.row 2 [[.v (I (n.getD 0 0)), .v (.bool false)]])) nb (tapBox S.inp true false (S.r.guard ⟨n.getD 0 0, false⟩) om (some m) ov)) (upd_same _ _ _)
        (by rw [upd_ne _ _ _ _ d_m_nb, upd_same, show S.r.guards = [] from hg0]; rfl) (fun k h1 h2 _ => by rw [upd_ne _ _ _ _ h1, upd_ne _ _ _ _ h2])
      refine fun _ => ⟨_, g, shift_le ?_, congrArg HVal.bool (decide_eq_decide.2 (by omega)), om, some m, ov, hR⟩
      have hl0 : (S.r.guard ⟨n.getD 0 0, false⟩).guards.length = 1 := by show (S.guards ++ [_]).length = 1; rw [hg0]; rfl
      unfold tapBox at hg
      simp only [hl0, onil_some] at hg
      exact hg
    | some m =>
      have hm := hgd.2
      have d_m_nb : ¬ m = nb := fun e => by rw [e, hb] at hm; cases hm
      have d_nb_m : ¬ nb = m := Ne.symm d_m_nb
      have e_m_nb : (m = nb) = False := eq_false d_m_nb
      have e_nb_m : (nb = m) = False := eq_false d_nb_m
      simp (maxSteps := 1000000) -dsimp -implicitDefEqProofs only [go_sem, ↓reduceIte, keep43, ib43, mk43, Tryd.f43, hb, hm, w1, w2, z1, z2, ea, onil_some, decide_true, decide_false, e_m_nb, e_nb_m, upd_ne]
      refine ⟨by omega, by decide, by decide, by decide, by rw [rowsOf_len]; exact Nat.le_refl _, by omega, by omega, fun b hb1 => ?_⟩
      have d_b_nb : ¬ b = nb := fun e => by rw [e, hb] at hb1; cases hb1
      have d_nb_b : ¬ nb = b := Ne.symm d_b_nb
      have e_b_nb : (b = nb) = False := eq_false d_b_nb
      have e_nb_b : (nb = b) = False := eq_false d_nb_b
      have d_b_m : ¬ b = m := fun e => by rw [e, hm] at hb1; cases hb1
      have d_m_b : ¬ m = b := Ne.symm d_b_m
      have e_b_m : (b = m) = False := eq_false d_b_m
      have e_m_b : (m = b) = False := eq_false d_m_b
      simp (maxSteps := 1000000) -dsimp -implicitDefEqProofs only [go_sem, ↓reduceIte, keep43, ib43, mk43, Tryd.f43, hb, hm, e_m_nb, e_m_b, e_nb_m, e_nb_b, e_b_m, e_b_nb, upd_ne]
      rw [List.take_of_length_le (by rw [rowsOf_len]; exact Nat.le_refl _)]
      obtain ⟨g, hg, hR⟩ := H.addg ⟨n.getD 0 0, false⟩ hb1 (tapBox_odd S.inp true false) (F := upd (upd (upd h m .gone) b (.row 2 (rowsOf DGuard.c S.r.guards ++ [[.v (I (n.getD 0 0)), .v (.bool false)]]))) nb (tapBox S.inp true false (S.r.guard ⟨n.getD 0 0, false⟩) om (some b) ov)) (upd_same _ _ _)
        (by rw [upd_ne _ _ _ _ d_b_nb, upd_same, rowsOf_snoc]; rfl) (fun k h1 h2 h3 => by rw [upd_ne _ _ _ _ h1, upd_ne _ _ _ _ h2, upd_ne _ _ _ _ (fun q => h3 (by rw [q]))])
      refine fun _ => ⟨_, g, shift_le ?_, congrArg HVal.bool (decide_eq_decide.2 (by omega)), om, some b, ov, hR⟩
      have hl0 : (S.r.guard ⟨n.getD 0 0, false⟩).guards.length = S.r.guards.length + 1 := by show (S.guards ++ [_]).length = _; rw [List.length_append]; rfl
      unfold tapBox at hg
      simp only [hl0, onil_some] at hg
      exact hg
set_option maxRecDepth 100000 in
/-- An instruction's line. -/
theorem tline_op {h0 h : Heap} {nb : Nat} {S : TSt} (H : TapIn h0 nb S h) (s : List UInt8) (hs : s.length ≤ 50000) (w r : List UInt8) (hw : 1 ≤ opOf w ∧ opOf w ≤ 7) (hc : Go.Lib.cut s [32] = (w, r, true)) (n : List Int) (hn : ¬ n = []) (hr : readL 100000 999999999 r = some n) (h1s : S.stage = 1) (hg0 : S.guards = []) (hcap : S.code.length ≤ 1048576) :
    HFn Tryd.prog 43 [.op nb 6 0 0, .str s] h fun r h' => ∃ x, (∀ y, instrT (opOf w) n = some y → x = y) ∧ r = .bool (instrT (opOf w) n).isSome ∧ TapIn h0 nb { S with code := S.code ++ [x] } h' := by
  have hcut := cutC s [32] (by omega)
  have hcl := cut_len s [32]
  rw [hc] at hcut hcl
  simp only at hcut hcl
  have hle : h0.le h := H.le
  obtain ⟨om, og, ov, H⟩ := H
  have hb := H.box
  unfold tapBox at hb
  have hrl := readList r 100000 999999999 (by omega) (by omega) (by omega)
  rw [hr] at hrl
  simp only [Option.getD_some, Option.isSome_some] at hrl
  have hop := indexS tapWl true w (by decide)
  rw [show Go.Lib.idxOfS (tapWl.map fun s => (⟨s.toArray⟩ : ByteArray)) ⟨w.toArray⟩ = opOf w - 1 by rw [opOf]; omega] at hop
  have hl : 0 < n.length := List.length_pos_iff.2 hn
  have ea : n[Int.toNat 0]? = some (n.getD 0 0) := by
    show n[0]? = _
    rw [List.getD_eq_getElem?_getD, List.getElem?_eq_getElem hl]; rfl
  have hne : ∀ v, opOf v = 0 → ¬ w = v := fun v hv e => by rw [e, hv] at hw; omega
  have w1 : ¬ w = [116, 97, 112, 101] := hne _ (by decide)
  have w2 : ¬ w = [111, 117, 116] := hne _ (by decide)
  have w3 : ¬ w = [122, 101, 114, 111] := hne _ (by decide)
  have w4 : ¬ w = [111, 116, 104, 101, 114] := hne _ (by decide)
  have s1 : decide (1 ≤ S.stage) = true := decide_eq_true (by omega)
  have s3 : decide (S.stage = 3) = false := decide_eq_false (by omega)
  rw [s1, s3] at hb H
  have hgd := H.gds
  have hcd := H.code
  have hcap' : S.r.code.length ≤ 1048576 := hcap
  obtain rfl : og = none := by
    cases og with
    | none => rfl
    | some m => exact absurd (by show rowsOf DGuard.c S.guards = []; rw [hg0]; rfl) hgd.1
  have fin : ∀ {x : DInstr} {om : Option Nat} {g : Heap}, RecG (tapBox S.inp true false) h0 nb (S.r.addc x) om none ov g → TapIn h0 nb { S with code := S.code ++ [x] } g := fun {x om g} hR => by
    refine ⟨om, none, ov, ?_⟩
    show RecG (tapBox S.inp (decide (1 ≤ S.stage)) (decide (S.stage = 3))) h0 nb _ _ _ _ g
    rw [s1, s3]; exact hR
  generalize opOf w = K at *
  refine fnKF 163 keep43 ib43 mk43 mix Tryd.func43 rfl (by kernel_rfl) (by simp) ?_
  simp (maxSteps := 1000000) -dsimp -implicitDefEqProofs only [go_sem, ↓reduceIte, keep43, ib43, mk43, Tryd.f43, hb]
  first | refine HFnF.mk (hcut) ?_ | refine CallSF.mk (hcut) ?_ | refine HFnF.mkAt (hcut) ?_ | refine CallSF.mk (FnAt.fn0 (hcut)) ?_
  simp (maxSteps := 1000000) -dsimp -implicitDefEqProofs only [go_sem, ↓reduceIte, keep43, ib43, mk43, Tryd.f43]
  first | refine HFnF.mk (hrl) ?_ | refine CallSF.mk (hrl) ?_ | refine HFnF.mkAt (hrl) ?_ | refine CallSF.mk (FnAt.fn0 (hrl)) ?_
  simp (maxSteps := 1000000) -dsimp -implicitDefEqProofs only [go_sem, ↓reduceIte, keep43, ib43, mk43, Tryd.f43]
  simp (maxSteps := 1000000) -dsimp -implicitDefEqProofs only [go_sem, ↓reduceIte, keep43, ib43, mk43, Tryd.f43, hb, w1, w2, decide_false]
  refine fun _ => ⟨fun h3 => ⟨fun q => absurd q (by decide), fun _ => ?_⟩, fun h3 => absurd h3 (by omega)⟩
  first | refine HFnF.mk (opWords) ?_ | refine CallSF.mk (opWords) ?_ | refine HFnF.mkAt (opWords) ?_ | refine CallSF.mk (FnAt.fn0 (opWords)) ?_
  simp (maxSteps := 1000000) -dsimp -implicitDefEqProofs only [go_sem, ↓reduceIte, keep43, ib43, mk43, Tryd.f43]
  refine HFnF.mk hop ?_
  simp (maxSteps := 1000000) -dsimp -implicitDefEqProofs only [go_sem, ↓reduceIte, keep43, ib43, mk43, Tryd.f43, hb, w1, w2, w3, w4, ea, onil_none, decide_false]
  rw [IntWalk.i64_in (K - 1 + 1) (by omega), show K - 1 + 1 = K by omega]
  refine ⟨fun _ => ⟨fun q => absurd q (by decide), fun _ n2 z2 => ?_⟩, fun q => absurd q (by omega)⟩
  have d_n2_nb : ¬ n2 = nb := fun e => by rw [e, hb] at z2; cases z2
  have d_nb_n2 : ¬ nb = n2 := Ne.symm d_n2_nb
  have e_n2_nb : (n2 = nb) = False := eq_false d_n2_nb
  have e_nb_n2 : (nb = n2) = False := eq_false d_nb_n2
  by_cases k7 : K = 7
  · have k1 : ¬ K = 1 := by omega
    have k2 : ¬ K = 2 := by omega
    have e : instrT K n = if n.length = 1 then some ⟨K, n.getD 0 0, 0, 0⟩ else none := by rw [instrT, if_neg (by omega), if_pos k7]
    have he1 : ∀ y, instrT K n = some y → (⟨7, n.getD 0 0, 0, 0⟩ : DInstr) = y := fun y hy => by rw [e, k7] at hy; split at hy <;> cases hy; rfl
    have he2 : HVal.bool (decide ((n.length : Int) = 1)) = .bool (instrT K n).isSome := by rw [e]; split <;> rename_i q <;> simp [q]; omega
    simp (maxSteps := 1000000) -dsimp -implicitDefEqProofs only [go_sem, ↓reduceIte, keep43, ib43, mk43, Tryd.f43, hb, ea, k1, k2, k7, e_n2_nb, e_nb_n2, upd_ne, upd_upd]
    refine ⟨by omega, ?_⟩
    cases om with
    | none =>
      have hc0 : S.code = [] := rowsOf_nil.1 hcd
      rw [onil_none]
      simp (maxSteps := 1000000) -dsimp -implicitDefEqProofs only [go_sem, ↓reduceIte, keep43, ib43, mk43, Tryd.f43, hb, ea, k1, k2, k7, e_n2_nb, e_nb_n2, upd_ne, upd_upd]
      refine ⟨by decide, by decide, by decide, fun b ⟨hb2, hb1⟩ => ?_⟩
      have d_b_nb : ¬ b = nb := fun e => by rw [e, hb] at hb1; cases hb1
      have d_nb_b : ¬ nb = b := Ne.symm d_b_nb
      have e_b_nb : (b = nb) = False := eq_false d_b_nb
      have e_nb_b : (nb = b) = False := eq_false d_nb_b
      have d_b_n2 : ¬ b = n2 := hb2
      have d_n2_b : ¬ n2 = b := Ne.symm d_b_n2
      have e_b_n2 : (b = n2) = False := eq_false d_b_n2
      have e_n2_b : (n2 = b) = False := eq_false d_n2_b
      simp (maxSteps := 1000000) -dsimp -implicitDefEqProofs only [go_sem, ↓reduceIte, keep43, ib43, mk43, Tryd.f43, hb, e_n2_nb, e_n2_b, e_nb_n2, e_nb_b, e_b_n2, e_b_nb, upd_ne, upd_upd]
      obtain ⟨g, hg, hR⟩ := H.addc ⟨7, n.getD 0 0, 0, 0⟩ hb1 (tapBox_odd S.inp true false) (F := upd (upd h b (.row 4 [[.v (.int .i64 7), .v (.int .i64 (n.getD 0 0)), .v (.int .i64 0), .v (.int .i64 0)]])) nb (tapBox S.inp true false (S.r.addc ⟨7, n.getD 0 0, 0, 0⟩) (some b) none ov)) (upd_same _ _ _)
        (by rw [upd_ne _ _ _ _ d_b_nb, upd_same, show S.r.code = [] from hc0]; rfl) (fun k h1 h2 _ => by rw [upd_ne _ _ _ _ h1, upd_ne _ _ _ _ h2])
      have hl0 : (S.r.addc ⟨7, n.getD 0 0, 0, 0⟩).code.length = 1 := by show (S.code ++ [_]).length = 1; rw [hc0]; rfl
      unfold tapBox at hg
      simp only [hl0, onil_some] at hg
      simp only [RSt.addc] at hg
      refine fun _ => ⟨_, g, shift_le (Heap.le_trans hg ?_), ?_⟩
      · exact (leX_nil (by repeat' (first | exact leX_refl _ _ | refine leX_put (by simp only [upd_apply, ↓reduceIte, eq_self, if_true, e_n2_nb, e_n2_b, e_nb_n2, e_nb_b, e_b_n2, e_b_nb]) ?_ | refine leX_strip (by first | exact .inr (by assumption) | exact .inl (by simp)) ?_)))
      · refine ⟨⟨7, n.getD 0 0, 0, 0⟩, fun y hy => ?_, ?_, fin hR⟩
        · exact he1 y hy
        · exact he2
    | some m =>
      have hm := hcd.2
      have d_m_nb : ¬ m = nb := fun e => by rw [e, hb] at hm; cases hm
      have d_nb_m : ¬ nb = m := Ne.symm d_m_nb
      have e_m_nb : (m = nb) = False := eq_false d_m_nb
      have e_nb_m : (nb = m) = False := eq_false d_nb_m
      have d_m_n2 : ¬ m = n2 := fun e => by rw [e, z2] at hm; cases hm
      have d_n2_m : ¬ n2 = m := Ne.symm d_m_n2
      have e_m_n2 : (m = n2) = False := eq_false d_m_n2
      have e_n2_m : (n2 = m) = False := eq_false d_n2_m
      simp (maxSteps := 1000000) -dsimp -implicitDefEqProofs only [go_sem, ↓reduceIte, keep43, ib43, mk43, Tryd.f43, hb, hm, ea, k1, k2, k7, onil_some, e_n2_nb, e_n2_m, e_nb_n2, e_nb_m, e_m_n2, e_m_nb, upd_ne, upd_upd]
      refine ⟨by decide, by decide, by decide, by rw [rowsOf_len]; exact Nat.le_refl _, by omega, by omega, fun b ⟨hb2, hb1⟩ => ?_⟩
      have d_b_nb : ¬ b = nb := fun e => by rw [e, hb] at hb1; cases hb1
      have d_nb_b : ¬ nb = b := Ne.symm d_b_nb
      have e_b_nb : (b = nb) = False := eq_false d_b_nb
      have e_nb_b : (nb = b) = False := eq_false d_nb_b
      have d_b_n2 : ¬ b = n2 := hb2
      have d_n2_b : ¬ n2 = b := Ne.symm d_b_n2
      have e_b_n2 : (b = n2) = False := eq_false d_b_n2
      have e_n2_b : (n2 = b) = False := eq_false d_n2_b
      have d_b_m : ¬ b = m := fun e => by rw [e, hm] at hb1; cases hb1
      have d_m_b : ¬ m = b := Ne.symm d_b_m
      have e_b_m : (b = m) = False := eq_false d_b_m
      have e_m_b : (m = b) = False := eq_false d_m_b
      simp (maxSteps := 1000000) -dsimp -implicitDefEqProofs only [go_sem, ↓reduceIte, keep43, ib43, mk43, Tryd.f43, hb, hm, e_n2_nb, e_n2_m, e_n2_b, e_nb_n2, e_nb_m, e_nb_b, e_m_n2, e_m_nb, e_m_b, e_b_n2, e_b_nb, e_b_m, upd_ne, upd_upd]
      rw [List.take_of_length_le (by rw [rowsOf_len]; exact Nat.le_refl _)]
      obtain ⟨g, hg, hR⟩ := H.addc ⟨7, n.getD 0 0, 0, 0⟩ hb1 (tapBox_odd S.inp true false) (F := upd (upd (upd h m .gone) b (.row 4 (rowsOf DInstr.c S.r.code ++ [[.v (.int .i64 7), .v (.int .i64 (n.getD 0 0)), .v (.int .i64 0), .v (.int .i64 0)]]))) nb (tapBox S.inp true false (S.r.addc ⟨7, n.getD 0 0, 0, 0⟩) (some b) none ov)) (upd_same _ _ _)
        (by rw [upd_ne _ _ _ _ d_b_nb, upd_same, rowsOf_snoc]; rfl) (fun k h1 h2 h3 => by rw [upd_ne _ _ _ _ h1, upd_ne _ _ _ _ h2, upd_ne _ _ _ _ (fun q => h3 (by rw [q]))])
      have hl0 : (S.r.addc ⟨7, n.getD 0 0, 0, 0⟩).code.length = S.r.code.length + 1 := by show (S.code ++ [_]).length = _; rw [List.length_append]; rfl
      unfold tapBox at hg
      simp only [hl0, onil_some] at hg
      simp only [RSt.addc] at hg
      refine fun _ => ⟨_, g, shift_le (Heap.le_trans hg ?_), ?_⟩
      · exact (leX_nil (by repeat' (first | exact leX_refl _ _ | refine leX_put (by simp only [upd_apply, ↓reduceIte, eq_self, if_true, e_n2_nb, e_n2_m, e_n2_b, e_nb_n2, e_nb_m, e_nb_b, e_m_n2, e_m_nb, e_m_b, e_b_n2, e_b_nb, e_b_m]) ?_ | refine leX_strip (by first | exact .inr (by assumption) | exact .inl (by simp)) ?_)))
      · refine ⟨⟨7, n.getD 0 0, 0, 0⟩, fun y hy => ?_, ?_, fin hR⟩
        · exact he1 y hy
        · exact he2
  · by_cases k2 : K ≤ 2
    · have e : instrT K n = if n.length = 1 then some ⟨K, 0, 0, n.getD 0 0⟩ else none := by rw [instrT, if_pos k2]
      have he1 : ∀ y, instrT K n = some y → (⟨K, 0, 0, n.getD 0 0⟩ : DInstr) = y := fun y hy => by rw [e] at hy; split at hy <;> cases hy; rfl
      have he2 : HVal.bool (decide ((n.length : Int) = 1)) = .bool (instrT K n).isSome := by rw [e]; split <;> rename_i q <;> simp [q]; omega
      rcases (by omega : K = 1 ∨ K = 2) with k1 | k1
      · subst k1
        simp (maxSteps := 1000000) -dsimp -implicitDefEqProofs only [go_sem, ↓reduceIte, keep43, ib43, mk43, Tryd.f43, hb, ea, e_n2_nb, e_nb_n2, upd_ne, upd_upd]
        refine ⟨by omega, ?_⟩
        cases om with
        | none =>
          have hc0 : S.code = [] := rowsOf_nil.1 hcd
          rw [onil_none]
          simp (maxSteps := 1000000) -dsimp -implicitDefEqProofs only [go_sem, ↓reduceIte, keep43, ib43, mk43, Tryd.f43, hb, ea, e_n2_nb, e_nb_n2, upd_ne, upd_upd]
          refine ⟨by decide, by decide, by decide, fun b ⟨hb2, hb1⟩ => ?_⟩
          have d_b_nb : ¬ b = nb := fun e => by rw [e, hb] at hb1; cases hb1
          have d_nb_b : ¬ nb = b := Ne.symm d_b_nb
          have e_b_nb : (b = nb) = False := eq_false d_b_nb
          have e_nb_b : (nb = b) = False := eq_false d_nb_b
          have d_b_n2 : ¬ b = n2 := hb2
          have d_n2_b : ¬ n2 = b := Ne.symm d_b_n2
          have e_b_n2 : (b = n2) = False := eq_false d_b_n2
          have e_n2_b : (n2 = b) = False := eq_false d_n2_b
          simp (maxSteps := 1000000) -dsimp -implicitDefEqProofs only [go_sem, ↓reduceIte, keep43, ib43, mk43, Tryd.f43, hb, e_n2_nb, e_n2_b, e_nb_n2, e_nb_b, e_b_n2, e_b_nb, upd_ne, upd_upd]
          obtain ⟨g, hg, hR⟩ := H.addc ⟨1, 0, 0, n.getD 0 0⟩ hb1 (tapBox_odd S.inp true false) (F := upd (upd h b (.row 4 [[.v (.int .i64 1), .v (.int .i64 0), .v (.int .i64 0), .v (.int .i64 (n.getD 0 0))]])) nb (tapBox S.inp true false (S.r.addc ⟨1, 0, 0, n.getD 0 0⟩) (some b) none ov)) (upd_same _ _ _)
            (by rw [upd_ne _ _ _ _ d_b_nb, upd_same, show S.r.code = [] from hc0]; rfl) (fun k h1 h2 _ => by rw [upd_ne _ _ _ _ h1, upd_ne _ _ _ _ h2])
          have hl0 : (S.r.addc ⟨1, 0, 0, n.getD 0 0⟩).code.length = 1 := by show (S.code ++ [_]).length = 1; rw [hc0]; rfl
          unfold tapBox at hg
          simp only [hl0, onil_some] at hg
          simp only [RSt.addc] at hg
          refine fun _ => ⟨_, g, shift_le (Heap.le_trans hg ?_), ?_⟩
          · exact (leX_nil (by repeat' (first | exact leX_refl _ _ | refine leX_put (by simp only [upd_apply, ↓reduceIte, eq_self, if_true, e_n2_nb, e_n2_b, e_nb_n2, e_nb_b, e_b_n2, e_b_nb]) ?_ | refine leX_strip (by first | exact .inr (by assumption) | exact .inl (by simp)) ?_)))
          · refine ⟨⟨1, 0, 0, n.getD 0 0⟩, fun y hy => ?_, ?_, fin hR⟩
            · exact he1 y hy
            · exact he2
        | some m =>
          have hm := hcd.2
          have d_m_nb : ¬ m = nb := fun e => by rw [e, hb] at hm; cases hm
          have d_nb_m : ¬ nb = m := Ne.symm d_m_nb
          have e_m_nb : (m = nb) = False := eq_false d_m_nb
          have e_nb_m : (nb = m) = False := eq_false d_nb_m
          have d_m_n2 : ¬ m = n2 := fun e => by rw [e, z2] at hm; cases hm
          have d_n2_m : ¬ n2 = m := Ne.symm d_m_n2
          have e_m_n2 : (m = n2) = False := eq_false d_m_n2
          have e_n2_m : (n2 = m) = False := eq_false d_n2_m
          simp (maxSteps := 1000000) -dsimp -implicitDefEqProofs only [go_sem, ↓reduceIte, keep43, ib43, mk43, Tryd.f43, hb, hm, ea, onil_some, e_n2_nb, e_n2_m, e_nb_n2, e_nb_m, e_m_n2, e_m_nb, upd_ne, upd_upd]
          refine ⟨by decide, by decide, by decide, by rw [rowsOf_len]; exact Nat.le_refl _, by omega, by omega, fun b ⟨hb2, hb1⟩ => ?_⟩
          have d_b_nb : ¬ b = nb := fun e => by rw [e, hb] at hb1; cases hb1
          have d_nb_b : ¬ nb = b := Ne.symm d_b_nb
          have e_b_nb : (b = nb) = False := eq_false d_b_nb
          have e_nb_b : (nb = b) = False := eq_false d_nb_b
          have d_b_n2 : ¬ b = n2 := hb2
          have d_n2_b : ¬ n2 = b := Ne.symm d_b_n2
          have e_b_n2 : (b = n2) = False := eq_false d_b_n2
          have e_n2_b : (n2 = b) = False := eq_false d_n2_b
          have d_b_m : ¬ b = m := fun e => by rw [e, hm] at hb1; cases hb1
          have d_m_b : ¬ m = b := Ne.symm d_b_m
          have e_b_m : (b = m) = False := eq_false d_b_m
          have e_m_b : (m = b) = False := eq_false d_m_b
          simp (maxSteps := 1000000) -dsimp -implicitDefEqProofs only [go_sem, ↓reduceIte, keep43, ib43, mk43, Tryd.f43, hb, hm, e_n2_nb, e_n2_m, e_n2_b, e_nb_n2, e_nb_m, e_nb_b, e_m_n2, e_m_nb, e_m_b, e_b_n2, e_b_nb, e_b_m, upd_ne, upd_upd]
          rw [List.take_of_length_le (by rw [rowsOf_len]; exact Nat.le_refl _)]
          obtain ⟨g, hg, hR⟩ := H.addc ⟨1, 0, 0, n.getD 0 0⟩ hb1 (tapBox_odd S.inp true false) (F := upd (upd (upd h m .gone) b (.row 4 (rowsOf DInstr.c S.r.code ++ [[.v (.int .i64 1), .v (.int .i64 0), .v (.int .i64 0), .v (.int .i64 (n.getD 0 0))]]))) nb (tapBox S.inp true false (S.r.addc ⟨1, 0, 0, n.getD 0 0⟩) (some b) none ov)) (upd_same _ _ _)
            (by rw [upd_ne _ _ _ _ d_b_nb, upd_same, rowsOf_snoc]; rfl) (fun k h1 h2 h3 => by rw [upd_ne _ _ _ _ h1, upd_ne _ _ _ _ h2, upd_ne _ _ _ _ (fun q => h3 (by rw [q]))])
          have hl0 : (S.r.addc ⟨1, 0, 0, n.getD 0 0⟩).code.length = S.r.code.length + 1 := by show (S.code ++ [_]).length = _; rw [List.length_append]; rfl
          unfold tapBox at hg
          simp only [hl0, onil_some] at hg
          simp only [RSt.addc] at hg
          refine fun _ => ⟨_, g, shift_le (Heap.le_trans hg ?_), ?_⟩
          · exact (leX_nil (by repeat' (first | exact leX_refl _ _ | refine leX_put (by simp only [upd_apply, ↓reduceIte, eq_self, if_true, e_n2_nb, e_n2_m, e_n2_b, e_nb_n2, e_nb_m, e_nb_b, e_m_n2, e_m_nb, e_m_b, e_b_n2, e_b_nb, e_b_m]) ?_ | refine leX_strip (by first | exact .inr (by assumption) | exact .inl (by simp)) ?_)))
          · refine ⟨⟨1, 0, 0, n.getD 0 0⟩, fun y hy => ?_, ?_, fin hR⟩
            · exact he1 y hy
            · exact he2
      · subst k1
        simp (maxSteps := 1000000) -dsimp -implicitDefEqProofs only [go_sem, ↓reduceIte, keep43, ib43, mk43, Tryd.f43, hb, ea, e_n2_nb, e_nb_n2, upd_ne, upd_upd]
        refine ⟨by omega, ?_⟩
        cases om with
        | none =>
          have hc0 : S.code = [] := rowsOf_nil.1 hcd
          rw [onil_none]
          simp (maxSteps := 1000000) -dsimp -implicitDefEqProofs only [go_sem, ↓reduceIte, keep43, ib43, mk43, Tryd.f43, hb, ea, e_n2_nb, e_nb_n2, upd_ne, upd_upd]
          refine ⟨by decide, by decide, by decide, fun b ⟨hb2, hb1⟩ => ?_⟩
          have d_b_nb : ¬ b = nb := fun e => by rw [e, hb] at hb1; cases hb1
          have d_nb_b : ¬ nb = b := Ne.symm d_b_nb
          have e_b_nb : (b = nb) = False := eq_false d_b_nb
          have e_nb_b : (nb = b) = False := eq_false d_nb_b
          have d_b_n2 : ¬ b = n2 := hb2
          have d_n2_b : ¬ n2 = b := Ne.symm d_b_n2
          have e_b_n2 : (b = n2) = False := eq_false d_b_n2
          have e_n2_b : (n2 = b) = False := eq_false d_n2_b
          simp (maxSteps := 1000000) -dsimp -implicitDefEqProofs only [go_sem, ↓reduceIte, keep43, ib43, mk43, Tryd.f43, hb, e_n2_nb, e_n2_b, e_nb_n2, e_nb_b, e_b_n2, e_b_nb, upd_ne, upd_upd]
          obtain ⟨g, hg, hR⟩ := H.addc ⟨2, 0, 0, n.getD 0 0⟩ hb1 (tapBox_odd S.inp true false) (F := upd (upd h b (.row 4 [[.v (.int .i64 2), .v (.int .i64 0), .v (.int .i64 0), .v (.int .i64 (n.getD 0 0))]])) nb (tapBox S.inp true false (S.r.addc ⟨2, 0, 0, n.getD 0 0⟩) (some b) none ov)) (upd_same _ _ _)
            (by rw [upd_ne _ _ _ _ d_b_nb, upd_same, show S.r.code = [] from hc0]; rfl) (fun k h1 h2 _ => by rw [upd_ne _ _ _ _ h1, upd_ne _ _ _ _ h2])
          have hl0 : (S.r.addc ⟨2, 0, 0, n.getD 0 0⟩).code.length = 1 := by show (S.code ++ [_]).length = 1; rw [hc0]; rfl
          unfold tapBox at hg
          simp only [hl0, onil_some] at hg
          simp only [RSt.addc] at hg
          refine fun _ => ⟨_, g, shift_le (Heap.le_trans hg ?_), ?_⟩
          · exact (leX_nil (by repeat' (first | exact leX_refl _ _ | refine leX_put (by simp only [upd_apply, ↓reduceIte, eq_self, if_true, e_n2_nb, e_n2_b, e_nb_n2, e_nb_b, e_b_n2, e_b_nb]) ?_ | refine leX_strip (by first | exact .inr (by assumption) | exact .inl (by simp)) ?_)))
          · refine ⟨⟨2, 0, 0, n.getD 0 0⟩, fun y hy => ?_, ?_, fin hR⟩
            · exact he1 y hy
            · exact he2
        | some m =>
          have hm := hcd.2
          have d_m_nb : ¬ m = nb := fun e => by rw [e, hb] at hm; cases hm
          have d_nb_m : ¬ nb = m := Ne.symm d_m_nb
          have e_m_nb : (m = nb) = False := eq_false d_m_nb
          have e_nb_m : (nb = m) = False := eq_false d_nb_m
          have d_m_n2 : ¬ m = n2 := fun e => by rw [e, z2] at hm; cases hm
          have d_n2_m : ¬ n2 = m := Ne.symm d_m_n2
          have e_m_n2 : (m = n2) = False := eq_false d_m_n2
          have e_n2_m : (n2 = m) = False := eq_false d_n2_m
          simp (maxSteps := 1000000) -dsimp -implicitDefEqProofs only [go_sem, ↓reduceIte, keep43, ib43, mk43, Tryd.f43, hb, hm, ea, onil_some, e_n2_nb, e_n2_m, e_nb_n2, e_nb_m, e_m_n2, e_m_nb, upd_ne, upd_upd]
          refine ⟨by decide, by decide, by decide, by rw [rowsOf_len]; exact Nat.le_refl _, by omega, by omega, fun b ⟨hb2, hb1⟩ => ?_⟩
          have d_b_nb : ¬ b = nb := fun e => by rw [e, hb] at hb1; cases hb1
          have d_nb_b : ¬ nb = b := Ne.symm d_b_nb
          have e_b_nb : (b = nb) = False := eq_false d_b_nb
          have e_nb_b : (nb = b) = False := eq_false d_nb_b
          have d_b_n2 : ¬ b = n2 := hb2
          have d_n2_b : ¬ n2 = b := Ne.symm d_b_n2
          have e_b_n2 : (b = n2) = False := eq_false d_b_n2
          have e_n2_b : (n2 = b) = False := eq_false d_n2_b
          have d_b_m : ¬ b = m := fun e => by rw [e, hm] at hb1; cases hb1
          have d_m_b : ¬ m = b := Ne.symm d_b_m
          have e_b_m : (b = m) = False := eq_false d_b_m
          have e_m_b : (m = b) = False := eq_false d_m_b
          simp (maxSteps := 1000000) -dsimp -implicitDefEqProofs only [go_sem, ↓reduceIte, keep43, ib43, mk43, Tryd.f43, hb, hm, e_n2_nb, e_n2_m, e_n2_b, e_nb_n2, e_nb_m, e_nb_b, e_m_n2, e_m_nb, e_m_b, e_b_n2, e_b_nb, e_b_m, upd_ne, upd_upd]
          rw [List.take_of_length_le (by rw [rowsOf_len]; exact Nat.le_refl _)]
          obtain ⟨g, hg, hR⟩ := H.addc ⟨2, 0, 0, n.getD 0 0⟩ hb1 (tapBox_odd S.inp true false) (F := upd (upd (upd h m .gone) b (.row 4 (rowsOf DInstr.c S.r.code ++ [[.v (.int .i64 2), .v (.int .i64 0), .v (.int .i64 0), .v (.int .i64 (n.getD 0 0))]]))) nb (tapBox S.inp true false (S.r.addc ⟨2, 0, 0, n.getD 0 0⟩) (some b) none ov)) (upd_same _ _ _)
            (by rw [upd_ne _ _ _ _ d_b_nb, upd_same, rowsOf_snoc]; rfl) (fun k h1 h2 h3 => by rw [upd_ne _ _ _ _ h1, upd_ne _ _ _ _ h2, upd_ne _ _ _ _ (fun q => h3 (by rw [q]))])
          have hl0 : (S.r.addc ⟨2, 0, 0, n.getD 0 0⟩).code.length = S.r.code.length + 1 := by show (S.code ++ [_]).length = _; rw [List.length_append]; rfl
          unfold tapBox at hg
          simp only [hl0, onil_some] at hg
          simp only [RSt.addc] at hg
          refine fun _ => ⟨_, g, shift_le (Heap.le_trans hg ?_), ?_⟩
          · exact (leX_nil (by repeat' (first | exact leX_refl _ _ | refine leX_put (by simp only [upd_apply, ↓reduceIte, eq_self, if_true, e_n2_nb, e_n2_m, e_n2_b, e_nb_n2, e_nb_m, e_nb_b, e_m_n2, e_m_nb, e_m_b, e_b_n2, e_b_nb, e_b_m]) ?_ | refine leX_strip (by first | exact .inr (by assumption) | exact .inl (by simp)) ?_)))
          · refine ⟨⟨2, 0, 0, n.getD 0 0⟩, fun y hy => ?_, ?_, fin hR⟩
            · exact he1 y hy
            · exact he2
    · have k1 : ¬ K = 1 := by omega
      have k3 : ¬ K = 2 := by omega
      have e : instrT K n = if n.length = 2 then some ⟨K, n.getD 0 0, n.getD 1 0, 0⟩ else none := by rw [instrT, if_neg k2, if_neg k7]
      have he1 : ∀ y, instrT K n = some y → (⟨K, n.getD 0 0, n.getD (n.length - 1) 0, 0⟩ : DInstr) = y := fun y hy => by
        rw [e] at hy
        split at hy
        · rename_i q; cases hy; rw [q]
        · cases hy
      have he2 : HVal.bool (decide ((n.length : Int) = 2)) = .bool (instrT K n).isSome := by rw [e]; split <;> rename_i q <;> simp [q]; omega
      have eb : n[Int.toNat ((n.length : Int) - 1)]? = some (n.getD (n.length - 1) 0) := by
        rw [show Int.toNat ((n.length : Int) - 1) = n.length - 1 by omega, List.getD_eq_getElem?_getD, List.getElem?_eq_getElem (by omega)]; rfl
      have ew : IntKind.i64.wrap ((n.length : Int) - 1) = (n.length : Int) - 1 := IntWalk.i64_in _ (by omega)
      simp (maxSteps := 1000000) -dsimp -implicitDefEqProofs only [go_sem, ↓reduceIte, keep43, ib43, mk43, Tryd.f43, hb, ea, eb, ew, k1, k3, k7, e_n2_nb, e_nb_n2, upd_ne, upd_upd]
      refine ⟨by omega, by omega, by omega, ?_⟩
      cases om with
      | none =>
        have hc0 : S.code = [] := rowsOf_nil.1 hcd
        rw [onil_none]
        simp (maxSteps := 1000000) -dsimp -implicitDefEqProofs only [go_sem, ↓reduceIte, keep43, ib43, mk43, Tryd.f43, hb, ea, eb, ew, e_n2_nb, e_nb_n2, upd_ne, upd_upd]
        refine ⟨by decide, by decide, by decide, fun b ⟨hb2, hb1⟩ => ?_⟩
        have d_b_nb : ¬ b = nb := fun e => by rw [e, hb] at hb1; cases hb1
        have d_nb_b : ¬ nb = b := Ne.symm d_b_nb
        have e_b_nb : (b = nb) = False := eq_false d_b_nb
        have e_nb_b : (nb = b) = False := eq_false d_nb_b
        have d_b_n2 : ¬ b = n2 := hb2
        have d_n2_b : ¬ n2 = b := Ne.symm d_b_n2
        have e_b_n2 : (b = n2) = False := eq_false d_b_n2
        have e_n2_b : (n2 = b) = False := eq_false d_n2_b
        simp (maxSteps := 1000000) -dsimp -implicitDefEqProofs only [go_sem, ↓reduceIte, keep43, ib43, mk43, Tryd.f43, hb, e_n2_nb, e_n2_b, e_nb_n2, e_nb_b, e_b_n2, e_b_nb, upd_ne, upd_upd]
        obtain ⟨g, hg, hR⟩ := H.addc ⟨K, n.getD 0 0, n.getD (n.length - 1) 0, 0⟩ hb1 (tapBox_odd S.inp true false) (F := upd (upd h b (.row 4 [[.v (.int .i64 K), .v (.int .i64 (n.getD 0 0)), .v (.int .i64 (n.getD (n.length - 1) 0)), .v (.int .i64 0)]])) nb (tapBox S.inp true false (S.r.addc ⟨K, n.getD 0 0, n.getD (n.length - 1) 0, 0⟩) (some b) none ov)) (upd_same _ _ _)
          (by rw [upd_ne _ _ _ _ d_b_nb, upd_same, show S.r.code = [] from hc0]; rfl) (fun k h1 h2 _ => by rw [upd_ne _ _ _ _ h1, upd_ne _ _ _ _ h2])
        have hl0 : (S.r.addc ⟨K, n.getD 0 0, n.getD (n.length - 1) 0, 0⟩).code.length = 1 := by show (S.code ++ [_]).length = 1; rw [hc0]; rfl
        unfold tapBox at hg
        simp only [hl0, onil_some] at hg
        simp only [RSt.addc] at hg
        refine fun _ => ⟨_, g, shift_le (Heap.le_trans hg ?_), ?_⟩
        · exact (leX_nil (by repeat' (first | exact leX_refl _ _ | refine leX_put (by simp only [upd_apply, ↓reduceIte, eq_self, if_true, e_n2_nb, e_n2_b, e_nb_n2, e_nb_b, e_b_n2, e_b_nb]) ?_ | refine leX_strip (by first | exact .inr (by assumption) | exact .inl (by simp)) ?_)))
        · refine ⟨⟨K, n.getD 0 0, n.getD (n.length - 1) 0, 0⟩, fun y hy => ?_, ?_, fin hR⟩
          · exact he1 y hy
          · exact he2
      | some m =>
        have hm := hcd.2
        have d_m_nb : ¬ m = nb := fun e => by rw [e, hb] at hm; cases hm
        have d_nb_m : ¬ nb = m := Ne.symm d_m_nb
        have e_m_nb : (m = nb) = False := eq_false d_m_nb
        have e_nb_m : (nb = m) = False := eq_false d_nb_m
        have d_m_n2 : ¬ m = n2 := fun e => by rw [e, z2] at hm; cases hm
        have d_n2_m : ¬ n2 = m := Ne.symm d_m_n2
        have e_m_n2 : (m = n2) = False := eq_false d_m_n2
        have e_n2_m : (n2 = m) = False := eq_false d_n2_m
        simp (maxSteps := 1000000) -dsimp -implicitDefEqProofs only [go_sem, ↓reduceIte, keep43, ib43, mk43, Tryd.f43, hb, hm, ea, eb, ew, onil_some, e_n2_nb, e_n2_m, e_nb_n2, e_nb_m, e_m_n2, e_m_nb, upd_ne, upd_upd]
        refine ⟨by decide, by decide, by decide, by rw [rowsOf_len]; exact Nat.le_refl _, by omega, by omega, fun b ⟨hb2, hb1⟩ => ?_⟩
        have d_b_nb : ¬ b = nb := fun e => by rw [e, hb] at hb1; cases hb1
        have d_nb_b : ¬ nb = b := Ne.symm d_b_nb
        have e_b_nb : (b = nb) = False := eq_false d_b_nb
        have e_nb_b : (nb = b) = False := eq_false d_nb_b
        have d_b_n2 : ¬ b = n2 := hb2
        have d_n2_b : ¬ n2 = b := Ne.symm d_b_n2
        have e_b_n2 : (b = n2) = False := eq_false d_b_n2
        have e_n2_b : (n2 = b) = False := eq_false d_n2_b
        have d_b_m : ¬ b = m := fun e => by rw [e, hm] at hb1; cases hb1
        have d_m_b : ¬ m = b := Ne.symm d_b_m
        have e_b_m : (b = m) = False := eq_false d_b_m
        have e_m_b : (m = b) = False := eq_false d_m_b
        simp (maxSteps := 1000000) -dsimp -implicitDefEqProofs only [go_sem, ↓reduceIte, keep43, ib43, mk43, Tryd.f43, hb, hm, e_n2_nb, e_n2_m, e_n2_b, e_nb_n2, e_nb_m, e_nb_b, e_m_n2, e_m_nb, e_m_b, e_b_n2, e_b_nb, e_b_m, upd_ne, upd_upd]
        rw [List.take_of_length_le (by rw [rowsOf_len]; exact Nat.le_refl _)]
        obtain ⟨g, hg, hR⟩ := H.addc ⟨K, n.getD 0 0, n.getD (n.length - 1) 0, 0⟩ hb1 (tapBox_odd S.inp true false) (F := upd (upd (upd h m .gone) b (.row 4 (rowsOf DInstr.c S.r.code ++ [[.v (.int .i64 K), .v (.int .i64 (n.getD 0 0)), .v (.int .i64 (n.getD (n.length - 1) 0)), .v (.int .i64 0)]]))) nb (tapBox S.inp true false (S.r.addc ⟨K, n.getD 0 0, n.getD (n.length - 1) 0, 0⟩) (some b) none ov)) (upd_same _ _ _)
          (by rw [upd_ne _ _ _ _ d_b_nb, upd_same, rowsOf_snoc]; rfl) (fun k h1 h2 h3 => by rw [upd_ne _ _ _ _ h1, upd_ne _ _ _ _ h2, upd_ne _ _ _ _ (fun q => h3 (by rw [q]))])
        have hl0 : (S.r.addc ⟨K, n.getD 0 0, n.getD (n.length - 1) 0, 0⟩).code.length = S.r.code.length + 1 := by show (S.code ++ [_]).length = _; rw [List.length_append]; rfl
        unfold tapBox at hg
        simp only [hl0, onil_some] at hg
        simp only [RSt.addc] at hg
        refine fun _ => ⟨_, g, shift_le (Heap.le_trans hg ?_), ?_⟩
        · exact (leX_nil (by repeat' (first | exact leX_refl _ _ | refine leX_put (by simp only [upd_apply, ↓reduceIte, eq_self, if_true, e_n2_nb, e_n2_m, e_n2_b, e_nb_n2, e_nb_m, e_nb_b, e_m_n2, e_m_nb, e_m_b, e_b_n2, e_b_nb, e_b_m]) ?_ | refine leX_strip (by first | exact .inr (by assumption) | exact .inl (by simp)) ?_)))
        · refine ⟨⟨K, n.getD 0 0, n.getD (n.length - 1) 0, 0⟩, fun y hy => ?_, ?_, fin hR⟩
          · exact he1 y hy
          · exact he2
set_option maxRecDepth 100000 in
/-- The last line. -/
theorem tline_out {h0 h : Heap} {nb : Nat} {S : TSt} (H : TapIn h0 nb S h) (s : List UInt8) (hs : s.length ≤ 50000) (r : List UInt8) (hc : Go.Lib.cut s [32] = (wOut, r, true)) (n : List Int) (hn : ¬ n = []) (hr : readL 100000 999999999 r = some n) (h1s : S.stage = 1 ∨ S.stage = 2) :
    HFn Tryd.prog 43 [.op nb 6 0 0, .str s] h fun r h' => r = .bool true ∧ TapIn h0 nb { S with outs := n, stage := 3 } h' := by
  have hcut := cutC s [32] (by omega)
  have hcl := cut_len s [32]
  rw [hc] at hcut hcl
  simp only at hcut hcl
  have hle : h0.le h := H.le
  obtain ⟨om, og, ov, H⟩ := H
  have hb := H.box
  unfold tapBox at hb
  have hrl := readListN r 100000 999999999 (by omega) (by omega) (by omega)
  rw [hr] at hrl
  simp only [Option.getD_some, Option.isSome_some] at hrl
  have hop := indexS tapWl true wOut (by decide)
  rw [show Go.Lib.idxOfS (tapWl.map fun s => (⟨s.toArray⟩ : ByteArray)) ⟨wOut.toArray⟩ = -1 by decide] at hop
  have hl : 0 < n.length := List.length_pos_iff.2 hn
  have s1 : decide (1 ≤ S.stage) = true := decide_eq_true (by omega)
  have s3 : decide (S.stage = 3) = false := decide_eq_false (by omega)
  rw [s1, s3] at hb H
  refine fnKF 163 keep43 ib43 mk43 mix Tryd.func43 rfl (by kernel_rfl) (by simp) ?_
  simp (maxSteps := 1000000) -dsimp -implicitDefEqProofs only [go_sem, ↓reduceIte, keep43, ib43, mk43, Tryd.f43, hb]
  first | refine HFnF.mk (hcut) ?_ | refine CallSF.mk (hcut) ?_ | refine HFnF.mkAt (hcut) ?_ | refine CallSF.mk (FnAt.fn0 (hcut)) ?_
  simp (maxSteps := 1000000) -dsimp -implicitDefEqProofs only [go_sem, ↓reduceIte, keep43, ib43, mk43, Tryd.f43]
  refine HFnF.wn0 hrl ?_
  rintro r_ l_ g ⟨y, oy, rfl, rfl⟩ wn
  obtain ⟨o, ho, hv, hg⟩ := ungrown oy wn
  cases o with
  | none => exact absurd ho hn
  | some k =>
    rw [oside_some] at ho
    rw [oval_some] at hv
    rw [oheap_some] at hg
    subst hg
    have d_k_nb : ¬ k = nb := fun e => by rw [e, hb] at ho; cases ho
    have d_nb_k : ¬ nb = k := Ne.symm d_k_nb
    have e_k_nb : (k = nb) = False := eq_false d_k_nb
    have e_nb_k : (nb = k) = False := eq_false d_nb_k
    have w1 : ¬ wOut = [116, 97, 112, 101] := by decide
    have w2 : (wOut = [111, 117, 116]) = True := eq_true rfl
    simp (maxSteps := 1000000) -dsimp -implicitDefEqProofs only [go_sem, ↓reduceIte, keep43, ib43, mk43, Tryd.f43, hb, hv, e_k_nb, e_nb_k, upd_ne, w1, w2, decide_false, decide_true]
    refine fun _ => ⟨fun h3 => ⟨fun q => absurd q (by decide), fun _ => ?_⟩, fun h3 => absurd h3 (by omega)⟩
    first | refine HFnF.mk (opWords) ?_ | refine CallSF.mk (opWords) ?_ | refine HFnF.mkAt (opWords) ?_ | refine CallSF.mk (FnAt.fn0 (opWords)) ?_
    simp (maxSteps := 1000000) -dsimp -implicitDefEqProofs only [go_sem, ↓reduceIte, keep43, ib43, mk43, Tryd.f43]
    refine HFnF.mk hop ?_
    simp (maxSteps := 1000000) -dsimp -implicitDefEqProofs only [go_sem, ↓reduceIte, keep43, ib43, mk43, Tryd.f43, hb, hv, e_k_nb, e_nb_k, upd_ne, w1, w2, decide_false, decide_true]
    rw [upd_upd]
    obtain ⟨g, hg, hR⟩ := H.seto n ho hn (tapBox_odd S.inp true true) (F := upd (upd h k (.row 1 ((n.map fun x => [I x]).map (List.map .v)))) nb (tapBox S.inp true true ⟨S.code, n, S.guards⟩ om og (some k))) (upd_same _ _ _) (by rw [upd_ne _ _ _ _ d_k_nb, upd_same]; rfl) (fun j h1 h2 _ => by rw [upd_ne _ _ _ _ h1, upd_ne _ _ _ _ h2])
    exact ⟨_, g, shift_le hg, rfl, om, og, some k, hR⟩
set_option maxRecDepth 100000 in
/-- A word that stands for nothing, or an instruction behind guards. -/
theorem tline_no {h0 h : Heap} {nb : Nat} {S : TSt} (H : TapIn h0 nb S h) (s : List UInt8) (hs : s.length ≤ 50000) (w r : List UInt8) (hw : ¬ w = wTape ∧ ¬ w = wOut ∧ ¬ w = wZero ∧ ¬ w = wOther) (hc : Go.Lib.cut s [32] = (w, r, true)) (n : List Int) (hn : ¬ n = []) (hr : readL 100000 999999999 r = some n) (h1s : S.stage = 1 ∨ S.stage = 2) (hno : opOf w = 0 ∨ ¬ S.guards = []) :
    HFn Tryd.prog 43 [.op nb 6 0 0, .str s] h fun r h' => r = .bool false ∧ h0.le h' := by
  have hcut := cutC s [32] (by omega)
  have hcl := cut_len s [32]
  rw [hc] at hcut hcl
  simp only at hcut hcl
  have hle : h0.le h := H.le
  obtain ⟨om, og, ov, H⟩ := H
  have hb := H.box
  unfold tapBox at hb
  have hrl := readList r 100000 999999999 (by omega) (by omega) (by omega)
  rw [hr] at hrl
  simp only [Option.getD_some, Option.isSome_some] at hrl
  have hl : 0 < n.length := List.length_pos_iff.2 hn
  have hop := indexS tapWl true w (by decide)
  rw [show Go.Lib.idxOfS (tapWl.map fun s => (⟨s.toArray⟩ : ByteArray)) ⟨w.toArray⟩ = opOf w - 1 by rw [opOf]; omega] at hop
  have hK : 0 ≤ opOf w ∧ opOf w ≤ 7 := by rcases opOf_cases w with q | q <;> omega
  obtain ⟨w1, w2, w3, w4⟩ := hw
  unfold wTape at w1; unfold wOut at w2; unfold wZero at w3; unfold wOther at w4
  have s1 : decide (1 ≤ S.stage) = true := decide_eq_true (by omega)
  have s3 : decide (S.stage = 3) = false := decide_eq_false (by omega)
  rw [s1, s3] at hb H
  have hgd := H.gds
  generalize opOf w = K at *
  refine fnKF 163 keep43 ib43 mk43 mix Tryd.func43 rfl (by kernel_rfl) (by simp) ?_
  simp (maxSteps := 1000000) -dsimp -implicitDefEqProofs only [go_sem, ↓reduceIte, keep43, ib43, mk43, Tryd.f43, hb]
  first | refine HFnF.mk (hcut) ?_ | refine CallSF.mk (hcut) ?_ | refine HFnF.mkAt (hcut) ?_ | refine CallSF.mk (FnAt.fn0 (hcut)) ?_
  simp (maxSteps := 1000000) -dsimp -implicitDefEqProofs only [go_sem, ↓reduceIte, keep43, ib43, mk43, Tryd.f43]
  first | refine HFnF.mk (hrl) ?_ | refine CallSF.mk (hrl) ?_ | refine HFnF.mkAt (hrl) ?_ | refine CallSF.mk (FnAt.fn0 (hrl)) ?_
  simp (maxSteps := 1000000) -dsimp -implicitDefEqProofs only [go_sem, ↓reduceIte, keep43, ib43, mk43, Tryd.f43]
  simp (maxSteps := 1000000) -dsimp -implicitDefEqProofs only [go_sem, ↓reduceIte, keep43, ib43, mk43, Tryd.f43, hb, w1, w2, decide_false]
  refine fun _ => ⟨fun h3 => ⟨fun q => absurd q (by decide), fun _ => ?_⟩, fun h3 => absurd h3 (by omega)⟩
  first | refine HFnF.mk (opWords) ?_ | refine CallSF.mk (opWords) ?_ | refine HFnF.mkAt (opWords) ?_ | refine CallSF.mk (FnAt.fn0 (opWords)) ?_
  simp (maxSteps := 1000000) -dsimp -implicitDefEqProofs only [go_sem, ↓reduceIte, keep43, ib43, mk43, Tryd.f43]
  refine HFnF.mk hop ?_
  cases og with
  | none =>
    have hg0 : S.guards = [] := rowsOf_nil.1 hgd
    have hK0 : K = 0 := hno.resolve_right fun q => q hg0
    have e0 : IntKind.i64.wrap ((0 : Int) - 1 + 1) = 0 := rfl
    simp (maxSteps := 1000000) -dsimp -implicitDefEqProofs only [go_sem, ↓reduceIte, keep43, ib43, mk43, Tryd.f43, hb, w1, w2, w3, w4, onil_none, decide_false, hK0, e0]
    exact ⟨_, h, shift_le (Heap.le_refl _), rfl, hle⟩
  | some m =>
    have hg0 : ¬ S.guards = [] := fun q => hgd.1 (by show rowsOf DGuard.c S.guards = []; rw [q]; rfl)
    have hgl : 0 < S.r.guards.length := List.length_pos_iff.2 hg0
    simp (maxSteps := 1000000) -dsimp -implicitDefEqProofs only [go_sem, ↓reduceIte, keep43, ib43, mk43, Tryd.f43, hb, w1, w2, w3, w4, onil_some, decide_false]
    rw [IntWalk.i64_in (K - 1 + 1) (by omega), show K - 1 + 1 = K by omega]
    refine ⟨fun _ _ => ⟨fun _ => ⟨_, h, shift_le (Heap.le_refl _), rfl, hle⟩, fun q => absurd hgl (by omega)⟩, fun _ => ⟨_, h, shift_le (Heap.le_refl _), rfl, hle⟩⟩
theorem wordT_off {w : List UInt8} {n : List Int} {S : TSt} (hf : S.fit) (h : S.stage = 3 ∨ (1 ≤ S.stage ↔ w = wTape)) : wordT w n S = none := by
  obtain ⟨f0, f1, f2, f3⟩ := hf
  unfold wordT
  by_cases ht : w = wTape
  · rw [if_pos ht, if_neg]
    rintro ⟨q, _⟩
    rcases h with h | h
    · omega
    · have := h.2 ht; omega
  · rw [if_neg ht]
    have hs : S.stage = 3 ∨ S.stage = 0 := by
      rcases h with h | h
      · exact .inl h
      · right
        have : ¬ 1 ≤ S.stage := fun q => ht (h.1 q)
        omega
    have h12 : ¬ (S.stage = 1 ∨ S.stage = 2) := by omega
    have h1 : ¬ S.stage = 1 := by omega
    have A1 : ¬ (n.length = 1 ∧ (S.stage = 1 ∨ S.stage = 2)) := fun q => h12 q.2
    have h2 : ¬ S.stage = 2 := by omega
    simp only [A1, h12, ↓reduceIte]
    repeat' split
    all_goals first
      | rfl
      | exact absurd (by assumption) h1
      | (exfalso; simp_all)
/-- impl's reader of a line. -/
theorem tline {h0 h : Heap} {nb : Nat} {S : TSt} (H : TapIn h0 nb S h) (hf : S.fit) (s : List UInt8) (hs : s.length ≤ 50000) (hc1 : S.code.length ≤ 1048576) (hc2 : S.guards.length ≤ 1048576) :
    HFn Tryd.prog 43 [.op nb 6 0 0, .str s] h fun r h' => r = .bool (lineT s S).isSome ∧ h0.le h' ∧ ∀ S', lineT s S = some S' → TapIn h0 nb S' h' := by
  have no : lineT s S = none → ∀ (r : HVal) (h' : Heap), (r = .bool false ∧ h0.le h') → r = .bool (lineT s S).isSome ∧ h0.le h' ∧ ∀ S', lineT s S = some S' → TapIn h0 nb S' h' := fun e r h' q => ⟨by rw [e]; exact q.1, q.2, fun S' z => by rw [e] at z; cases z⟩
  rcases line_cut s hs with ⟨w, r, hc, hw, ⟨h1, h2⟩ | ⟨n, hn, h1, h2⟩⟩ | ⟨h1, h2⟩
  · exact (tline_bad H s hs w r true hc (.inr h2)).mono (no (by rw [lineT, h1]))
  · have e : lineT s S = wordT w n S := by simp only [lineT, h1]; rw [if_neg hn, hw]
    have off := wordT_off (w := w) (n := n) hf
    have yes : ∀ (c : Prop) [Decidable c] (S2 : TSt), lineT s S = (if c then some S2 else none) → ∀ (r : HVal) (h' : Heap), (r = .bool (decide c) ∧ TapIn h0 nb S2 h') → r = .bool (lineT s S).isSome ∧ h0.le h' ∧ ∀ S', lineT s S = some S' → TapIn h0 nb S' h' := fun c _ S2 z r h' q => by
      rw [z]
      refine ⟨q.1.trans ?_, q.2.le, fun S' y => ?_⟩
      · split <;> simp [*]
      · split at y
        · cases y; exact q.2
        · cases y
    by_cases ho : S.stage = 3 ∨ (1 ≤ S.stage ↔ w = wTape)
    · exact (tline_off H s hs w r hc n hn h2 ho).mono (no (e.trans (off ho)))
    · obtain ⟨f0, f1, f2, f3⟩ := hf
      have hno3 : ¬ S.stage = 3 := fun q => ho (.inl q)
      by_cases ht : w = wTape
      · subst ht
        have h0s : S.stage = 0 := by
          have : ¬ 1 ≤ S.stage := fun q => ho (.inr ⟨fun _ => rfl, fun _ => q⟩)
          omega
        refine (tline_tape H s hs r hc n hn h2 h0s).mono (yes _ _ ?_)
        rw [e, wordT, if_pos rfl]
        by_cases q : n.length = 1
        · rw [if_pos ⟨h0s, q⟩, if_pos q]
        · rw [if_neg fun z => q z.2, if_neg q]
      · have h1s : S.stage = 1 ∨ S.stage = 2 := by
          have : 1 ≤ S.stage := Classical.byContradiction fun q => ho (.inr ⟨fun z => absurd z q, fun z => absurd z ht⟩)
          omega
        by_cases hz : w = wZero ∨ w = wOther
        · refine (tline_guard H s hs w r hz hc n hn h2 h1s hc2).mono (yes _ _ ?_)
          rw [e, wordT, if_neg ht, if_pos hz]
          by_cases q : n.length = 1
          · rw [if_pos ⟨q, h1s⟩, if_pos q]
          · rw [if_neg fun z => q z.1, if_neg q]
        · by_cases hou : w = wOut
          · subst hou
            refine (tline_out H s hs r hc n hn h2 h1s).mono fun r h' q => yes True _ ?_ r h' ⟨q.1, q.2⟩
            rw [e, wordT, if_neg ht, if_neg hz, if_pos rfl, if_pos h1s, if_pos trivial]
          · have e2 : wordT w n S = if opOf w = 0 then none else match instrT (opOf w) n with | none => none | some x => if S.stage = 1 then some { S with code := S.code ++ [x] } else none := by
              rw [wordT, if_neg ht, if_neg hz, if_neg hou]
              rfl
            by_cases hno : opOf w = 0 ∨ ¬ S.guards = []
            · refine (tline_no H s hs w r ⟨ht, hou, fun q => hz (.inl q), fun q => hz (.inr q)⟩ hc n hn h2 h1s hno).mono (no ?_)
              rw [e, e2]
              rcases hno with q | q
              · rw [if_pos q]
              · split
                · rfl
                · cases instrT (opOf w) n with
                  | none => rfl
                  | some x => exact if_neg fun z => q (f2 (by omega))
            · have hop : 1 ≤ opOf w ∧ opOf w ≤ 7 := by
                rcases opOf_cases w with q | q
                · exact absurd (.inl q.1) hno
                · exact ⟨q.1, q.2.1⟩
              have hg0 : S.guards = [] := Classical.byContradiction fun q => hno (.inr q)
              have h1 : S.stage = 1 := by
                rcases h1s with q | q
                · exact q
                · exact absurd hg0 (f3 q)
              refine (tline_op H s hs w r hop hc n hn h2 h1 hg0 hc1).mono fun r h' q => ?_
              obtain ⟨x, hx, hr, hT⟩ := q
              rw [e]
              cases hi : instrT (opOf w) n with
              | none =>
                have e3 : wordT w n S = none := by rw [e2, if_neg (by omega), hi]
                rw [e3]
                exact ⟨by rw [hr, hi]; rfl, hT.le, fun S' z => by cases z⟩
              | some y =>
                have e3 : wordT w n S = some { S with code := S.code ++ [y] } := by rw [e2, if_neg (by omega), hi]; exact if_pos h1
                rw [hx y hi] at hT
                rw [e3]
                exact ⟨by rw [hr, hi]; rfl, hT.le, fun S' z => by cases z; exact hT⟩
  · rcases hcu : Go.Lib.cut s [32] with ⟨w, r, has⟩
    rw [hcu] at h1
    refine (tline_bad H s hs w r has hcu (.inl h1)).mono (no ?_)
    simp only [lineT, h2, ↓reduceIte]
open Go.Proofs
set_option linter.unusedVariables false
set_option linter.unusedSimpArgs false
def keep77 : List Nat := [0, 2, 3, 4, 5, 6, 7, 12, 24]
def ib77 : List Nat := [8, 25, 28]
def mk77 : Marks := fun _ => ([], .nil, [])
set_option maxRecDepth 100000 in
theorem l04NumbersN (a : List UInt8) (ps : List (List UInt8)) (t : Bool) (hl : ps.length ≤ 1048600) (hs : ∀ p ∈ ps, p.length ≤ 1048600) : FnN Tryd.prog 77 [.sl 1 ((a :: ps).map fun s => [.str s]) t] (QS (OS (oP I) 1 ((toNums 999999999 ps).getD [])) (fun y => .tup [y, .bool (toNums 999999999 ps).isSome])) := by
  have hql : (a :: ps).length = ps.length + 1 := rfl
  have hqi : ∀ k, (a :: ps)[k + 1]? = ps[k]? := fun k => rfl
  generalize (a :: ps) = qs at *
  refine fnNF 31 keep77 ib77 mk77 mix Tryd.func77 rfl (by kernel_rfl) (by simp) fun h => ?_
  simp (maxSteps := 1000000) -dsimp -implicitDefEqProofs only [go_sem, ↓reduceIte, keep77, ib77, mk77, Tryd.f77]
  repeat' (with_reducible first | intro _ | refine And.intro ?_ ?_)
  all_goals try (first | omega | decide)
  refine loopF (keep := keep77) (ib := ib77) (mk := mk77) mix (by kernel_rfl) (fun x : Nat × Option Nat => [(0, .sl 1 (qs.map fun s => [.str s]) t), (4, oval 1 (x.1 - 1) x.2), (5, I x.1)]) (fun x => oheap h (.row 1 ((((ps.take (x.1 - 1)).map rdN).map fun n => [I n]).map (List.map .v))) x.2) (fun x => 1 ≤ x.1 ∧ x.1 ≤ qs.length ∧ oside h (ps.take (x.1 - 1)) x.2 ∧ ∀ p ∈ ps.take (x.1 - 1), rdOK 999999999 p) (fun x => qs.length - x.1) (1, none) (by simp [SatL, tget, Heap.le_refl, oval, oheap, oside, hql]) ?_
  rintro ⟨i, o⟩ ⟨hi1, hi, ho, hok⟩
  simp only at hi1 hi ho hok ⊢
  obtain ⟨k, hik⟩ : ∃ k, i = k + 1 := ⟨i - 1, by omega⟩
  have hk1 : i - 1 = k := by omega
  have hk2 : i + 1 - 1 = k + 1 := by omega
  rw [hk1] at ho hok ⊢
  rcases Nat.lt_or_ge k ps.length with hlt | hge
  · have ea : qs[i]? = some ps[k] := by rw [hik, hqi]; exact List.getElem?_eq_getElem hlt
    have hiq : i < qs.length := by omega
    have hrd := specReadDecimal ps[k] (hs _ (List.getElem_mem hlt))
    by_cases hq : rdOK 999999999 ps[k]
    · rw [if_pos hq, decide_eq_true hq] at hrd
      have h0 := hq.1
      have hok2 : ∀ p ∈ ps.take (k + 1), rdOK 999999999 p := fun p hp => by
        rw [List.take_succ_eq_append_getElem hlt] at hp
        rcases List.mem_append.1 hp with hp | hp
        · exact hok p hp
        · rw [List.mem_singleton.1 hp]; exact hq
      have hmap : (ps.take (k + 1)).map rdN = (ps.take k).map rdN ++ [rdN ps[k]] := by
        rw [List.take_succ_eq_append_getElem hlt, List.map_append]; rfl
      cases o with
      | none =>
        rw [oside_none] at ho
        have hk0 : k = 0 := by
          have := congrArg List.length ho
          rw [List.length_take, List.length_nil] at this
          omega
        subst hk0
        simp (maxSteps := 1000000) -dsimp -implicitDefEqProofs only [go_sem, ↓reduceIte, keep77, ib77, mk77, Tryd.f77, oval_none, oheap_none, ea]
        refine fun _ => ⟨fun _ => ⟨hiq, ?_⟩, fun q => absurd hiq q⟩
        first | refine HFnF.mk (hrd) ?_ | refine CallSF.mk (hrd) ?_ | refine HFnF.mkAt (hrd) ?_ | refine CallSF.mk (FnAt.fn0 (hrd)) ?_
        simp (maxSteps := 1000000) -dsimp -implicitDefEqProofs only [go_sem, ↓reduceIte, keep77, ib77, mk77, Tryd.f77]
        refine ⟨by decide, by decide, by decide, fun n hn => ⟨(i + 1, some n), ?_⟩⟩
        simp only [oheap_some, oval_some, oside_some]
        rw [hk2, hmap, ho]
        exact ⟨⟨rfl, IntWalk.i64_in _ (by omega)⟩, Heap.le_refl _, ⟨by omega, by omega, hn, hok2⟩, by omega⟩
      | some n =>
        rw [oside_some] at ho
        simp (maxSteps := 1000000) -dsimp -implicitDefEqProofs only [go_sem, ↓reduceIte, keep77, ib77, mk77, Tryd.f77, oval_some, oheap_some, ea]
        refine fun _ => ⟨fun _ => ⟨hiq, ?_⟩, fun q => absurd hiq q⟩
        first | refine HFnF.mk (hrd) ?_ | refine CallSF.mk (hrd) ?_ | refine HFnF.mkAt (hrd) ?_ | refine CallSF.mk (FnAt.fn0 (hrd)) ?_
        simp (maxSteps := 1000000) -dsimp -implicitDefEqProofs only [go_sem, ↓reduceIte, keep77, ib77, mk77, Tryd.f77]
        refine ⟨by decide, by decide, by decide, by rw [List.length_take]; omega, by omega, by omega, fun b hb => ⟨(i + 1, some b), ?_⟩⟩
        simp only [oheap_some, oval_some, oside_some]
        rw [hk2, hmap]
        refine ⟨⟨rfl, IntWalk.i64_in _ (by omega)⟩, ?_, ⟨by omega, by omega, hb.2, hok2⟩, by omega⟩
        have hg := grow_row I ((ps.take k).map rdN) (rdN ps[k])
        rw [List.length_map, List.length_take, Nat.min_eq_left (Nat.le_of_lt hlt)] at hg
        rw [hg]; exact le_app ho
    · rw [if_neg hq, decide_eq_false hq] at hrd
      have hnn : toNums 999999999 ps = none := by rw [toNums, if_neg fun z => hq (z _ (List.getElem_mem hlt))]
      rw [hnn]
      cases o with
      | none =>
        simp (maxSteps := 1000000) -dsimp -implicitDefEqProofs only [go_sem, ↓reduceIte, keep77, ib77, mk77, Tryd.f77, oval_none, oheap_none, ea]
        refine fun _ => ⟨fun _ => ⟨hiq, ?_⟩, fun q => absurd hiq q⟩
        first | refine HFnF.mk (hrd) ?_ | refine CallSF.mk (hrd) ?_ | refine HFnF.mkAt (hrd) ?_ | refine CallSF.mk (FnAt.fn0 (hrd)) ?_
        simp (maxSteps := 1000000) -dsimp -implicitDefEqProofs only [go_sem, ↓reduceIte, keep77, ib77, mk77, Tryd.f77]
        exact ⟨by decide, own_empW (fun y => .tup [y, .bool false]) (wsub_tup [] [_]) (Sub.refl _) (Heap.le_refl _) rfl⟩
      | some n =>
        rw [oside_some] at ho
        simp (maxSteps := 1000000) -dsimp -implicitDefEqProofs only [go_sem, ↓reduceIte, keep77, ib77, mk77, Tryd.f77, oval_some, oheap_some, ea]
        refine fun _ => ⟨fun _ => ⟨hiq, ?_⟩, fun q => absurd hiq q⟩
        first | refine HFnF.mk (hrd) ?_ | refine CallSF.mk (hrd) ?_ | refine HFnF.mkAt (hrd) ?_ | refine CallSF.mk (FnAt.fn0 (hrd)) ?_
        simp (maxSteps := 1000000) -dsimp -implicitDefEqProofs only [go_sem, ↓reduceIte, keep77, ib77, mk77, Tryd.f77]
        exact ⟨by decide, own_empW (fun y => .tup [y, .bool false]) (wsub_tup [] [_]) (Sub.refl _) (Heap.le_upd ho (Heap.le_refl _)) rfl⟩
  · have hk' : k = ps.length := by omega
    have hnlt : ¬ i < qs.length := by omega
    rw [hk', List.take_length] at hok ho
    have hnn : toNums 999999999 ps = some (ps.map rdN) := by rw [toNums, if_pos hok]
    rw [hnn, hk', List.take_length]
    cases o with
    | none =>
      simp (maxSteps := 1000000) -dsimp -implicitDefEqProofs only [go_sem, ↓reduceIte, keep77, ib77, mk77, Tryd.f77, oval_none, oheap_none, hnlt]
      intro _
      exact own_empW (fun y => .tup [y, .bool true]) (wsub_tup [] [_]) (Sub.refl _) (Heap.le_refl _) (by rw [oside_none] at ho; rw [ho]; rfl)
    | some n =>
      simp (maxSteps := 1000000) -dsimp -implicitDefEqProofs only [go_sem, ↓reduceIte, keep77, ib77, mk77, Tryd.f77, oval_some, oheap_some, hnlt]
      rw [oside_some] at ho
      intro _
      exact own_rowW (fun y => .tup [y, .bool true]) ho (Heap.le_refl _) (by simp)
theorem l04Numbers (a : List UInt8) (ps : List (List UInt8)) (t : Bool) (hl : ps.length ≤ 1048600) (hs : ∀ p ∈ ps, p.length ≤ 1048600) : Fn0 Tryd.prog 77 [.sl 1 ((a :: ps).map fun s => [.str s]) t] (.tup [sls 1 (fun n => [I n]) ((toNums 999999999 ps).getD []), .bool (toNums 999999999 ps).isSome]) :=
  QS.fn0W (w := fun y => .tup [y, .bool (toNums 999999999 ps).isSome]) (l04NumbersN a ps t hl hs) (fun y hy => OS.dat (c := fun n => [I n]) (fun _ _ q => oP_dat q) hy) (wrap_tup [] [_])
def keep98 : List Nat := [0]
def ib98 : List Nat := [1]
def mk98 : Marks := fun _ => ([], .nil, [])
def specWl : List (List UInt8) := [] :: tapWl
theorem l04Words : Fn0 Tryd.prog 98 [] (.sl 1 (specWl.map fun s => [.str s]) true) := by
  refine fn0F 2 keep98 ib98 mk98 mix Tryd.func98 rfl (by kernel_rfl) (by simp) fun h => ?_
  simp (maxSteps := 1000000) -dsimp -implicitDefEqProofs only [go_sem, ↓reduceIte, keep98, ib98, mk98, Tryd.f98]
  exact ⟨by decide, by decide, rfl⟩
def keep78 : List Nat := [0, 1, 2, 6, 7, 8, 9, 12, 20, 23, 35, 47]
def ib78 : List Nat := [74]
def mk78 : Marks := fun id => match id with | 15 => ([5, 6, 8, 12], (.op 0 (.op 1 (.op 2 (.op 3 (.op 4 (.op 5 (.op 6 (.op 7 (.op 8 (.op 9 (.op 10 (.op 11 (.op 12 .nil))))))))))))), []) | _ => ([], .nil, [])
theorem opOf_word {k : Int} (h : 1 ≤ k ∧ k ≤ 7) : opOf (tapWord k) = k := by
  rcases (by omega : k = 1 ∨ k = 2 ∨ k = 3 ∨ k = 4 ∨ k = 5 ∨ k = 6 ∨ k = 7) with rfl | rfl | rfl | rfl | rfl | rfl | rfl
  all_goals decide
/-- What a reader of an instruction's line leaves. -/
def InsQ (h0 : Heap) (nb : Nat) (S : TSt) (w : List UInt8) (n : List Int) (r : HVal) (h' : Heap) : Prop :=
  ∃ b : Bool, r = .bool b ∧ h0.le h' ∧ (b = true ↔ S.stage = 1 ∧ ¬ opOf w = 0 ∧ (instrT (opOf w) n).isSome = true) ∧ ∀ x, ¬ opOf w = 0 → instrT (opOf w) n = some x → StgIn h0 nb { S with code := S.code ++ [x] } h'
theorem InsQ.no {h0 h' : Heap} {nb : Nat} {S : TSt} {w : List UInt8} {n : List Int} (hl : h0.le h') (h : opOf w = 0 ∨ instrT (opOf w) n = none) : InsQ h0 nb S w n (.bool false) h' := by
  refine ⟨false, rfl, hl, ⟨(fun q => by cases q), fun q => ?_⟩, fun x h1 h2 => ?_⟩
  · rcases h with e | e
    · exact absurd e q.2.1
    · rw [e] at q; exact q.2.2
  · rcases h with e | e
    · exact absurd e h1
    · rw [e] at h2; cases h2
theorem InsQ.yes {h0 h' : Heap} {nb : Nat} {S : TSt} {w : List UInt8} {n : List Int} {x : DInstr} {K : Int} (hK : 1 ≤ K) (e : opOf w = K) (hi : instrT K n = some x) (hR : StgIn h0 nb { S with code := S.code ++ [x] } h') : InsQ h0 nb S w n (.bool (decide (S.stage = 1))) h' := by
  refine ⟨_, rfl, hR.le, ?_, fun y h1 h2 => ?_⟩
  · rw [decide_eq_true_eq, e, hi]
    exact ⟨fun q => ⟨q, by omega, rfl⟩, fun q => q.1⟩
  · rw [e, hi] at h2; cases h2; exact hR
set_option maxRecDepth 100000 in
/-- spec's reader of an instruction's line. -/
theorem sinstr {h0 h : Heap} {nb : Nat} {S : TSt} (H : StgIn h0 nb S h) (w : List UInt8) (n : List Int) (hcap : S.code.length ≤ 1048576) :
    HFn Tryd.prog 78 [.op nb 5 0 0, .str w, sls 1 (fun n => [I n]) n] h (InsQ h0 nb S w n) := by
  have hle : h0.le h := H.le
  obtain ⟨om, og, ov, H⟩ := H
  have hb := H.box
  unfold stgBox at hb
  have hcd := H.code
  have hop := opOf_cases w
  refine fnKF 84 keep78 ib78 mk78 mix Tryd.func78 rfl (by kernel_rfl) (by simp) ?_
  simp (maxSteps := 1000000) -dsimp -implicitDefEqProofs only [go_sem, ↓reduceIte, keep78, ib78, mk78, Tryd.f78, hb]
  first | refine HFnF.mk (l04Words) ?_ | refine CallSF.mk (l04Words) ?_ | refine HFnF.mkAt (l04Words) ?_ | refine CallSF.mk (FnAt.fn0 (l04Words)) ?_
  simp (maxSteps := 1000000) -dsimp -implicitDefEqProofs only [go_sem, ↓reduceIte, keep78, ib78, mk78, Tryd.f78]
  refine loopF (keep := keep78) (ib := ib78) (mk := mk78) mix (by kernel_rfl) (fun k : Nat => [(0, .op nb 5 0 0), (1, .str w), (2, sls 1 (fun n => [I n]) n), (7, .sl 1 (specWl.map fun s => [.str s]) true), (8, I k)]) (fun _ => h) (fun k => (1 ≤ k ∧ k ≤ 8) ∧ ∀ j : Int, 1 ≤ j → j < k → ¬ tapWord j = w) (fun k => 8 - k) 1 ⟨by simp [SatL, tget], Heap.le_refl _, ⟨by omega, by omega⟩, fun j h1 h2 => by omega⟩ ?_
  rintro k ⟨⟨hk1, hk2⟩, hno⟩
  rcases Nat.lt_or_ge k 8 with hlt | hge
  · have ea : specWl[k]? = some (tapWord k) := by
      rcases (by omega : k = 1 ∨ k = 2 ∨ k = 3 ∨ k = 4 ∨ k = 5 ∨ k = 6 ∨ k = 7) with rfl | rfl | rfl | rfl | rfl | rfl | rfl <;> rfl
    have hsl : k < specWl.length := hlt
    by_cases hw : tapWord k = w
    · have hK : opOf w = k := by rw [← hw]; exact opOf_word ⟨by omega, by omega⟩
      have ew : (tapWord k = w) = True := eq_true hw
      have hcap' : S.r.code.length ≤ 1048576 := hcap
      have ea0 : 0 < n.length → n[Int.toNat 0]? = some (n.getD 0 0) := fun q => by
        show n[0]? = _
        rw [List.getD_eq_getElem?_getD, List.getElem?_eq_getElem q]; rfl
      have ea1 : 1 < n.length → n[Int.toNat 1]? = some (n.getD 1 0) := fun q => by
        show n[1]? = _
        rw [List.getD_eq_getElem?_getD, List.getElem?_eq_getElem q]; rfl
      by_cases k2 : k ≤ 2
      · have c1 : ((k : Int) ≤ 2) = True := eq_true (by omega)
        have e : instrT k n = if n.length = 1 then some ⟨k, 0, 0, n.getD 0 0⟩ else none := by rw [instrT, if_pos (by omega)]
        by_cases hn : n.length = 1
        · rw [if_pos hn] at e
          have c2 : ((n.length : Int) = 1) = True := eq_true (by omega)
          have eb := ea0 (by omega)
          cases om with
          | none =>
            have hc0 : S.code = [] := rowsOf_nil.1 hcd
            rw [onil_none] at hb
            simp (maxSteps := 1000000) -dsimp -implicitDefEqProofs only [go_sem, ↓reduceIte, keep78, ib78, mk78, Tryd.f78, hb, ea, ew, c1, c2, eb, onil_none]
            refine ⟨fun _ => ⟨hsl, fun n2 z2 => ?_⟩, fun q => absurd q (by omega)⟩
            have d_n2_nb : ¬ n2 = nb := fun e => by rw [e, hb] at z2; cases z2
            have d_nb_n2 : ¬ nb = n2 := Ne.symm d_n2_nb
            have e_n2_nb : (n2 = nb) = False := eq_false d_n2_nb
            have e_nb_n2 : (nb = n2) = False := eq_false d_nb_n2
            simp (maxSteps := 1000000) -dsimp -implicitDefEqProofs only [go_sem, ↓reduceIte, keep78, ib78, mk78, Tryd.f78, hb, ea, ew, c1, c2, eb, e_n2_nb, e_nb_n2, upd_ne, upd_upd]
            refine fun _ => ⟨by omega, ?_⟩
            refine ⟨by decide, by decide, by decide, fun b ⟨hb2, hb1⟩ => ?_⟩
            have d_b_nb : ¬ b = nb := fun e => by rw [e, hb] at hb1; cases hb1
            have d_nb_b : ¬ nb = b := Ne.symm d_b_nb
            have e_b_nb : (b = nb) = False := eq_false d_b_nb
            have e_nb_b : (nb = b) = False := eq_false d_nb_b
            have d_b_n2 : ¬ b = n2 := hb2
            have d_n2_b : ¬ n2 = b := Ne.symm d_b_n2
            have e_b_n2 : (b = n2) = False := eq_false d_b_n2
            have e_n2_b : (n2 = b) = False := eq_false d_n2_b
            simp (maxSteps := 1000000) -dsimp -implicitDefEqProofs only [go_sem, ↓reduceIte, keep78, ib78, mk78, Tryd.f78, hb, e_n2_nb, e_n2_b, e_nb_n2, e_nb_b, e_b_n2, e_b_nb, upd_ne, upd_upd]
            obtain ⟨g, hg, hR⟩ := H.addc ⟨k, 0, 0, n.getD 0 0⟩ hb1 (stgBox_odd S.inp S.stage) (F := upd (upd h b (.row 4 [[.v (.int .i64 k), .v (.int .i64 0), .v (.int .i64 0), .v (.int .i64 (n.getD 0 0))]])) nb (stgBox S.inp S.stage (S.r.addc ⟨k, 0, 0, n.getD 0 0⟩) (some b) og ov)) (upd_same _ _ _)
              (by rw [upd_ne _ _ _ _ d_b_nb, upd_same, show S.r.code = [] from hc0]; rfl) (fun k h1 h2 _ => by rw [upd_ne _ _ _ _ h1, upd_ne _ _ _ _ h2])
            have hl0 : (S.r.addc ⟨k, 0, 0, n.getD 0 0⟩).code.length = 1 := by show (S.code ++ [_]).length = 1; rw [hc0]; rfl
            unfold stgBox at hg
            simp only [hl0, onil_some] at hg
            simp only [RSt.addc] at hg
            refine ⟨_, g, shift_le (Heap.le_trans hg ?_), InsQ.yes (by omega) hK e ⟨some b, og, ov, hR⟩⟩
            exact (leX_nil (by repeat' (first | exact leX_refl _ _ | refine leX_put (by simp only [upd_apply, ↓reduceIte, eq_self, if_true, e_n2_nb, e_n2_b, e_nb_n2, e_nb_b, e_b_n2, e_b_nb]) ?_ | refine leX_strip (by first | exact .inr (by assumption) | exact .inl (by simp)) ?_)))
          | some m =>
            have hm := hcd.2
            have d_m_nb : ¬ m = nb := fun e => by rw [e, hb] at hm; cases hm
            have d_nb_m : ¬ nb = m := Ne.symm d_m_nb
            have e_m_nb : (m = nb) = False := eq_false d_m_nb
            have e_nb_m : (nb = m) = False := eq_false d_nb_m
            rw [onil_some] at hb
            simp (maxSteps := 1000000) -dsimp -implicitDefEqProofs only [go_sem, ↓reduceIte, keep78, ib78, mk78, Tryd.f78, hb, hm, ea, ew, c1, c2, eb, onil_some]
            refine ⟨fun _ => ⟨hsl, fun n2 z2 => ?_⟩, fun q => absurd q (by omega)⟩
            have d_n2_nb : ¬ n2 = nb := fun e => by rw [e, hb] at z2; cases z2
            have d_nb_n2 : ¬ nb = n2 := Ne.symm d_n2_nb
            have e_n2_nb : (n2 = nb) = False := eq_false d_n2_nb
            have e_nb_n2 : (nb = n2) = False := eq_false d_nb_n2
            have d_m_n2 : ¬ m = n2 := fun e => by rw [e, z2] at hm; cases hm
            have d_n2_m : ¬ n2 = m := Ne.symm d_m_n2
            have e_m_n2 : (m = n2) = False := eq_false d_m_n2
            have e_n2_m : (n2 = m) = False := eq_false d_n2_m
            simp (maxSteps := 1000000) -dsimp -implicitDefEqProofs only [go_sem, ↓reduceIte, keep78, ib78, mk78, Tryd.f78, hb, hm, ea, ew, c1, c2, eb, e_n2_nb, e_n2_m, e_nb_n2, e_nb_m, e_m_n2, e_m_nb, upd_ne, upd_upd]
            refine fun _ => ⟨by omega, ?_⟩
            refine ⟨by decide, by decide, by decide, by rw [rowsOf_len]; exact Nat.le_refl _, by omega, by omega, fun b ⟨hb2, hb1⟩ => ?_⟩
            have d_b_nb : ¬ b = nb := fun e => by rw [e, hb] at hb1; cases hb1
            have d_nb_b : ¬ nb = b := Ne.symm d_b_nb
            have e_b_nb : (b = nb) = False := eq_false d_b_nb
            have e_nb_b : (nb = b) = False := eq_false d_nb_b
            have d_b_n2 : ¬ b = n2 := hb2
            have d_n2_b : ¬ n2 = b := Ne.symm d_b_n2
            have e_b_n2 : (b = n2) = False := eq_false d_b_n2
            have e_n2_b : (n2 = b) = False := eq_false d_n2_b
            have d_b_m : ¬ b = m := fun e => by rw [e, hm] at hb1; cases hb1
            have d_m_b : ¬ m = b := Ne.symm d_b_m
            have e_b_m : (b = m) = False := eq_false d_b_m
            have e_m_b : (m = b) = False := eq_false d_m_b
            simp (maxSteps := 1000000) -dsimp -implicitDefEqProofs only [go_sem, ↓reduceIte, keep78, ib78, mk78, Tryd.f78, hb, hm, e_n2_nb, e_n2_m, e_n2_b, e_nb_n2, e_nb_m, e_nb_b, e_m_n2, e_m_nb, e_m_b, e_b_n2, e_b_nb, e_b_m, upd_ne, upd_upd]
            rw [List.take_of_length_le (by rw [rowsOf_len]; exact Nat.le_refl _)]
            obtain ⟨g, hg, hR⟩ := H.addc ⟨k, 0, 0, n.getD 0 0⟩ hb1 (stgBox_odd S.inp S.stage) (F := upd (upd (upd h m .gone) b (.row 4 (rowsOf DInstr.c S.r.code ++ [[.v (.int .i64 k), .v (.int .i64 0), .v (.int .i64 0), .v (.int .i64 (n.getD 0 0))]]))) nb (stgBox S.inp S.stage (S.r.addc ⟨k, 0, 0, n.getD 0 0⟩) (some b) og ov)) (upd_same _ _ _)
              (by rw [upd_ne _ _ _ _ d_b_nb, upd_same, rowsOf_snoc]; rfl) (fun k h1 h2 h3 => by rw [upd_ne _ _ _ _ h1, upd_ne _ _ _ _ h2, upd_ne _ _ _ _ (fun q => h3 (by rw [q]))])
            have hl0 : (S.r.addc ⟨k, 0, 0, n.getD 0 0⟩).code.length = S.r.code.length + 1 := by show (S.code ++ [_]).length = _; rw [List.length_append]; rfl
            unfold stgBox at hg
            simp only [hl0, onil_some] at hg
            simp only [RSt.addc] at hg
            refine ⟨_, g, shift_le (Heap.le_trans hg ?_), InsQ.yes (by omega) hK e ⟨some b, og, ov, hR⟩⟩
            exact (leX_nil (by repeat' (first | exact leX_refl _ _ | refine leX_put (by simp only [upd_apply, ↓reduceIte, eq_self, if_true, e_n2_nb, e_n2_m, e_n2_b, e_nb_n2, e_nb_m, e_nb_b, e_m_n2, e_m_nb, e_m_b, e_b_n2, e_b_nb, e_b_m]) ?_ | refine leX_strip (by first | exact .inr (by assumption) | exact .inl (by simp)) ?_)))
        · rw [if_neg hn] at e
          have c2 : ((n.length : Int) = 1) = False := eq_false (by omega)
          have c3 : ((k : Int) = 7) = False := eq_false (by omega)
          have c4 : ((k : Int) > 2) = False := eq_false (by omega)
          simp (maxSteps := 1000000) -dsimp -implicitDefEqProofs only [go_sem, ↓reduceIte, keep78, ib78, mk78, Tryd.f78, hb, ea, ew, c1, c2, c3, c4]
          refine ⟨fun _ => ⟨hsl, fun n2 z2 _ => ⟨_, _, shift_le (Heap.le_refl _), InsQ.no (Heap.le_trans hle (by repeat' (first | exact Heap.le_refl _ | refine Heap.le_both ?_ | refine Heap.le_upd (by first | assumption | (rw [upd_ne _ _ _ _ (by assumption)]; assumption) | (rw [upd_ne _ _ _ _ (by assumption), upd_ne _ _ _ _ (by assumption)]; assumption) | (rw [upd_ne _ _ _ _ (by assumption), upd_ne _ _ _ _ (by assumption), upd_ne _ _ _ _ (by assumption)]; assumption)) ?_))) (.inr (by rw [hK]; exact e))⟩⟩, fun q => absurd q (by omega)⟩
      · have c1 : ((k : Int) ≤ 2) = False := eq_false (by omega)
        by_cases k7 : k = 7
        · have c3 : ((k : Int) = 7) = True := eq_true (by omega)
          have c4 : ((k : Int) < 7) = False := eq_false (by omega)
          have e : instrT k n = if n.length = 1 then some ⟨k, n.getD 0 0, 0, 0⟩ else none := by rw [instrT, if_neg (by omega), if_pos (by omega)]
          by_cases hn : n.length = 1
          · rw [if_pos hn] at e
            have c2 : ((n.length : Int) = 1) = True := eq_true (by omega)
            have eb := ea0 (by omega)
            cases om with
            | none =>
              have hc0 : S.code = [] := rowsOf_nil.1 hcd
              rw [onil_none] at hb
              simp (maxSteps := 1000000) -dsimp -implicitDefEqProofs only [go_sem, ↓reduceIte, keep78, ib78, mk78, Tryd.f78, hb, ea, ew, c1, c2, c3, eb, onil_none]
              refine ⟨fun _ => ⟨hsl, fun n2 z2 => ?_⟩, fun q => absurd q (by omega)⟩
              have d_n2_nb : ¬ n2 = nb := fun e => by rw [e, hb] at z2; cases z2
              have d_nb_n2 : ¬ nb = n2 := Ne.symm d_n2_nb
              have e_n2_nb : (n2 = nb) = False := eq_false d_n2_nb
              have e_nb_n2 : (nb = n2) = False := eq_false d_nb_n2
              simp (maxSteps := 1000000) -dsimp -implicitDefEqProofs only [go_sem, ↓reduceIte, keep78, ib78, mk78, Tryd.f78, hb, ea, ew, c1, c2, c3, eb, e_n2_nb, e_nb_n2, upd_ne, upd_upd]
              refine fun _ => ⟨by omega, ?_⟩
              refine ⟨by decide, by decide, by decide, fun b ⟨hb2, hb1⟩ => ?_⟩
              have d_b_nb : ¬ b = nb := fun e => by rw [e, hb] at hb1; cases hb1
              have d_nb_b : ¬ nb = b := Ne.symm d_b_nb
              have e_b_nb : (b = nb) = False := eq_false d_b_nb
              have e_nb_b : (nb = b) = False := eq_false d_nb_b
              have d_b_n2 : ¬ b = n2 := hb2
              have d_n2_b : ¬ n2 = b := Ne.symm d_b_n2
              have e_b_n2 : (b = n2) = False := eq_false d_b_n2
              have e_n2_b : (n2 = b) = False := eq_false d_n2_b
              simp (maxSteps := 1000000) -dsimp -implicitDefEqProofs only [go_sem, ↓reduceIte, keep78, ib78, mk78, Tryd.f78, hb, e_n2_nb, e_n2_b, e_nb_n2, e_nb_b, e_b_n2, e_b_nb, upd_ne, upd_upd]
              obtain ⟨g, hg, hR⟩ := H.addc ⟨k, n.getD 0 0, 0, 0⟩ hb1 (stgBox_odd S.inp S.stage) (F := upd (upd h b (.row 4 [[.v (.int .i64 k), .v (.int .i64 (n.getD 0 0)), .v (.int .i64 0), .v (.int .i64 0)]])) nb (stgBox S.inp S.stage (S.r.addc ⟨k, n.getD 0 0, 0, 0⟩) (some b) og ov)) (upd_same _ _ _)
                (by rw [upd_ne _ _ _ _ d_b_nb, upd_same, show S.r.code = [] from hc0]; rfl) (fun k h1 h2 _ => by rw [upd_ne _ _ _ _ h1, upd_ne _ _ _ _ h2])
              have hl0 : (S.r.addc ⟨k, n.getD 0 0, 0, 0⟩).code.length = 1 := by show (S.code ++ [_]).length = 1; rw [hc0]; rfl
              unfold stgBox at hg
              simp only [hl0, onil_some] at hg
              simp only [RSt.addc] at hg
              refine ⟨_, g, shift_le (Heap.le_trans hg ?_), InsQ.yes (by omega) hK e ⟨some b, og, ov, hR⟩⟩
              exact (leX_nil (by repeat' (first | exact leX_refl _ _ | refine leX_put (by simp only [upd_apply, ↓reduceIte, eq_self, if_true, e_n2_nb, e_n2_b, e_nb_n2, e_nb_b, e_b_n2, e_b_nb]) ?_ | refine leX_strip (by first | exact .inr (by assumption) | exact .inl (by simp)) ?_)))
            | some m =>
              have hm := hcd.2
              have d_m_nb : ¬ m = nb := fun e => by rw [e, hb] at hm; cases hm
              have d_nb_m : ¬ nb = m := Ne.symm d_m_nb
              have e_m_nb : (m = nb) = False := eq_false d_m_nb
              have e_nb_m : (nb = m) = False := eq_false d_nb_m
              rw [onil_some] at hb
              simp (maxSteps := 1000000) -dsimp -implicitDefEqProofs only [go_sem, ↓reduceIte, keep78, ib78, mk78, Tryd.f78, hb, hm, ea, ew, c1, c2, c3, eb, onil_some]
              refine ⟨fun _ => ⟨hsl, fun n2 z2 => ?_⟩, fun q => absurd q (by omega)⟩
              have d_n2_nb : ¬ n2 = nb := fun e => by rw [e, hb] at z2; cases z2
              have d_nb_n2 : ¬ nb = n2 := Ne.symm d_n2_nb
              have e_n2_nb : (n2 = nb) = False := eq_false d_n2_nb
              have e_nb_n2 : (nb = n2) = False := eq_false d_nb_n2
              have d_m_n2 : ¬ m = n2 := fun e => by rw [e, z2] at hm; cases hm
              have d_n2_m : ¬ n2 = m := Ne.symm d_m_n2
              have e_m_n2 : (m = n2) = False := eq_false d_m_n2
              have e_n2_m : (n2 = m) = False := eq_false d_n2_m
              simp (maxSteps := 1000000) -dsimp -implicitDefEqProofs only [go_sem, ↓reduceIte, keep78, ib78, mk78, Tryd.f78, hb, hm, ea, ew, c1, c2, c3, eb, e_n2_nb, e_n2_m, e_nb_n2, e_nb_m, e_m_n2, e_m_nb, upd_ne, upd_upd]
              refine fun _ => ⟨by omega, ?_⟩
              refine ⟨by decide, by decide, by decide, by rw [rowsOf_len]; exact Nat.le_refl _, by omega, by omega, fun b ⟨hb2, hb1⟩ => ?_⟩
              have d_b_nb : ¬ b = nb := fun e => by rw [e, hb] at hb1; cases hb1
              have d_nb_b : ¬ nb = b := Ne.symm d_b_nb
              have e_b_nb : (b = nb) = False := eq_false d_b_nb
              have e_nb_b : (nb = b) = False := eq_false d_nb_b
              have d_b_n2 : ¬ b = n2 := hb2
              have d_n2_b : ¬ n2 = b := Ne.symm d_b_n2
              have e_b_n2 : (b = n2) = False := eq_false d_b_n2
              have e_n2_b : (n2 = b) = False := eq_false d_n2_b
              have d_b_m : ¬ b = m := fun e => by rw [e, hm] at hb1; cases hb1
              have d_m_b : ¬ m = b := Ne.symm d_b_m
              have e_b_m : (b = m) = False := eq_false d_b_m
              have e_m_b : (m = b) = False := eq_false d_m_b
              simp (maxSteps := 1000000) -dsimp -implicitDefEqProofs only [go_sem, ↓reduceIte, keep78, ib78, mk78, Tryd.f78, hb, hm, e_n2_nb, e_n2_m, e_n2_b, e_nb_n2, e_nb_m, e_nb_b, e_m_n2, e_m_nb, e_m_b, e_b_n2, e_b_nb, e_b_m, upd_ne, upd_upd]
              rw [List.take_of_length_le (by rw [rowsOf_len]; exact Nat.le_refl _)]
              obtain ⟨g, hg, hR⟩ := H.addc ⟨k, n.getD 0 0, 0, 0⟩ hb1 (stgBox_odd S.inp S.stage) (F := upd (upd (upd h m .gone) b (.row 4 (rowsOf DInstr.c S.r.code ++ [[.v (.int .i64 k), .v (.int .i64 (n.getD 0 0)), .v (.int .i64 0), .v (.int .i64 0)]]))) nb (stgBox S.inp S.stage (S.r.addc ⟨k, n.getD 0 0, 0, 0⟩) (some b) og ov)) (upd_same _ _ _)
                (by rw [upd_ne _ _ _ _ d_b_nb, upd_same, rowsOf_snoc]; rfl) (fun k h1 h2 h3 => by rw [upd_ne _ _ _ _ h1, upd_ne _ _ _ _ h2, upd_ne _ _ _ _ (fun q => h3 (by rw [q]))])
              have hl0 : (S.r.addc ⟨k, n.getD 0 0, 0, 0⟩).code.length = S.r.code.length + 1 := by show (S.code ++ [_]).length = _; rw [List.length_append]; rfl
              unfold stgBox at hg
              simp only [hl0, onil_some] at hg
              simp only [RSt.addc] at hg
              refine ⟨_, g, shift_le (Heap.le_trans hg ?_), InsQ.yes (by omega) hK e ⟨some b, og, ov, hR⟩⟩
              exact (leX_nil (by repeat' (first | exact leX_refl _ _ | refine leX_put (by simp only [upd_apply, ↓reduceIte, eq_self, if_true, e_n2_nb, e_n2_m, e_n2_b, e_nb_n2, e_nb_m, e_nb_b, e_m_n2, e_m_nb, e_m_b, e_b_n2, e_b_nb, e_b_m]) ?_ | refine leX_strip (by first | exact .inr (by assumption) | exact .inl (by simp)) ?_)))
          · rw [if_neg hn] at e
            have c2 : ((n.length : Int) = 1) = False := eq_false (by omega)
            have c5 : ((k : Int) > 2) = True := eq_true (by omega)
            simp (maxSteps := 1000000) -dsimp -implicitDefEqProofs only [go_sem, ↓reduceIte, keep78, ib78, mk78, Tryd.f78, hb, ea, ew, c1, c2, c3, c4, c5]
            refine ⟨fun _ => ⟨hsl, fun n2 z2 _ => ⟨_, _, shift_le (Heap.le_refl _), InsQ.no (Heap.le_trans hle (by repeat' (first | exact Heap.le_refl _ | refine Heap.le_both ?_ | refine Heap.le_upd (by first | assumption | (rw [upd_ne _ _ _ _ (by assumption)]; assumption) | (rw [upd_ne _ _ _ _ (by assumption), upd_ne _ _ _ _ (by assumption)]; assumption) | (rw [upd_ne _ _ _ _ (by assumption), upd_ne _ _ _ _ (by assumption), upd_ne _ _ _ _ (by assumption)]; assumption)) ?_))) (.inr (by rw [hK]; exact e))⟩⟩, fun q => absurd q (by omega)⟩
        · have c3 : ((k : Int) = 7) = False := eq_false (by omega)
          have c4 : ((k : Int) > 2) = True := eq_true (by omega)
          have c5 : ((k : Int) < 7) = True := eq_true (by omega)
          have e : instrT k n = if n.length = 2 then some ⟨k, n.getD 0 0, n.getD 1 0, 0⟩ else none := by rw [instrT, if_neg (by omega), if_neg (by omega)]
          by_cases hn : n.length = 2
          · rw [if_pos hn] at e
            have c2 : ((n.length : Int) = 2) = True := eq_true (by omega)
            have eb := ea0 (by omega)
            have eb2 := ea1 (by omega)
            cases om with
            | none =>
              have hc0 : S.code = [] := rowsOf_nil.1 hcd
              rw [onil_none] at hb
              simp (maxSteps := 1000000) -dsimp -implicitDefEqProofs only [go_sem, ↓reduceIte, keep78, ib78, mk78, Tryd.f78, hb, ea, ew, c1, c2, c3, c4, c5, eb, eb2, onil_none]
              refine ⟨fun _ => ⟨hsl, fun n2 z2 => ?_⟩, fun q => absurd q (by omega)⟩
              have d_n2_nb : ¬ n2 = nb := fun e => by rw [e, hb] at z2; cases z2
              have d_nb_n2 : ¬ nb = n2 := Ne.symm d_n2_nb
              have e_n2_nb : (n2 = nb) = False := eq_false d_n2_nb
              have e_nb_n2 : (nb = n2) = False := eq_false d_nb_n2
              simp (maxSteps := 1000000) -dsimp -implicitDefEqProofs only [go_sem, ↓reduceIte, keep78, ib78, mk78, Tryd.f78, hb, ea, ew, c1, c2, c3, c4, c5, eb, eb2, e_n2_nb, e_nb_n2, upd_ne, upd_upd]
              refine fun _ => ⟨by omega, by omega, ?_⟩
              refine ⟨by decide, by decide, by decide, fun b ⟨hb2, hb1⟩ => ?_⟩
              have d_b_nb : ¬ b = nb := fun e => by rw [e, hb] at hb1; cases hb1
              have d_nb_b : ¬ nb = b := Ne.symm d_b_nb
              have e_b_nb : (b = nb) = False := eq_false d_b_nb
              have e_nb_b : (nb = b) = False := eq_false d_nb_b
              have d_b_n2 : ¬ b = n2 := hb2
              have d_n2_b : ¬ n2 = b := Ne.symm d_b_n2
              have e_b_n2 : (b = n2) = False := eq_false d_b_n2
              have e_n2_b : (n2 = b) = False := eq_false d_n2_b
              simp (maxSteps := 1000000) -dsimp -implicitDefEqProofs only [go_sem, ↓reduceIte, keep78, ib78, mk78, Tryd.f78, hb, e_n2_nb, e_n2_b, e_nb_n2, e_nb_b, e_b_n2, e_b_nb, upd_ne, upd_upd]
              obtain ⟨g, hg, hR⟩ := H.addc ⟨k, n.getD 0 0, n.getD 1 0, 0⟩ hb1 (stgBox_odd S.inp S.stage) (F := upd (upd h b (.row 4 [[.v (.int .i64 k), .v (.int .i64 (n.getD 0 0)), .v (.int .i64 (n.getD 1 0)), .v (.int .i64 0)]])) nb (stgBox S.inp S.stage (S.r.addc ⟨k, n.getD 0 0, n.getD 1 0, 0⟩) (some b) og ov)) (upd_same _ _ _)
                (by rw [upd_ne _ _ _ _ d_b_nb, upd_same, show S.r.code = [] from hc0]; rfl) (fun k h1 h2 _ => by rw [upd_ne _ _ _ _ h1, upd_ne _ _ _ _ h2])
              have hl0 : (S.r.addc ⟨k, n.getD 0 0, n.getD 1 0, 0⟩).code.length = 1 := by show (S.code ++ [_]).length = 1; rw [hc0]; rfl
              unfold stgBox at hg
              simp only [hl0, onil_some] at hg
              simp only [RSt.addc] at hg
              refine ⟨_, g, shift_le (Heap.le_trans hg ?_), InsQ.yes (by omega) hK e ⟨some b, og, ov, hR⟩⟩
              exact (leX_nil (by repeat' (first | exact leX_refl _ _ | refine leX_put (by simp only [upd_apply, ↓reduceIte, eq_self, if_true, e_n2_nb, e_n2_b, e_nb_n2, e_nb_b, e_b_n2, e_b_nb]) ?_ | refine leX_strip (by first | exact .inr (by assumption) | exact .inl (by simp)) ?_)))
            | some m =>
              have hm := hcd.2
              have d_m_nb : ¬ m = nb := fun e => by rw [e, hb] at hm; cases hm
              have d_nb_m : ¬ nb = m := Ne.symm d_m_nb
              have e_m_nb : (m = nb) = False := eq_false d_m_nb
              have e_nb_m : (nb = m) = False := eq_false d_nb_m
              rw [onil_some] at hb
              simp (maxSteps := 1000000) -dsimp -implicitDefEqProofs only [go_sem, ↓reduceIte, keep78, ib78, mk78, Tryd.f78, hb, hm, ea, ew, c1, c2, c3, c4, c5, eb, eb2, onil_some]
              refine ⟨fun _ => ⟨hsl, fun n2 z2 => ?_⟩, fun q => absurd q (by omega)⟩
              have d_n2_nb : ¬ n2 = nb := fun e => by rw [e, hb] at z2; cases z2
              have d_nb_n2 : ¬ nb = n2 := Ne.symm d_n2_nb
              have e_n2_nb : (n2 = nb) = False := eq_false d_n2_nb
              have e_nb_n2 : (nb = n2) = False := eq_false d_nb_n2
              have d_m_n2 : ¬ m = n2 := fun e => by rw [e, z2] at hm; cases hm
              have d_n2_m : ¬ n2 = m := Ne.symm d_m_n2
              have e_m_n2 : (m = n2) = False := eq_false d_m_n2
              have e_n2_m : (n2 = m) = False := eq_false d_n2_m
              simp (maxSteps := 1000000) -dsimp -implicitDefEqProofs only [go_sem, ↓reduceIte, keep78, ib78, mk78, Tryd.f78, hb, hm, ea, ew, c1, c2, c3, c4, c5, eb, eb2, e_n2_nb, e_n2_m, e_nb_n2, e_nb_m, e_m_n2, e_m_nb, upd_ne, upd_upd]
              refine fun _ => ⟨by omega, by omega, ?_⟩
              refine ⟨by decide, by decide, by decide, by rw [rowsOf_len]; exact Nat.le_refl _, by omega, by omega, fun b ⟨hb2, hb1⟩ => ?_⟩
              have d_b_nb : ¬ b = nb := fun e => by rw [e, hb] at hb1; cases hb1
              have d_nb_b : ¬ nb = b := Ne.symm d_b_nb
              have e_b_nb : (b = nb) = False := eq_false d_b_nb
              have e_nb_b : (nb = b) = False := eq_false d_nb_b
              have d_b_n2 : ¬ b = n2 := hb2
              have d_n2_b : ¬ n2 = b := Ne.symm d_b_n2
              have e_b_n2 : (b = n2) = False := eq_false d_b_n2
              have e_n2_b : (n2 = b) = False := eq_false d_n2_b
              have d_b_m : ¬ b = m := fun e => by rw [e, hm] at hb1; cases hb1
              have d_m_b : ¬ m = b := Ne.symm d_b_m
              have e_b_m : (b = m) = False := eq_false d_b_m
              have e_m_b : (m = b) = False := eq_false d_m_b
              simp (maxSteps := 1000000) -dsimp -implicitDefEqProofs only [go_sem, ↓reduceIte, keep78, ib78, mk78, Tryd.f78, hb, hm, e_n2_nb, e_n2_m, e_n2_b, e_nb_n2, e_nb_m, e_nb_b, e_m_n2, e_m_nb, e_m_b, e_b_n2, e_b_nb, e_b_m, upd_ne, upd_upd]
              rw [List.take_of_length_le (by rw [rowsOf_len]; exact Nat.le_refl _)]
              obtain ⟨g, hg, hR⟩ := H.addc ⟨k, n.getD 0 0, n.getD 1 0, 0⟩ hb1 (stgBox_odd S.inp S.stage) (F := upd (upd (upd h m .gone) b (.row 4 (rowsOf DInstr.c S.r.code ++ [[.v (.int .i64 k), .v (.int .i64 (n.getD 0 0)), .v (.int .i64 (n.getD 1 0)), .v (.int .i64 0)]]))) nb (stgBox S.inp S.stage (S.r.addc ⟨k, n.getD 0 0, n.getD 1 0, 0⟩) (some b) og ov)) (upd_same _ _ _)
                (by rw [upd_ne _ _ _ _ d_b_nb, upd_same, rowsOf_snoc]; rfl) (fun k h1 h2 h3 => by rw [upd_ne _ _ _ _ h1, upd_ne _ _ _ _ h2, upd_ne _ _ _ _ (fun q => h3 (by rw [q]))])
              have hl0 : (S.r.addc ⟨k, n.getD 0 0, n.getD 1 0, 0⟩).code.length = S.r.code.length + 1 := by show (S.code ++ [_]).length = _; rw [List.length_append]; rfl
              unfold stgBox at hg
              simp only [hl0, onil_some] at hg
              simp only [RSt.addc] at hg
              refine ⟨_, g, shift_le (Heap.le_trans hg ?_), InsQ.yes (by omega) hK e ⟨some b, og, ov, hR⟩⟩
              exact (leX_nil (by repeat' (first | exact leX_refl _ _ | refine leX_put (by simp only [upd_apply, ↓reduceIte, eq_self, if_true, e_n2_nb, e_n2_m, e_n2_b, e_nb_n2, e_nb_m, e_nb_b, e_m_n2, e_m_nb, e_m_b, e_b_n2, e_b_nb, e_b_m]) ?_ | refine leX_strip (by first | exact .inr (by assumption) | exact .inl (by simp)) ?_)))
          · rw [if_neg hn] at e
            have c2 : ((n.length : Int) = 2) = False := eq_false (by omega)
            simp (maxSteps := 1000000) -dsimp -implicitDefEqProofs only [go_sem, ↓reduceIte, keep78, ib78, mk78, Tryd.f78, hb, ea, ew, c1, c2, c3, c4, c5]
            refine ⟨fun _ => ⟨hsl, fun n2 z2 _ => ⟨_, _, shift_le (Heap.le_refl _), InsQ.no (Heap.le_trans hle (by repeat' (first | exact Heap.le_refl _ | refine Heap.le_both ?_ | refine Heap.le_upd (by first | assumption | (rw [upd_ne _ _ _ _ (by assumption)]; assumption) | (rw [upd_ne _ _ _ _ (by assumption), upd_ne _ _ _ _ (by assumption)]; assumption) | (rw [upd_ne _ _ _ _ (by assumption), upd_ne _ _ _ _ (by assumption), upd_ne _ _ _ _ (by assumption)]; assumption)) ?_))) (.inr (by rw [hK]; exact e))⟩⟩, fun q => absurd q (by omega)⟩
    · simp (maxSteps := 1000000) -dsimp -implicitDefEqProofs only [go_sem, ↓reduceIte, keep78, ib78, mk78, Tryd.f78, hb, ea, hw]
      refine ⟨fun _ => ⟨hsl, k + 1, IntWalk.i64_in _ (by omega), ⟨⟨by omega, by omega⟩, fun j h1 h2 => ?_⟩, by omega⟩, fun q => absurd q (by omega)⟩
      by_cases hj : j = k
      · rw [hj]; exact hw
      · exact hno j h1 (by omega)
  · have hk8 : k = 8 := by omega
    subst hk8
    have h0 : opOf w = 0 := by
      rcases hop with q | q
      · exact q.1
      · exact absurd q.2.2.symm (hno _ q.1 (by omega))
    simp (maxSteps := 1000000) -dsimp -implicitDefEqProofs only [go_sem, ↓reduceIte, keep78, ib78, mk78, Tryd.f78, hb]
    exact ⟨fun q => absurd q (by decide), fun _ => ⟨_, h, shift_le (Heap.le_refl _), InsQ.no hle (.inl h0)⟩⟩
end Go.Hl

/-
  Contracts of functions and laws of the layer over the walk.
-/
import Derived.Test.YthcfmnldhokmiaaGreatVvE
import Derived.Test.YthcfmnldhokmiaaGreatVvB
import Derived.Test.YthcfmnldhokmiaaGreatHlD
import Derived.Test.YthcfmnldhokmiaaGreatVvA
namespace Go.Hl
open Go.Proofs
set_option linter.unusedVariables false
set_option linter.unusedSimpArgs false
/-- slices.Grow of nil: a new row without elements. -/
theorem growNil (n : Nat) (hn : n ≤ 1048576) (h : Heap) : HFn Tryz.prog 273 [.nilsl, I n] h fun r h' => (n = 0 ∧ r = .nilsl ∧ h' = h) ∨ (0 < n ∧ ∃ m, h m = none ∧ r = .os m 1 0 0 ∧ h' = upd h m (.row 1 [])) := by
  refine ⟨by kernel_rfl, fun E w vs R hL => ?_⟩
  have hvs : vs = [.slice none 0 0, .int .i64 n] := by
    match vs, hL with
    | [a, b], hL => rw [show a = .slice none 0 0 by cases hL.1; rfl, rep_int hL.2.1]
  subst hvs
  rcases Nat.eq_zero_or_pos n with rfl | h0
  · refine (growNil_zero w).mono ?_
    rintro e w' ⟨rfl, rfl⟩
    exact ⟨.nilsl, h, E, .inl ⟨rfl, rfl, rfl⟩, .refl _ _ _, R, .nilsl⟩
  · obtain ⟨i, u, hi, hu, hsz, hby, hd, hag, hz⟩ := tyR_some ty2
    cases hiz : i.zero with
    | none => rw [hiz] at hz; simp at hz
    | some z =>
    have hb8 : i.bytes = 8 := hby.symm
    have hs1 : i.size = 1 := hsz.symm
    have hrz := fun ty => Lib.run_append_nil_zeros (P := Tryz.prog) w 25 3 ty 2 i z .i64 .i64 (by kernel_rfl) (by kernel_rfl) hi hiz n h0 (by omega) (by omega) (by rw [hb8]; omega)
    have hge := grownCap_ge w n 0 2
    have hmx := grownCap_le_maxLen w n 0 2 (by unfold maxLen; omega)
    have hzs : z.cells.size = 1 := by
      rw [hiz] at hz
      have := congrArg List.length hz
      simp at this
      exact this.symm
    have hcz : (Builtin.zeroCells z.cells n ++ Builtin.zeroCells z.cells (grownCap w n 0 2 - n)).size = grownCap w n 0 2 := by
      rw [Array.size_append, zeros_size, zeros_size, hzs]; omega
    refine (growNil_walk n _ w _ h0 hn hge hmx hrz).mono ?_
    rintro e w' ⟨rfl, rfl⟩
    generalize Builtin.zeroCells z.cells n ++ Builtin.zeroCells z.cells (grownCap w n 0 2 - n) = cs at hcz ⊢
    obtain ⟨m, hm⟩ := R.fresh
    have hal := R.alloc_row hm 1 [] (by simp) cs 2 w.drew.drawn (fun _ _ => undef) (by simp) (by simp [at2])
    have hev := Ev.alloc R hm (.cells cs 2 (0, 0)) (.row 1 []) w.drew.drawn
    refine ⟨.os m 1 0 0, upd h m (.row 1 []), E.add m w.heap.size, .inr ⟨h0, m, R.none hm, rfl, rfl⟩, hev, hal, ?_⟩
    refine Rep.os m 1 0 0 w.heap.size 0 (grownCap w n 0 2) 2 cs.size (by simp [Env.add]) (by simp [Env.add]) (Nat.zero_le _) hmx ?_ (by rw [hcz]; omega)
    exact shape_of_heap (f := (0, 0)) (wal_new w (.cells cs 2 (0, 0)) w.drew.drawn)
def catK (a b : List Int) : Nat → List Int
  | 0 => []
  | 1 => a
  | _ => a ++ b
def keep231 : List Nat := [0, 2, 3, 5, 6, 8, 9, 10, 11, 12, 20, 25, 26, 27, 28]
def ib231 : List Nat := []
def mk231 : Marks := fun _ => ([], .nil, [])
set_option maxRecDepth 100000 in
theorem concat2 (a b : List Int) (ha : a.length ≤ 1000) (hb : b.length ≤ 1000) : Fn0 Tryz.prog 231 [.sl 1 [[ints a], [ints b]] true] (ints (a ++ b)) := by
  refine fn0S 36 keep231 ib231 mk231 mix Tryz.func231 rfl (by kernel_rfl) (by simp) fun h => ?_
  simp (maxSteps := 1000000) -dsimp -implicitDefEqProofs only [go_sem, ↓reduceIte, keep231, ib231, mk231, Tryz.f231]
  refine loopSame (keep := keep231) (ib := ib231) (mk := mk231) mix (by kernel_rfl) (fun k : Nat => [(0, .sl 1 [[ints a], [ints b]] true), (3, I (catK a b k).length), (9, .sl 1 [[ints a], [ints b]] true), (10, I 2), (11, I k)]) (fun k => k ≤ 2) (fun k => 2 - k) 0 ⟨by simp [SatL, tget, catK], by omega⟩ ?_
  intro k hk
  have hk3 : k = 0 ∨ k = 1 ∨ k = 2 := by omega
  rcases hk3 with rfl | rfl | rfl
  · simp (maxSteps := 1000000) -dsimp -implicitDefEqProofs only [go_sem, ↓reduceIte, keep231, ib231, mk231, Tryz.f231]
    have e0 : (catK a b 0).length = 0 := rfl
    have e1 : catK a b 1 = a := rfl
    refine ⟨fun _ => ⟨by decide, fun _ => ?_⟩, fun q => absurd (by decide) q⟩
    rw [IntWalk.i64_in _ (by omega)]
    exact ⟨fun q => absurd q (by omega), fun _ => ⟨1, ⟨by rw [e1]; omega, by decide⟩, by omega, by omega⟩⟩
  · simp (maxSteps := 1000000) -dsimp -implicitDefEqProofs only [go_sem, ↓reduceIte, keep231, ib231, mk231, Tryz.f231]
    have e1 : catK a b 1 = a := rfl
    have e2 : (catK a b 2).length = a.length + b.length := by simp [catK]
    refine ⟨fun _ => ⟨by decide, fun _ => ?_⟩, fun q => absurd (by decide) q⟩
    rw [e1, IntWalk.i64_in _ (by omega)]
    exact ⟨fun q => absurd q (by omega), fun _ => ⟨2, ⟨by rw [e2]; omega, by decide⟩, by omega, by omega⟩⟩
  · simp (maxSteps := 1000000) -dsimp -implicitDefEqProofs only [go_sem, ↓reduceIte, keep231, ib231, mk231, Tryz.f231]
    have e2 : (catK a b 2).length = a.length + b.length := by simp [catK]
    refine ⟨fun q => absurd q (by decide), fun _ => ?_⟩
    refine HFnF.mkH (growNil _ (by omega) h) ?_
    rintro r h' (⟨hz, rfl, rfl⟩ | ⟨hp, m, hm, rfl, rfl⟩)
    · have ha0 : a = [] := List.length_eq_zero_iff.1 (by omega)
      have hb0 : b = [] := List.length_eq_zero_iff.1 (by omega)
      subst ha0
      subst hb0
      simp (maxSteps := 1000000) -dsimp -implicitDefEqProofs only [go_sem, ↓reduceIte, keep231, ib231, mk231, Tryz.f231]
      refine loopSame (keep := keep231) (ib := ib231) (mk := mk231) mix (by kernel_rfl) (fun k : Nat => [(6, .nilsl), (25, .sl 1 [[ints []], [ints []]] true), (26, I 2), (27, I k)]) (fun k => k ≤ 2) (fun k => 2 - k) 0 ⟨by simp [SatL, tget], by omega⟩ ?_
      intro k hk
      have hk3 : k = 0 ∨ k = 1 ∨ k = 2 := by omega
      rcases hk3 with rfl | rfl | rfl
      · simp (maxSteps := 1000000) -dsimp -implicitDefEqProofs only [go_sem, ↓reduceIte, keep231, ib231, mk231, Tryz.f231]
        exact ⟨fun _ => ⟨by decide, Nat.zero_lt_one, 1, by decide, by omega, by omega⟩, fun q => absurd (by decide) q⟩
      · simp (maxSteps := 1000000) -dsimp -implicitDefEqProofs only [go_sem, ↓reduceIte, keep231, ib231, mk231, Tryz.f231]
        exact ⟨fun _ => ⟨by decide, Nat.zero_lt_one, 2, by decide, by omega, by omega⟩, fun q => absurd (by decide) q⟩
      · simp (maxSteps := 1000000) -dsimp -implicitDefEqProofs only [go_sem, ↓reduceIte, keep231, ib231, mk231, Tryz.f231]
        exact ⟨fun q => absurd q (by decide), fun _ => Shift.of (Sub.nil 1 false) (Heap.le_refl _)⟩
    · simp (maxSteps := 1000000) -dsimp -implicitDefEqProofs only [go_sem, ↓reduceIte, keep231, ib231, mk231, Tryz.f231]
      refine loopF (keep := keep231) (ib := ib231) (mk := mk231) mix (by kernel_rfl) (fun x : Nat × Nat => [(6, .os x.2 1 0 (catK a b x.1).length), (25, .sl 1 [[ints a], [ints b]] true), (26, I 2), (27, I x.1)]) (fun x => upd h x.2 (.row 1 (((catK a b x.1).map fun n => [I n]).map (List.map .v)))) (fun x => x.1 ≤ 2 ∧ h x.2 = none) (fun x => 2 - x.1) (0, m) ⟨by simp [SatL, tget, catK], Heap.le_refl _, by simp only; omega, hm⟩ ?_
      rintro ⟨k, m⟩ ⟨hk, hm⟩
      simp only at hk hm ⊢
      have hk3 : k = 0 ∨ k = 1 ∨ k = 2 := by omega
      rcases hk3 with rfl | rfl | rfl
      · simp (maxSteps := 1000000) -dsimp -implicitDefEqProofs only [go_sem, ↓reduceIte, keep231, ib231, mk231, Tryz.f231]
        have e0 : catK a b 0 = [] := rfl
        have e1 : catK a b 1 = a := rfl
        rw [e0, List.length_nil, Nat.zero_add]
        refine ⟨fun _ => ⟨by decide, Nat.zero_lt_one, Nat.le_refl _, by omega, by omega, fun c hc => ⟨(1, c), ⟨by rw [e1], by simp only; decide⟩, ?_, ⟨by simp only; omega, hc.2⟩, by simp only; omega⟩⟩, fun q => absurd (by decide) q⟩
        simp only [e1]
        exact le_app hm
      · simp (maxSteps := 1000000) -dsimp -implicitDefEqProofs only [go_sem, ↓reduceIte, keep231, ib231, mk231, Tryz.f231]
        have e1 : catK a b 1 = a := rfl
        have e2 : catK a b 2 = a ++ b := rfl
        rw [e1]
        refine ⟨fun _ => ⟨by decide, Nat.zero_lt_one, Nat.le_refl _, by omega, by omega, fun c hc => ⟨(2, c), ⟨by rw [e2, List.length_append], by simp only; decide⟩, ?_, ⟨by simp only; omega, hc.2⟩, by simp only; omega⟩⟩, fun q => absurd (by decide) q⟩
        simp only [e2]
        rw [List.take_of_length_le (by simp), List.map_append, List.map_append]
        exact le_app hm
      · simp (maxSteps := 1000000) -dsimp -implicitDefEqProofs only [go_sem, ↓reduceIte, keep231, ib231, mk231, Tryz.f231]
        have e2 : catK a b 2 = a ++ b := rfl
        rw [e2]
        exact ⟨fun q => absurd q (by decide), fun _ => shift_ints _ hm (Heap.le_refl _) rfl⟩
open Go.Proofs
set_option linter.unusedVariables false
set_option linter.unusedSimpArgs false
open Go.Proofs
set_option linter.unusedVariables false
set_option linter.unusedSimpArgs false
def workerOK (w : Int) : Prop := 0 ≤ w ∧ w ≤ 3
noncomputable instance (w : Int) : Decidable (workerOK w) := Classical.propDecidable _
open Go.Proofs
set_option linter.unusedVariables false
set_option linter.unusedSimpArgs false
def termOK (j : DJob) (k : Int) : Prop := 0 ≤ k ∧ k ≤ (j.fTerms.length : Int) - 1
noncomputable instance (j : DJob) (k : Int) : Decidable (termOK j k) := Classical.propDecidable _
def freeOK (s : DService) (k : Int) : Prop := s.fKnown[k.toNat]? = some false ∧ s.fOwners[k.toNat]? = some (-1)
noncomputable instance (s : DService) (k : Int) : Decidable (freeOK s k) := Classical.propDecidable _
def keep57 : List Nat := [0, 1, 2, 4]
def ib57 : List Nat := [2]
def mk57 : Marks := fun _ => ([], .nil, [])
set_option maxRecDepth 100000 in
theorem has (j : DJob) (k : Int) (hl : j.fTerms.length ≤ 1048576) : Fn0 Tryz.prog 57 [.agg j.c, I k] (.bool (decide (termOK j k))) := by
  simp only [DJob.c_eq]
  refine fn0F 11 keep57 ib57 mk57 mix Tryz.func57 rfl (by kernel_rfl) (by simp) fun h => ?_
  simp (maxSteps := 1000000) -dsimp -implicitDefEqProofs only [go_sem, ↓reduceIte, keep57, ib57, mk57, Tryz.f57]
  intro _
  rw [IntWalk.i64_in _ (by omega)]
  first | refine HFnF.mk (within k 0 ((j.fTerms.length : Int) - 1)) ?_ | refine CallSF.mk (within k 0 ((j.fTerms.length : Int) - 1)) ?_ | refine HFnF.mkAt (within k 0 ((j.fTerms.length : Int) - 1)) ?_ | refine CallSF.mk (FnAt.fn0 (within k 0 ((j.fTerms.length : Int) - 1))) ?_
  simp (maxSteps := 1000000) -dsimp -implicitDefEqProofs only [go_sem, ↓reduceIte, keep57, ib57, mk57, Tryz.f57]
  exact decide_eq_decide.2 Iff.rfl
open Go.Proofs
set_option linter.unusedVariables false
set_option linter.unusedSimpArgs false
theorem job_facts {j : DJob} (h : j.ok) : ∃ F, j.fProgram.fFuncs[j.fFunc.toNat]? = some F ∧ (0 ≤ j.fFunc ∧ j.fFunc < j.fProgram.fFuncs.length) ∧ (0 ≤ F.fParams ∧ F.fParams ≤ 12) ∧ j.okF F := by
  have hk : j.fFunc.toNat < j.fProgram.fFuncs.length := by have := h.2.1; omega
  have e := List.getElem?_eq_getElem hk
  exact ⟨_, e, by have := h.2.1; omega, (h.1.2 _ _ e).2.1, h.2.2 _ e⟩
def argsOf (j : DJob) (k : Nat) : List Int := j.fPoint ++ j.fTerms.getD k []
/-- The part of a term. -/
def partS (j : DJob) (k : Nat) : DPart := match evF j.fProgram 1 j.fFunc ((argsOf j k).map fun n => [n]) with
  | .error c => ⟨c, 0, []⟩
  | .ok (vs, _) => ⟨0, (vs.getD 0 []).getD 0 0, ((matP (slopeL j.fProgram j.fFunc (argsOf j k)) (j.fProgram.outs j.fFunc).length (argsOf j k).length 0).getD 0 []).take j.fShared.toNat⟩
theorem term_facts {j : DJob} (h : j.ok) {k : Nat} (hk : k < j.fTerms.length) : (j.fTerms[k]? = some (j.fTerms.getD k [])) ∧ Nums (argsOf j k) ∧ (∀ F, j.fProgram.fFuncs[j.fFunc.toNat]? = some F → ((argsOf j k).length : Int) = F.fParams) ∧ (argsOf j k).length ≤ 12 ∧ j.fPoint.length ≤ 12 ∧ (j.fTerms.getD k []).length ≤ 12 ∧ 0 ≤ j.fShared ∧ j.fShared.toNat ≤ (argsOf j k).length := by
  obtain ⟨F, eF, hf, hF, ok⟩ := job_facts h
  obtain ⟨o1, o2, o3, o4⟩ := ok
  have hg : j.fTerms.getD k [] = j.fTerms[k] := by rw [List.getD_eq_getElem?_getD, List.getElem?_eq_getElem hk]; rfl
  have ht := o4 _ (List.getElem_mem hk)
  have hlen : ((argsOf j k).length : Int) = F.fParams := by
    rw [argsOf, hg, List.length_append]
    have := ht.1
    have := o2.1
    omega
  refine ⟨by rw [hg]; exact List.getElem?_eq_getElem hk, fun x hx => ?_, fun G hG => ?_, by omega, by have := o2.1; omega, by rw [hg]; have := ht.1; omega, o1.1, by omega⟩
  · rw [argsOf, hg] at hx
    rcases List.mem_append.1 hx with hx | hx
    · exact o2.2 x hx
    · exact ht.2 x hx
  · rw [eF] at hG
    cases hG
    exact hlen
def keep140 : List Nat := [0, 1, 2, 4]
def ib140 : List Nat := [2, 12]
def mk140 : Marks := fun id => match id with | 1 => ([], (.op 0 (.op 1 (.op 2 (.op 3 (.op 4 (.op 5 (.op 6 (.op 7 (.op 8 (.op 9 .nil)))))))))), []) | _ => ([], .nil, [])
theorem argsI {j : DJob} (h : j.ok) {k : Nat} (hk : k < j.fTerms.length) : Fn0 Tryz.prog 140 [.agg j.c, I k] (ints (argsOf j k)) := by
  obtain ⟨t1, t2, t3, t4, t5, t6, t7, t8⟩ := term_facts h hk
  have hc := concat2 j.fPoint (j.fTerms.getD k []) (by omega) (by omega)
  simp only [DJob.c_eq]
  refine fn0F 14 keep140 ib140 mk140 mix Tryz.func140 rfl (by kernel_rfl) (by simp) fun h => ?_
  simp (maxSteps := 1000000) -dsimp -implicitDefEqProofs only [go_sem, ↓reduceIte, keep140, ib140, mk140, Tryz.f140, t1]
  refine ⟨by omega, Nat.zero_lt_one, rfl, ?_⟩
  refine CallSF.mk hc ?_
  simp (maxSteps := 1000000) -dsimp -implicitDefEqProofs only [go_sem, ↓reduceIte, keep140, ib140, mk140, Tryz.f140]
  rfl
def keep58 : List Nat := [0, 1, 2, 4, 5, 7, 8, 24]
def ib58 : List Nat := [2]
def mk58 : Marks := fun id => match id with | 1 => ([6, 7, 8], (.op 0 (.op 1 (.op 2 (.op 3 (.op 4 (.op 5 (.op 6 (.op 7 (.op 8 (.op 9 (.op 10 (.op 11 (.op 12 (.op 13 (.op 14 (.op 15 .nil)))))))))))))))), []) | 4 => ([6, 7], (.op 0 (.op 1 (.op 2 (.op 3 (.op 4 (.op 5 (.op 6 (.op 7 (.op 8 (.op 9 (.op 10 (.op 11 (.op 12 .nil))))))))))))), []) | 5 => ([11, 13], (.op 0 (.op 1 (.op 2 (.op 3 (.op 4 (.op 5 (.op 6 (.op 7 (.op 8 (.op 9 (.op 10 (.op 11 (.op 12 (.op 13 .nil)))))))))))))), []) | _ => ([], .nil, [])
set_option maxRecDepth 100000 in
set_option maxHeartbeats 1000000 in
theorem partN {j : DJob} (hj : j.ok) {k : Nat} (hk : k < j.fTerms.length) : FnN Tryz.prog 58 [.agg j.c, I k] (QA (partS j k).o) := by
  obtain ⟨t1, t2, t3, t4, t5, t6, t7, t8⟩ := term_facts hj hk
  obtain ⟨F, eF, hf, hF, ok⟩ := job_facts hj
  have hargs := argsI hj hk
  have hsing := singles (argsOf j k) (by omega)
  have hev := evaluated hj.1 (sz := 1) (by decide) j.fFunc hf ((argsOf j k).map fun n => [n]) (fun s hs => by
    obtain ⟨n, hn, rfl⟩ := List.mem_map.1 hs
    refine ⟨rfl, fun x hx => ?_⟩
    rw [List.mem_singleton.1 hx]
    exact t2 n hn) (fun F hF => by rw [List.length_map]; exact t3 F hF)
  rw [show (((1 : Nat) : Int) - 1) = 0 from rfl, DProgram.c_eq] at hev
  simp only [DJob.c_eq] at hargs ⊢
  refine fnNF 51 keep58 ib58 mk58 mix Tryz.func58 rfl (by kernel_rfl) (by simp) fun h => ?_
  simp (maxSteps := 1000000) -dsimp -implicitDefEqProofs only [go_sem, ↓reduceIte, keep58, ib58, mk58, Tryz.f58]
  intro n4 z4
  try simp (maxSteps := 1000000) -dsimp -implicitDefEqProofs only [go_sem, ↓reduceIte, keep58, ib58, mk58, Tryz.f58]
  refine HFnF.mk hargs ?_
  simp (maxSteps := 1000000) -dsimp -implicitDefEqProofs only [go_sem, ↓reduceIte, keep58, ib58, mk58, Tryz.f58]
  refine HFnF.mk hsing ?_
  simp (maxSteps := 1000000) -dsimp -implicitDefEqProofs only [go_sem, ↓reduceIte, keep58, ib58, mk58, Tryz.f58]
  refine HFnF.mk hev ?_
  simp (maxSteps := 1000000) -dsimp -implicitDefEqProofs only [go_sem, ↓reduceIte, keep58, ib58, mk58, Tryz.f58]
  have hse := evF_ser hj.1 (sz := 1) (by decide) j.fFunc hf ((argsOf j k).map fun n => [n]) (fun s hs => by
    obtain ⟨n, hn, rfl⟩ := List.mem_map.1 hs
    refine ⟨rfl, fun x hx => ?_⟩
    rw [List.mem_singleton.1 hx]
    exact t2 n hn) (fun F hF => by rw [List.length_map]; exact t3 F hF)
  have her := evF_err j.fProgram 1 j.fFunc ((argsOf j k).map fun n => [n])
  cases hX : evF j.fProgram 1 j.fFunc ((argsOf j k).map fun n => [n]) with
  | error c =>
    have hc : ¬ c = 0 := by rcases her c hX with rfl | rfl <;> decide
    refine ⟨fun _ => ?_, fun q => absurd q hc⟩
    have hp : partS j k = ⟨c, 0, []⟩ := by rw [partS, hX]
    rw [hp, evRes]
    exact own_zero (z := [I c, I 0, .nilsl]) ⟨[.v (I c), .v (I 0), .nil 1], ⟨_, rfl, OS.nil⟩, by simp [OV.row_cons, OV.row_nil, OV.v_rows, OV.nil_rows], Sub.agg (.cons (.refl _) (.cons (.refl _) (.cons (Sub.nil _ _) .nil)))⟩ wsub_id (by repeat' (first | exact Heap.le_refl _ | refine Heap.le_both ?_ | refine Heap.le_upd (by first | assumption | (rw [upd_ne _ _ _ _ (by assumption)]; assumption) | (rw [upd_ne _ _ _ _ (by assumption), upd_ne _ _ _ _ (by assumption)]; assumption) | (rw [upd_ne _ _ _ _ (by assumption), upd_ne _ _ _ _ (by assumption), upd_ne _ _ _ _ (by assumption)]; assumption)) ?_))
  | ok q =>
    obtain ⟨vs, t⟩ := q
    refine ⟨fun q => absurd rfl q, fun _ => ?_⟩
    have hv := hse vs t hX
    obtain ⟨F2, eF2, hO1, hO2, hO3, hO4⟩ := func_ok hj.1 hf
    have hjac := QS.fn0W (jacobianN hj.1 j.fFunc hf (argsOf j k) (by omega) t2 t3 hX) (fun y hy => OS.dat (c := fun s => [ints s]) (fun _ _ q => oL_dat q) hy) (wrap_tup [] [I 0])
    rw [DProgram.c_eq] at hjac
    have hp : partS j k = ⟨0, (vs.getD 0 []).getD 0 0, ((matP (slopeL j.fProgram j.fFunc (argsOf j k)) (j.fProgram.outs j.fFunc).length (argsOf j k).length 0).getD 0 []).take j.fShared.toNat⟩ := by rw [partS, hX]
    rw [hp]
    refine HFnF.mk hargs ?_
    simp (maxSteps := 1000000) -dsimp -implicitDefEqProofs only [go_sem, ↓reduceIte, keep58, ib58, mk58, Tryz.f58]
    refine HFnF.mk hjac ?_
    have hl0 : 0 < (j.fProgram.outs j.fFunc).length := by rw [hO3]; omega
    have hv0 := hv.get (i := 0) hl0
    have g0 : vs[Int.toNat 0]? = some (vs.getD 0 []) := env_get (by rw [hv.1]; exact hl0)
    have gs : (vs.getD 0 [])[Int.toNat 0]? = some ((vs.getD 0 []).getD 0 0) := getD_get (by rw [hv0.1]; decide)
    have hJl := matP_len (slopeL j.fProgram j.fFunc (argsOf j k)) (j.fProgram.outs j.fFunc).length (argsOf j k).length 0
    have hJ0 := matP_get (slopeL j.fProgram j.fFunc (argsOf j k)) (m := (j.fProgram.outs j.fFunc).length) (i := (argsOf j k).length) (k := 0) hl0
    generalize matP (slopeL j.fProgram j.fFunc (argsOf j k)) (j.fProgram.outs j.fFunc).length (argsOf j k).length 0 = J at *
    have gJ : J[Int.toNat 0]? = some (J.getD 0 []) := env_get (by omega)
    have hJ1 : (J.getD 0 []).length = (argsOf j k).length := by
      rw [List.getD_eq_getElem?_getD, hJ0]; simp
    rw [show evRes (.ok (vs, t)) = (vs, (t : Int), 0) from rfl]
    simp (maxSteps := 1000000) -dsimp -implicitDefEqProofs only [go_sem, ↓reduceIte, keep58, ib58, mk58, Tryz.f58, g0, gs, gJ]
    rw [hv.1, hv0.1, hJl]
    refine ⟨by omega, by decide, by omega, Int.le_refl _, t7, by rw [List.length_map]; omega, ?_⟩
    simp (maxSteps := 1000000) -dsimp -implicitDefEqProofs only [go_sem, ↓reduceIte, keep58, ib58, mk58, Tryz.f58]
    rw [← List.map_take]
    refine HFnF.wn1 (cloneI ((J.getD 0 []).take j.fShared.toNat) (by rw [List.length_take]; omega)) z4 ?_
    rintro r l g ⟨y, oy, rfl, rfl⟩ wn z4
    simp (maxSteps := 1000000) -dsimp -implicitDefEqProofs only [go_sem, ↓reduceIte, keep58, ib58, mk58, Tryz.f58, oy.flat, oy.one]
    exact own_endE (e := [.v (I 0), .v (I ((vs.getD 0 []).getD 0 0)), y]) (by simp only [OV.map_val, OV.map_val_nil, OV.val_v]) ⟨y, rfl, oy⟩ (by rw [OV.row_cons, OV.row_cons, OV.row_cons, OV.row_nil, OV.v_rows, OV.v_rows, List.append_nil]; exact wn) (by repeat' (first | exact Heap.le_refl _ | refine Heap.le_both ?_ | refine Heap.le_upd (by first | assumption | (rw [upd_ne _ _ _ _ (by assumption)]; assumption) | (rw [upd_ne _ _ _ _ (by assumption), upd_ne _ _ _ _ (by assumption)]; assumption) | (rw [upd_ne _ _ _ _ (by assumption), upd_ne _ _ _ _ (by assumption), upd_ne _ _ _ _ (by assumption)]; assumption)) ?_))
theorem partI {j : DJob} (hj : j.ok) {k : Nat} (hk : k < j.fTerms.length) : Fn0 Tryz.prog 58 [.agg j.c, I k] (.agg (partS j k).c) := QA.fn0 (partN hj hk) (fun e he => DPart.o_dat he)
open Go.Proofs
set_option linter.unusedVariables false
set_option linter.unusedSimpArgs false
def evNum (X : Out (List (List Int))) : List Int × Int × Int := match X with
  | .ok (vs, t) => (vs.map (·.getD 0 0), t, 0)
  | .error c => ([], 0, c)
theorem evNum_of {X : Out (List (List Int))} {l : List (List Int)} {t : Nat} {c : Int} (h : outR X l t c) : evNum X = if c = 0 then (l.map (·.getD 0 0), (t : Int), 0) else ([], 0, c) := by
  cases X with
  | ok p =>
    obtain ⟨w, u⟩ := p
    obtain ⟨rfl, rfl, rfl⟩ := h
    rfl
  | error d =>
    obtain ⟨rfl, h⟩ := h
    rw [if_neg h]; rfl
theorem l00OwnS (l : List Int) (hl : l.length ≤ 1048576) : Fn0 Tryz.prog 133 [ints l] (ints l) := seal1 (l00Own l hl)
def keep130 : List Nat := [0, 1, 4]
def ib130 : List Nat := []
def mk130 : Marks := fun _ => ([], .nil, [])
set_option maxRecDepth 100000 in
theorem l08Args (a b : List Int) (ha : a.length ≤ 1000) (hb : b.length ≤ 1000) : Fn0 Tryz.prog 130 [ints a, ints b] (ints (a ++ b)) := by
  refine fn0S 9 keep130 ib130 mk130 mix Tryz.func130 rfl (by kernel_rfl) (by simp) fun h => ?_
  simp (maxSteps := 1000000) -dsimp -implicitDefEqProofs only [go_sem, ↓reduceIte, keep130, ib130, mk130, Tryz.f130]
  refine HFnF.wn0 (l00Own a (by omega)) ?_
  rintro r l g ⟨y, oy, rfl, rfl⟩ wn
  rcases oy.prim with ⟨rfl, ha0⟩ | ⟨n, rfl⟩
  · subst ha0
    simp (maxSteps := 1000000) -dsimp -implicitDefEqProofs only [go_sem, ↓reduceIte, keep130, ib130, mk130, Tryz.f130, OV.val_nil]
    refine ⟨Nat.zero_lt_one, fun e => ?_, fun _ => ⟨by omega, by omega, fun n hn => (shift_ints b hn (Heap.le_refl _) rfl).trans (shift_le wn.le)⟩⟩
    have : b = [] := by simpa using e
    subst this
    exact Shift.of (Sub.loose _ _ _) wn.le
  · rw [OV.val_prim]
    have gn : g n = some (.row 1 ((a.map fun n => [I n]).map (List.map .v))) := by
      rw [OV.sl_rows] at wn
      rw [← cells_map]
      exact wn.owns (n, _) List.mem_cons_self
    simp (maxSteps := 1000000) -dsimp -implicitDefEqProofs only [go_sem, ↓reduceIte, keep130, ib130, mk130, Tryz.f130, gn]
    refine ⟨Nat.zero_lt_one, Nat.le_refl _, by omega, by omega, fun m hm => ?_⟩
    rw [List.take_of_length_le (by simp), ← List.map_append, ← List.map_append]
    exact shift_ints (a ++ b) (Heap.le_none wn.le hm) (Heap.le_both (Heap.le_upd (wn.fresh n (by rw [OV.sl_rows]; simp [namesOf])) wn.le)) (by rw [List.length_append])
def keep131 : List Nat := [0, 1, 2, 6, 7, 8, 9, 10, 11, 12, 13, 14, 22, 46, 56]
def ib131 : List Nat := [18, 30, 31, 47, 52, 66]
def mk131 : Marks := fun id => match id with | 9 => ([4], (.op 0 (.op 1 (.op 2 (.op 3 (.op 4 (.op 5 (.op 6 (.op 7 .nil)))))))), []) | 15 => ([4], (.op 0 (.op 1 (.op 2 (.op 3 (.op 4 (.op 5 (.op 6 (.op 7 .nil)))))))), []) | _ => ([], .nil, [])
set_option maxRecDepth 100000 in
theorem l02Eval {p : DProgram} (hp : p.ok) (f : Int) (hf : 0 ≤ f ∧ f < p.fFuncs.length) (args : List Int) (na : Nums args) (hal : args.length ≤ 12) (hl : ∀ F, p.fFuncs[f.toNat]? = some F → (args.length : Int) = F.fParams) :
    Fn0 Tryz.prog 131 [.ip 1 [p.c] 0 0, I f, ints args] (.tup [ints (evNum (evF p 1 f (args.map fun n => [n]))).1, I (evNum (evF p 1 f (args.map fun n => [n]))).2.1, I (evNum (evF p 1 f (args.map fun n => [n]))).2.2]) := by
  obtain ⟨F, ef, hF1, hF2, hF3, hF4⟩ := func_ok hp hf
  have hlF := hl F ef
  rw [DProgram.c_eq]
  refine fn0S 73 keep131 ib131 mk131 mix Tryz.func131 rfl (by kernel_rfl) (by simp) fun h => ?_
  simp (maxSteps := 1000000) -dsimp -implicitDefEqProofs only [go_sem, ↓reduceIte, keep131, ib131, mk131, Tryz.f131]
  intro nb zb
  refine ⟨Nat.zero_lt_one, ?_⟩
  have hbd : HObj.row 4 [[Cell.v (.ip 1 [[sls 3 DFunc.c p.fFuncs]] 0 0), Cell.v (I 1), Cell.v (I 0), Cell.v (I 0)]] = rBox p 1 0 0 := rfl
  rw [hbd]
  have hB0 : (upd h nb (rBox p 1 0 0)) nb = some (rBox p 1 0 0) := upd_same _ _ _
  have hBl : h.le (upd h nb (rBox p 1 0 0)) := Heap.le_upd zb (Heap.le_refl _)
  generalize hgB : upd h nb (rBox p 1 0 0) = hB at hB0 hBl ⊢
  refine loopW (keep := keep131) (ib := ib131) (mk := mk131) mix (by kernel_rfl) (fun x : Nat × Option Nat => [(0, .ip 1 [[sls 3 DFunc.c p.fFuncs]] 0 0), (1, I f), (2, ints args), (9, .op nb 4 0 0), (10, oval 1 (args.take x.1).length x.2), (11, I x.1)]) (fun x => oheap hB (.row 1 ((((args.take x.1).map fun n => [n]).map fun s => [ints s]).map (List.map .v))) x.2) (fun x => x.1 ≤ args.length ∧ oside hB (args.take x.1) x.2) (fun x => args.length - x.1) (0, none) ⟨by simp [SatL, tget, oval], by simp only [oheap_none]; exact Heap.wk_of_le (Heap.le_refl _), Nat.zero_le _, by simp [oside]⟩ ?_
  rintro ⟨k, o⟩ ⟨hk, hos⟩
  simp only at hk hos ⊢
  rcases Nat.lt_or_ge k args.length with hlt | hge
  · have ea : args[k]? = some args[k] := List.getElem?_eq_getElem hlt
    have hy : args.take (k + 1) = args.take k ++ [args[k]] := List.take_succ_eq_append_getElem hlt
    have hlk : (args.take k).length = k := by rw [List.length_take]; omega
    cases o with
    | none =>
      rw [oside_none] at hos
      rw [hos] at hy ⊢
      simp (maxSteps := 1000000) -dsimp -implicitDefEqProofs only [go_sem, ↓reduceIte, keep131, ib131, mk131, Tryz.f131, oval_none, oheap_none, hlt, ea]
      intro _
      refine ⟨Nat.zero_lt_one, Nat.zero_lt_one, Nat.zero_lt_one, Nat.zero_lt_one, Nat.zero_lt_one, fun b hb => ⟨(k + 1, some b), ?_⟩⟩
      simp only [hy]
      refine ⟨⟨rfl, by rw [IntWalk.i64_in _ (by omega)]; rfl⟩, wk_last (A := []) (x := .sl 1 [[I args[k]]] true) (y := ints [args[k]]) (upd_same _ _ _) (Sub.loose _ _ _) (by rw [upd_upd]; exact Heap.le_refl _), ⟨by omega, hb⟩, by omega⟩
    | some n =>
      rw [oside_some] at hos
      simp (maxSteps := 1000000) -dsimp -implicitDefEqProofs only [go_sem, ↓reduceIte, keep131, ib131, mk131, Tryz.f131, oval_some, oheap_some, hlt, ea]
      intro _
      refine ⟨Nat.zero_lt_one, Nat.zero_lt_one, Nat.zero_lt_one, Nat.zero_lt_one, Nat.zero_lt_one, Nat.le_refl _, by omega, by omega, fun b hb => ⟨(k + 1, some b), ?_⟩⟩
      simp only [hy, oheap_some, oval_some, oside_some]
      refine ⟨⟨by rw [List.length_append]; rfl, by rw [IntWalk.i64_in _ (by omega)]; rfl⟩, wk_last (x := .sl 1 [[I args[k]]] true) (y := ints [args[k]]) (upd_same _ _ _) (Sub.loose _ _ _) ?_, ⟨by omega, hb.2⟩, by omega⟩
      have hl2 : (args.take k).length = ((args.take k).map fun n => [n]).length := by rw [List.length_map]
      rw [upd_upd, List.map_append, show ((args.take k).map fun n => [n]) ++ [args[k]].map (fun n => [n]) = ((args.take k).map fun n => [n]) ++ [[args[k]]] from rfl, ← grow_row ints, hl2]
      exact le_app hos
  have hk' : k = args.length := by omega
  subst hk'
  rw [List.take_length] at hos ⊢
  have hserA : ∀ s ∈ args.map (fun n => [n]), serOK 1 s := fun s hs => by
    obtain ⟨n, hn, rfl⟩ := List.mem_map.1 hs
    refine ⟨rfl, fun x hx => ?_⟩
    rw [List.mem_singleton.1 hx]
    exact na n hn
  have hlA : ((args.map fun n => [n]).length : Int) = F.fParams := by rw [List.length_map]; exact hlF
  have hnbB : ∀ {m : Nat}, hB m = none → ¬ nb = m := fun hm e => by rw [← e, hB0] at hm; cases hm
  cases o with
  | none =>
    rw [oside_none] at hos
    subst hos
    simp (maxSteps := 1000000) -dsimp -implicitDefEqProofs only [go_sem, ↓reduceIte, keep131, ib131, mk131, Tryz.f131, oval_none, oheap_none, Nat.lt_irrefl, Int.lt_irrefl, ef]
    refine ⟨hf.1, by omega, ?_⟩
    have ho := outs_of (run hp (by decide : 1 ≤ 1 ∧ 1 ≤ 1048576) 3001) hB nb 0 0 F [] f hB0 (by omega) (by omega) (by omega) (by rw [List.length_map] at hlA; rw [show (([] : List (List Int)).length : Int) = F.fParams from hlA]; exact hF4) hf.1 (by omega) (by simp) (by simp)
    refine HFnF.mkH (HFn.sub (.cons (.refl _) (.cons (Sub.ip (by rw [List.getElem?_map, ef]; rfl) (by simp [DFunc.c_eq])) (.cons (Sub.loose _ _ _) .nil))) ho) ?_
    rintro r h' ⟨vs, t, c, rfl, rfl, hvl, hvs, a1, a2, a3⟩
    have hCl : h.le (upd hB nb (rBox p 1 t c)) := Heap.le_upd zb hBl
    have hCn : (upd hB nb (rBox p 1 t c)) nb = some (.row 4 [[.v (.ip 1 [p.c] 0 0), .v (I 1), .v (I t), .v (I c)]]) := upd_same _ _ _
    generalize upd hB nb (rBox p 1 t c) = hC at hCn hCl ⊢
    rw [runE_zero, ← hF3] at a3
    simp (maxSteps := 1000000) -dsimp -implicitDefEqProofs only [go_sem, ↓reduceIte, keep131, ib131, mk131, Tryz.f131, hCn]
    have hev := evNum_of (show outR (evF p 1 f _) vs t c from a3)
    refine ⟨fun hc => ⟨Nat.zero_lt_one, ?_⟩, fun hc => ⟨Nat.zero_lt_one, ?_⟩⟩
    · try simp only [List.map_nil]
      rw [hev, if_neg hc]
      exact Shift.of (Sub.tup (.cons (Sub.loose _ _ _) (.cons (.refl _) (.cons (.refl _) .nil)))) hCl
    subst hc
    rw [if_pos rfl] at hev
    have hcv : (vs.map fun s => s.getD 0 0).length = vs.length := List.length_map _
    refine loopF (keep := keep131) (ib := ib131) (mk := mk131) mix (by kernel_rfl) (fun x : Nat × Option Nat => [(9, .op nb 4 0 0), (12, intss vs), (13, oval 1 ((vs.map fun s => s.getD 0 0).take x.1).length x.2), (14, I x.1)]) (fun x => oheap hC (.row 1 ((((vs.map fun s => s.getD 0 0).take x.1).map fun n => [I n]).map (List.map .v))) x.2) (fun x => x.1 ≤ vs.length ∧ oside hC ((vs.map fun s => s.getD 0 0).take x.1) x.2) (fun x => vs.length - x.1) (0, none) ⟨by simp [SatL, tget, oval], by simp only [oheap_none]; exact Heap.le_refl _, Nat.zero_le _, by simp [oside]⟩ ?_
    rintro ⟨k, o⟩ ⟨hk, hos⟩
    simp only at hk hos ⊢
    rcases Nat.lt_or_ge k vs.length with hlt | hge
    · have ea : vs[k]? = some vs[k] := List.getElem?_eq_getElem hlt
      have h0 := hvs _ (List.getElem_mem hlt)
      have e0 : (vs[k])[Int.toNat 0]? = some (vs[k].getD 0 0) := getD_get (by rw [h0.1]; decide)
      have h0l := h0.1
      have hy : (vs.map fun s => s.getD 0 0).take (k + 1) = (vs.map fun s => s.getD 0 0).take k ++ [(vs.map fun s => s.getD 0 0)[k]'(by omega)] := List.take_succ_eq_append_getElem (by omega)
      have hlk : ((vs.map fun s => s.getD 0 0).take k).length = k := by rw [List.length_take]; omega
      rw [List.getElem_map] at hy
      cases o with
      | none =>
        rw [oside_none] at hos
        rw [hos] at hy ⊢
        simp (maxSteps := 1000000) -dsimp -implicitDefEqProofs only [go_sem, ↓reduceIte, keep131, ib131, mk131, Tryz.f131, oval_none, oheap_none, hlt, ea, e0]
        repeat' (with_reducible first | intro _ | refine And.intro ?_ ?_)
        all_goals try (first | omega | decide)
        rename_i b hb
        refine ⟨(k + 1, some b), ?_⟩
        simp only [hy]
        refine ⟨⟨rfl, ?_⟩, Heap.le_refl _, ⟨by omega, hb⟩, by omega⟩
        rw [IntWalk.i64_in _ (by omega)]; rfl
      | some n =>
        rw [oside_some] at hos
        simp (maxSteps := 1000000) -dsimp -implicitDefEqProofs only [go_sem, ↓reduceIte, keep131, ib131, mk131, Tryz.f131, oval_some, oheap_some, hlt, ea, e0]
        repeat' (with_reducible first | intro _ | refine And.intro ?_ ?_)
        all_goals try (first | omega | decide | exact Nat.le_refl _)
        rename_i b hb
        refine ⟨(k + 1, some b), ?_⟩
        simp only [hy, oheap_some, oval_some, oside_some]
        refine ⟨⟨by rw [List.length_append]; rfl, ?_⟩, ?_, ⟨by omega, hb.2⟩, by omega⟩
        · rw [IntWalk.i64_in _ (by omega)]; rfl
        · rw [← grow_row]; exact le_app hos
    · have hk' : k = vs.length := by omega
      subst hk'
      rw [List.take_of_length_le (by omega)] at hos ⊢
      cases o with
      | none =>
        rw [oside_none] at hos
        simp (maxSteps := 1000000) -dsimp -implicitDefEqProofs only [go_sem, ↓reduceIte, keep131, ib131, mk131, Tryz.f131, oval_none, oheap_none, Nat.lt_irrefl, Int.lt_irrefl, hCn]
        intro _
        try simp only [List.map_nil]
        rw [hev, hos]
        exact Shift.of (Sub.tup (.cons (Sub.loose _ _ _) (.cons (.refl _) (.cons (.refl _) .nil)))) hCl
      | some n =>
        rw [oside_some] at hos
        have d_n_nb : ¬ n = nb := fun e => by rw [e, hCn] at hos; cases hos
        have d_nb_n : ¬ nb = n := Ne.symm d_n_nb
        have e_n_nb : (n = nb) = False := eq_false d_n_nb
        have e_nb_n : (nb = n) = False := eq_false d_nb_n
        simp (maxSteps := 1000000) -dsimp -implicitDefEqProofs only [go_sem, ↓reduceIte, keep131, ib131, mk131, Tryz.f131, oval_some, oheap_some, Nat.lt_irrefl, Int.lt_irrefl, upd_ne, e_n_nb, e_nb_n, hCn]
        intro _
        try simp only [List.map_nil]
        rw [hev]
        refine Shift.trans (shift_seal ((vs.map fun s => s.getD 0 0).map fun n => [I n]) hos (Heap.le_refl _) (by simp [sealOK, sealOKL]) ?_) (shift_le hCl)
        simp [HVal.sealUp, sealL, List.take_of_length_le]
  | some n =>
    rw [oside_some] at hos
    simp (maxSteps := 1000000) -dsimp -implicitDefEqProofs only [go_sem, ↓reduceIte, keep131, ib131, mk131, Tryz.f131, oval_some, oheap_some, Nat.lt_irrefl, Int.lt_irrefl, ef]
    intro _
    refine ⟨hf.1, by omega, ?_⟩
    have hnn := hnbB hos
    refine HFnF.giveX rfl rfl hnn (by rw [List.length_map, List.length_map]) hos ?_
    have ho := outs_of (run hp (by decide : 1 ≤ 1 ∧ 1 ≤ 1048576) 3001) (upd hB n .gone) nb 0 0 F (args.map fun n => [n]) f (by rw [upd_ne _ _ _ _ hnn]; exact hB0) (by omega) (by omega) (by omega) (by rw [hlA]; exact hF4) hf.1 (by omega) hserA (by rw [List.length_map]; omega)
    refine HFn.mono (HFn.sub (.cons (.refl _) (.cons (Sub.ip (by rw [List.getElem?_map, ef]; rfl) (by simp [DFunc.c_eq])) (.cons (.refl _) .nil))) ho) ?_
    rintro r h' ⟨vs, t, c, rfl, rfl, hvl, hvs, a1, a2, a3⟩
    have hhn : h n = none := by rw [← hgB, upd_ne _ _ _ _ (Ne.symm hnn)] at hos; exact hos
    have hCl : h.le (upd (upd hB n .gone) nb (rBox p 1 t c)) := Heap.le_upd zb (Heap.le_upd hhn hBl)
    have hCn : (upd (upd hB n .gone) nb (rBox p 1 t c)) nb = some (.row 4 [[.v (.ip 1 [p.c] 0 0), .v (I 1), .v (I t), .v (I c)]]) := upd_same _ _ _
    generalize upd (upd hB n .gone) nb (rBox p 1 t c) = hC at hCn hCl ⊢
    rw [runE_zero, ← hF3] at a3
    simp (maxSteps := 1000000) -dsimp -implicitDefEqProofs only [go_sem, ↓reduceIte, keep131, ib131, mk131, Tryz.f131, hCn]
    have hev := evNum_of (show outR (evF p 1 f _) vs t c from a3)
    refine ⟨fun hc => ⟨Nat.zero_lt_one, ?_⟩, fun hc => ⟨Nat.zero_lt_one, ?_⟩⟩
    · try simp only [List.map_nil]
      rw [hev, if_neg hc]
      exact Shift.of (Sub.tup (.cons (Sub.loose _ _ _) (.cons (.refl _) (.cons (.refl _) .nil)))) hCl
    subst hc
    rw [if_pos rfl] at hev
    have hcv : (vs.map fun s => s.getD 0 0).length = vs.length := List.length_map _
    refine loopF (keep := keep131) (ib := ib131) (mk := mk131) mix (by kernel_rfl) (fun x : Nat × Option Nat => [(9, .op nb 4 0 0), (12, intss vs), (13, oval 1 ((vs.map fun s => s.getD 0 0).take x.1).length x.2), (14, I x.1)]) (fun x => oheap hC (.row 1 ((((vs.map fun s => s.getD 0 0).take x.1).map fun n => [I n]).map (List.map .v))) x.2) (fun x => x.1 ≤ vs.length ∧ oside hC ((vs.map fun s => s.getD 0 0).take x.1) x.2) (fun x => vs.length - x.1) (0, none) ⟨by simp [SatL, tget, oval], by simp only [oheap_none]; exact Heap.le_refl _, Nat.zero_le _, by simp [oside]⟩ ?_
    rintro ⟨k, o⟩ ⟨hk, hos⟩
    simp only at hk hos ⊢
    rcases Nat.lt_or_ge k vs.length with hlt | hge
    · have ea : vs[k]? = some vs[k] := List.getElem?_eq_getElem hlt
      have h0 := hvs _ (List.getElem_mem hlt)
      have e0 : (vs[k])[Int.toNat 0]? = some (vs[k].getD 0 0) := getD_get (by rw [h0.1]; decide)
      have h0l := h0.1
      have hy : (vs.map fun s => s.getD 0 0).take (k + 1) = (vs.map fun s => s.getD 0 0).take k ++ [(vs.map fun s => s.getD 0 0)[k]'(by omega)] := List.take_succ_eq_append_getElem (by omega)
      have hlk : ((vs.map fun s => s.getD 0 0).take k).length = k := by rw [List.length_take]; omega
      rw [List.getElem_map] at hy
      cases o with
      | none =>
        rw [oside_none] at hos
        rw [hos] at hy ⊢
        simp (maxSteps := 1000000) -dsimp -implicitDefEqProofs only [go_sem, ↓reduceIte, keep131, ib131, mk131, Tryz.f131, oval_none, oheap_none, hlt, ea, e0]
        repeat' (with_reducible first | intro _ | refine And.intro ?_ ?_)
        all_goals try (first | omega | decide)
        rename_i b hb
        refine ⟨(k + 1, some b), ?_⟩
        simp only [hy]
        refine ⟨⟨rfl, ?_⟩, Heap.le_refl _, ⟨by omega, hb⟩, by omega⟩
        rw [IntWalk.i64_in _ (by omega)]; rfl
      | some n =>
        rw [oside_some] at hos
        simp (maxSteps := 1000000) -dsimp -implicitDefEqProofs only [go_sem, ↓reduceIte, keep131, ib131, mk131, Tryz.f131, oval_some, oheap_some, hlt, ea, e0]
        repeat' (with_reducible first | intro _ | refine And.intro ?_ ?_)
        all_goals try (first | omega | decide | exact Nat.le_refl _)
        rename_i b hb
        refine ⟨(k + 1, some b), ?_⟩
        simp only [hy, oheap_some, oval_some, oside_some]
        refine ⟨⟨by rw [List.length_append]; rfl, ?_⟩, ?_, ⟨by omega, hb.2⟩, by omega⟩
        · rw [IntWalk.i64_in _ (by omega)]; rfl
        · rw [← grow_row]; exact le_app hos
    · have hk' : k = vs.length := by omega
      subst hk'
      rw [List.take_of_length_le (by omega)] at hos ⊢
      cases o with
      | none =>
        rw [oside_none] at hos
        simp (maxSteps := 1000000) -dsimp -implicitDefEqProofs only [go_sem, ↓reduceIte, keep131, ib131, mk131, Tryz.f131, oval_none, oheap_none, Nat.lt_irrefl, Int.lt_irrefl, hCn]
        intro _
        try simp only [List.map_nil]
        rw [hev, hos]
        exact Shift.of (Sub.tup (.cons (Sub.loose _ _ _) (.cons (.refl _) (.cons (.refl _) .nil)))) hCl
      | some n =>
        rw [oside_some] at hos
        have d_n_nb : ¬ n = nb := fun e => by rw [e, hCn] at hos; cases hos
        have d_nb_n : ¬ nb = n := Ne.symm d_n_nb
        have e_n_nb : (n = nb) = False := eq_false d_n_nb
        have e_nb_n : (nb = n) = False := eq_false d_nb_n
        simp (maxSteps := 1000000) -dsimp -implicitDefEqProofs only [go_sem, ↓reduceIte, keep131, ib131, mk131, Tryz.f131, oval_some, oheap_some, Nat.lt_irrefl, Int.lt_irrefl, upd_ne, e_n_nb, e_nb_n, hCn]
        intro _
        try simp only [List.map_nil]
        rw [hev]
        refine Shift.trans (shift_seal ((vs.map fun s => s.getD 0 0).map fun n => [I n]) hos (Heap.le_refl _) (by simp [sealOK, sealOKL]) ?_) (shift_le hCl)
        simp [HVal.sealUp, sealL, List.take_of_length_le]
open Go.Proofs
set_option linter.unusedVariables false
set_option linter.unusedSimpArgs false
def keep118 : List Nat := [0, 1, 2, 3, 8, 9, 10, 11, 12, 13, 31, 41]
def ib118 : List Nat := [32, 37, 50]
def mk118 : Marks := fun id => match id with | 4 => ([4], (.op 0 (.op 1 (.op 2 (.op 3 (.op 4 (.op 5 (.op 6 .nil))))))), []) | _ => ([], .nil, [])
set_option maxRecDepth 100000 in
theorem l03Eval {p : DProgram} (hp : p.ok) {sz : Nat} (hsz : 1 ≤ sz ∧ sz ≤ 1048576) (f : Int) (hf : 0 ≤ f ∧ f < p.fFuncs.length) (args : List (List Int)) (ha : ∀ s ∈ args, serOK sz s) (hl : ∀ F, p.fFuncs[f.toNat]? = some F → (args.length : Int) = F.fParams) :
    Fn0 Tryz.prog 118 [.ip 1 [p.c] 0 0, I f, intss args, I sz] (.tup [intss (evRes (evF p sz f args)).1, I (evRes (evF p sz f args)).2.2]) := by
  obtain ⟨F, ef, hF1, hF2, hF3, hF4⟩ := func_ok hp hf
  have hlF := hl F ef
  rw [DProgram.c_eq]
  refine fn0S 53 keep118 ib118 mk118 mix Tryz.func118 rfl (by kernel_rfl) (by simp) fun h => ?_
  simp (maxSteps := 1000000) -dsimp -implicitDefEqProofs only [go_sem, ↓reduceIte, keep118, ib118, mk118, Tryz.f118, ef]
  intro nb zb
  refine ⟨hf.1, by omega, ?_⟩
  refine HFnF.mkH (HFn.sub (.cons (.refl _) (.cons (Sub.ip (by rw [List.getElem?_map, ef]; rfl) (by simp [DFunc.c_eq])) (.cons (.refl _) .nil))) (outs_of (run hp hsz 3001) (upd h nb (rBox p sz 0 0)) nb 0 0 F args f (upd_same _ _ _) (by omega) (by omega) (by omega) (by rw [hlF]; exact hF4) hf.1 (by omega) ha (by omega))) ?_
  rintro r h' ⟨vs, t, c, rfl, rfl, hvl, hvs, a1, a2, a3⟩
  rw [runE_zero, ← hF3] at a3
  have hev := evRes_of (show outR (evF p sz f args) vs t c from a3)
  rw [upd_upd]
  have hBn : (upd h nb (rBox p sz t c)) nb = some (.row 4 [[.v (.ip 1 [p.c] 0 0), .v (I sz), .v (I t), .v (I c)]]) := upd_same _ _ _
  have hBl : h.le (upd h nb (rBox p sz t c)) := Heap.le_upd zb (Heap.le_refl _)
  generalize upd h nb (rBox p sz t c) = hB at hBn hBl ⊢
  simp (maxSteps := 1000000) -dsimp -implicitDefEqProofs only [go_sem, ↓reduceIte, keep118, ib118, mk118, Tryz.f118, hBn]
  refine ⟨fun hc => ⟨Nat.zero_lt_one, ?_⟩, fun hc => ⟨Nat.zero_lt_one, ?_⟩⟩
  · rw [hev, if_neg hc]
    exact Shift.of (Sub.tup (.cons (Sub.loose _ _ _) (.cons (.refl _) .nil))) hBl
  subst hc
  rw [if_pos rfl] at hev
  refine loopF (keep := keep118) (ib := ib118) (mk := mk118) mix (by kernel_rfl) (fun x : Nat × Option Nat => [(10, .op nb 4 0 0), (11, intss vs), (12, oval 1 (vs.take x.1).length x.2), (13, I x.1)]) (fun x => oheap hB (.row 1 (((vs.take x.1).map fun s => [ints s]).map (List.map .v))) x.2) (fun x => x.1 ≤ vs.length ∧ oside hB (vs.take x.1) x.2) (fun x => vs.length - x.1) (0, none) ⟨by simp [SatL, tget, oval], by simp only [oheap_none]; exact Heap.le_refl _, Nat.zero_le _, by simp [oside]⟩ ?_
  rintro ⟨k, o⟩ ⟨hk, hos⟩
  simp only at hk hos ⊢
  rcases Nat.lt_or_ge k vs.length with hlt | hge
  · have ea : vs[k]? = some vs[k] := List.getElem?_eq_getElem hlt
    have hy : vs.take (k + 1) = vs.take k ++ [vs[k]] := List.take_succ_eq_append_getElem hlt
    have hlk : (vs.take k).length = k := by rw [List.length_take]; omega
    have hsk := hvs _ (List.getElem_mem hlt)
    cases o with
    | none =>
      rw [oside_none] at hos
      rw [hos] at hy ⊢
      simp (maxSteps := 1000000) -dsimp -implicitDefEqProofs only [go_sem, ↓reduceIte, keep118, ib118, mk118, Tryz.f118, oval_none, oheap_none, hlt, ea]
      intro _
      first | refine HFnF.mk (l00OwnS vs[k] (by rw [hsk.1]; omega)) ?_ | refine CallSF.mk (l00OwnS vs[k] (by rw [hsk.1]; omega)) ?_ | refine HFnF.mkAt (l00OwnS vs[k] (by rw [hsk.1]; omega)) ?_ | refine CallSF.mk (FnAt.fn0 (l00OwnS vs[k] (by rw [hsk.1]; omega))) ?_
      simp (maxSteps := 1000000) -dsimp -implicitDefEqProofs only [go_sem, ↓reduceIte, keep118, ib118, mk118, Tryz.f118]
      repeat' (with_reducible first | intro _ | refine And.intro ?_ ?_)
      all_goals try (first | omega | decide)
      rename_i b hb
      refine ⟨(k + 1, some b), ?_⟩
      simp only [hy]
      refine ⟨⟨rfl, ?_⟩, Heap.le_refl _, ⟨by omega, hb⟩, by omega⟩
      rw [IntWalk.i64_in _ (by omega)]; rfl
    | some n =>
      rw [oside_some] at hos
      simp (maxSteps := 1000000) -dsimp -implicitDefEqProofs only [go_sem, ↓reduceIte, keep118, ib118, mk118, Tryz.f118, oval_some, oheap_some, hlt, ea]
      intro _
      first | refine HFnF.mk (l00OwnS vs[k] (by rw [hsk.1]; omega)) ?_ | refine CallSF.mk (l00OwnS vs[k] (by rw [hsk.1]; omega)) ?_ | refine HFnF.mkAt (l00OwnS vs[k] (by rw [hsk.1]; omega)) ?_ | refine CallSF.mk (FnAt.fn0 (l00OwnS vs[k] (by rw [hsk.1]; omega))) ?_
      simp (maxSteps := 1000000) -dsimp -implicitDefEqProofs only [go_sem, ↓reduceIte, keep118, ib118, mk118, Tryz.f118]
      repeat' (with_reducible first | intro _ | refine And.intro ?_ ?_)
      all_goals try (first | omega | decide | exact Nat.le_refl _)
      rename_i b hb
      refine ⟨(k + 1, some b), ?_⟩
      simp only [hy, oheap_some, oval_some, oside_some]
      refine ⟨⟨by rw [List.length_append]; rfl, ?_⟩, ?_, ⟨by omega, hb.2⟩, by omega⟩
      · rw [IntWalk.i64_in _ (by omega)]; rfl
      · rw [← grow_row]; exact le_app hos
  · have hk' : k = vs.length := by omega
    subst hk'
    rw [List.take_length] at hos ⊢
    cases o with
    | none =>
      rw [oside_none] at hos
      simp (maxSteps := 1000000) -dsimp -implicitDefEqProofs only [go_sem, ↓reduceIte, keep118, ib118, mk118, Tryz.f118, oval_none, oheap_none, Nat.lt_irrefl, Int.lt_irrefl]
      intro _
      rw [hev, hos]
      exact Shift.of (Sub.tup (.cons (Sub.loose _ _ _) (.cons (.refl _) .nil))) hBl
    | some n =>
      rw [oside_some] at hos
      simp (maxSteps := 1000000) -dsimp -implicitDefEqProofs only [go_sem, ↓reduceIte, keep118, ib118, mk118, Tryz.f118, oval_some, oheap_some, Nat.lt_irrefl, Int.lt_irrefl]
      intro _
      rw [hev]
      refine Shift.trans (shift_seal (vs.map fun s => [ints s]) hos (Heap.le_refl _) (by simp [sealOK, sealOKL]) ?_) (shift_le hBl)
      simp [HVal.sealUp, sealL, List.take_of_length_le]
set_option maxRecDepth 100000 in
theorem l01Const2 (n : Int) : FnN Tryz.prog 80 [I n, I 2] (QS (OS (oP I) 1 [n, 0])) := by
  refine fnNF 14 keep80 ib80 mk80 mix Tryz.func80 rfl (by kernel_rfl) (by simp) fun h => ?_
  simp (maxSteps := 1000000) -dsimp -implicitDefEqProofs only [go_sem, ↓reduceIte, keep80, ib80, mk80, Tryz.f80, n0, n2, rep2]
  refine ⟨Nat.zero_lt_one, by decide, fun m hm => ⟨fun _ => ⟨by decide, ?_⟩, fun q => absurd (by decide) q⟩⟩
  rw [upd_upd]
  exact own_row (c := I) (l := [n, 0]) hm
def keep271 : List Nat := [0, 1, 4, 5]
def ib271 : List Nat := []
def mk271 : Marks := fun _ => ([], .nil, [])
set_option maxRecDepth 100000 in
theorem l03Unit (n i : Nat) (hn : n ≤ 1048576) (hi : i < n) : Fn0 Tryz.prog 271 [I n, I i] (ints (unitL n i)) := by
  have e1 : (List.replicate n [HVal.int .i64 0])[i]? = some [HVal.int .i64 0] := by rw [List.getElem?_replicate, if_pos hi]
  refine fn0S 12 keep271 ib271 mk271 mix Tryz.func271 rfl (by kernel_rfl) (by simp) fun h => ?_
  simp (maxSteps := 1000000) -dsimp -implicitDefEqProofs only [go_sem, ↓reduceIte, keep271, ib271, mk271, Tryz.f271, e1, Int.toNat_natCast]
  refine ⟨Nat.zero_lt_one, Nat.le_refl _, by omega, by omega, fun m hm => ⟨by omega, ?_⟩⟩
  rw [upd_upd, rowZero, rowSet I]
  exact shift_ints (unitL n i) hm (Heap.le_refl _) (by simp [unitL])
theorem New.eq_one {h g : Heap} {n : Nat} {o : HObj} (w : New h [(n, o)] g) : h n = none ∧ g = upd h n o := by
  refine ⟨w.fresh n (by simp [namesOf]), ?_⟩
  funext q
  rw [upd_apply]
  split
  · rename_i e; rw [e]; exact w.owns (n, o) List.mem_cons_self
  · rename_i e; exact w.upto q (by simp [namesOf, e])
def keep299 : List Nat := [0, 1, 2, 6, 7, 8, 9, 14, 25]
def ib299 : List Nat := [10, 34]
def mk299 : Marks := fun _ => ([], .nil, [])
set_option maxRecDepth 100000 in
theorem l03Line1 (args dir : List Int) (hd : dir.length = args.length) (hal : args.length ≤ 1048576) : Fn0 Tryz.prog 299 [ints args, ints dir, I 1] (intss (lineL args dir)) := by
  have hc := lineL_len hd
  refine fn0S 37 keep299 ib299 mk299 mix Tryz.func299 rfl (by kernel_rfl) (by simp) fun h => ?_
  simp (maxSteps := 1000000) -dsimp -implicitDefEqProofs only [go_sem, ↓reduceIte, keep299, ib299, mk299, Tryz.f299]
  refine ⟨Nat.zero_lt_one, ?_⟩
  refine loopW (keep := keep299) (ib := ib299) (mk := mk299) mix (by kernel_rfl) (fun x : Nat × Option Nat => [(0, ints args), (1, ints dir), (2, I 1), (7, oval 1 ((lineL args dir).take x.1).length x.2), (8, I x.1)]) (fun x => oheap h (.row 1 ((((lineL args dir).take x.1).map fun s => [ints s]).map (List.map .v))) x.2) (fun x => x.1 ≤ args.length ∧ oside h ((lineL args dir).take x.1) x.2) (fun x => args.length - x.1) (0, none) ⟨by simp [SatL, tget, oval], by simp only [oheap_none]; exact Heap.wk_of_le (Heap.le_refl _), Nat.zero_le _, by simp [oside]⟩ ?_
  rintro ⟨k, o⟩ ⟨hk, hos⟩
  simp only at hk hos ⊢
  rcases Nat.lt_or_ge k args.length with hlt | hge
  · have ea : args[k]? = some args[k] := List.getElem?_eq_getElem hlt
    have ed : dir[k]? = some (dir[k]'(by omega)) := List.getElem?_eq_getElem (by omega)
    have hy : (lineL args dir).take (k + 1) = (lineL args dir).take k ++ [(lineL args dir)[k]'(by omega)] := List.take_succ_eq_append_getElem (by omega)
    have hv : (lineL args dir)[k]'(by omega) = [args[k], dir[k]'(by omega)] := by simp [lineL]
    have hlk : ((lineL args dir).take k).length = k := by rw [List.length_take]; omega
    rw [hv] at hy
    cases o with
    | none =>
      rw [oside_none] at hos
      rw [hos] at hy ⊢
      simp (maxSteps := 1000000) -dsimp -implicitDefEqProofs only [go_sem, ↓reduceIte, keep299, ib299, mk299, Tryz.f299, oval_none, oheap_none, hlt, ea, ed, w2]
      intro _
      refine HFnF.wn0 (l01Const2 args[k]) ?_
      rintro r l g ⟨y, oy, rfl, rfl⟩ wn
      rcases oy.prim with ⟨_, q⟩ | ⟨m, rfl⟩
      · cases q
      rw [OV.val_prim]
      rw [OV.sl_rows, rows_map, cells_map] at wn
      obtain ⟨z_m, rfl⟩ := wn.eq_one
      simp (maxSteps := 1000000) -dsimp -implicitDefEqProofs only [go_sem, ↓reduceIte, keep299, ib299, mk299, Tryz.f299, ea, ed, w2, n0, n1, n2, upd_upd]
      refine ⟨fun _ => ⟨by omega, by decide, Nat.zero_lt_one, Nat.zero_lt_one, Nat.zero_lt_one, ?_⟩, fun q => absurd (by decide) q⟩
      intro b q_b
      have d_b_m : ¬ b = m := by first | exact q_b.1 | exact q_b | exact q_b.2.1 | exact q_b.2 | exact q_b.2.2.1 | exact q_b.2.2 | exact q_b.2.2.2.1 | exact q_b.2.2.2 | exact q_b.2.2.2.2.1 | exact q_b.2.2.2.2 | exact q_b.2.2.2.2.2.1 | exact q_b.2.2.2.2.2 | exact q_b.2.2.2.2.2.2.1 | exact q_b.2.2.2.2.2.2 | exact q_b.2.2.2.2.2.2.2.1 | exact q_b.2.2.2.2.2.2.2 | exact q_b.2.2.2.2.2.2.2.2.1 | exact q_b.2.2.2.2.2.2.2.2 | exact q_b.2.2.2.2.2.2.2.2.2.1 | exact q_b.2.2.2.2.2.2.2.2.2 | exact q_b.2.2.2.2.2.2.2.2.2.2.1 | exact q_b.2.2.2.2.2.2.2.2.2.2 | exact q_b.2.2.2.2.2.2.2.2.2.2.2.1 | exact q_b.2.2.2.2.2.2.2.2.2.2.2 | exact q_b.2.2.2.2.2.2.2.2.2.2.2.2.1 | exact q_b.2.2.2.2.2.2.2.2.2.2.2.2 | exact q_b.2.2.2.2.2.2.2.2.2.2.2.2.2.1 | exact q_b.2.2.2.2.2.2.2.2.2.2.2.2.2
      have e_b_m : (b = m) = False := eq_false d_b_m
      have e_m_b : (m = b) = False := eq_false (Ne.symm d_b_m)
      have d_m_b : ¬ m = b := Ne.symm d_b_m
      have z_b : h b = none := by first | exact q_b.1 | exact q_b | exact q_b.2.1 | exact q_b.2 | exact q_b.2.2.1 | exact q_b.2.2 | exact q_b.2.2.2.1 | exact q_b.2.2.2 | exact q_b.2.2.2.2.1 | exact q_b.2.2.2.2 | exact q_b.2.2.2.2.2.1 | exact q_b.2.2.2.2.2 | exact q_b.2.2.2.2.2.2.1 | exact q_b.2.2.2.2.2.2 | exact q_b.2.2.2.2.2.2.2.1 | exact q_b.2.2.2.2.2.2.2 | exact q_b.2.2.2.2.2.2.2.2.1 | exact q_b.2.2.2.2.2.2.2.2 | exact q_b.2.2.2.2.2.2.2.2.2.1 | exact q_b.2.2.2.2.2.2.2.2.2 | exact q_b.2.2.2.2.2.2.2.2.2.2.1 | exact q_b.2.2.2.2.2.2.2.2.2.2 | exact q_b.2.2.2.2.2.2.2.2.2.2.2.1 | exact q_b.2.2.2.2.2.2.2.2.2.2.2 | exact q_b.2.2.2.2.2.2.2.2.2.2.2.2.1 | exact q_b.2.2.2.2.2.2.2.2.2.2.2.2 | exact q_b.2.2.2.2.2.2.2.2.2.2.2.2.2.1 | exact q_b.2.2.2.2.2.2.2.2.2.2.2.2.2
      refine ⟨(k + 1, some b), ?_⟩
      simp only [hy]
      refine ⟨⟨rfl, by rw [IntWalk.i64_in _ (by omega)]; rfl⟩, wk_ints (m := m) (b := b) [] [args[k], dir[k]'(by omega)] (by rw [upd_ne _ _ _ _ d_m_b, upd_same]; rfl) (by rw [upd_same]; rfl) d_b_m (by simp only [oheap_some]; exact (leX_nil (by repeat' (first | exact leX_refl _ _ | refine leX_put (by simp only [upd_apply, ↓reduceIte, eq_self, if_true, e_b_m, e_m_b]) ?_ | refine leX_strip (by first | exact .inr (by assumption) | exact .inl (by simp)) ?_)))), ⟨by omega, z_b⟩, by omega⟩
    | some n =>
      rw [oside_some] at hos
      simp (maxSteps := 1000000) -dsimp -implicitDefEqProofs only [go_sem, ↓reduceIte, keep299, ib299, mk299, Tryz.f299, oval_some, oheap_some, hlt, ea, ed, w2]
      intro _
      refine HFnF.wn1 (l01Const2 args[k]) hos ?_
      rintro r l g ⟨y, oy, rfl, rfl⟩ wn g_n
      rcases oy.prim with ⟨_, q⟩ | ⟨m, rfl⟩
      · cases q
      rw [OV.val_prim]
      rw [OV.sl_rows, rows_map, cells_map] at wn
      obtain ⟨z_m, rfl⟩ := wn.eq_one
      have d_n_m : ¬ n = m := fun e => by rw [e, upd_same] at g_n; cases g_n
      have d_m_n : ¬ m = n := Ne.symm d_n_m
      have e_n_m : (n = m) = False := eq_false d_n_m
      have e_m_n : (m = n) = False := eq_false d_m_n
      simp (maxSteps := 1000000) -dsimp -implicitDefEqProofs only [go_sem, ↓reduceIte, keep299, ib299, mk299, Tryz.f299, ea, ed, w2, n0, n1, n2, upd_upd, upd_ne, e_n_m, e_m_n]
      refine ⟨fun _ => ⟨by omega, by decide, Nat.zero_lt_one, Nat.zero_lt_one, Nat.zero_lt_one, Nat.le_refl _, by omega, by omega, ?_⟩, fun q => absurd (by decide) q⟩
      intro b q_b
      have d_b_n : ¬ b = n := by first | exact q_b.1 | exact q_b | exact q_b.2.1 | exact q_b.2 | exact q_b.2.2.1 | exact q_b.2.2 | exact q_b.2.2.2.1 | exact q_b.2.2.2 | exact q_b.2.2.2.2.1 | exact q_b.2.2.2.2 | exact q_b.2.2.2.2.2.1 | exact q_b.2.2.2.2.2 | exact q_b.2.2.2.2.2.2.1 | exact q_b.2.2.2.2.2.2 | exact q_b.2.2.2.2.2.2.2.1 | exact q_b.2.2.2.2.2.2.2 | exact q_b.2.2.2.2.2.2.2.2.1 | exact q_b.2.2.2.2.2.2.2.2 | exact q_b.2.2.2.2.2.2.2.2.2.1 | exact q_b.2.2.2.2.2.2.2.2.2 | exact q_b.2.2.2.2.2.2.2.2.2.2.1 | exact q_b.2.2.2.2.2.2.2.2.2.2 | exact q_b.2.2.2.2.2.2.2.2.2.2.2.1 | exact q_b.2.2.2.2.2.2.2.2.2.2.2 | exact q_b.2.2.2.2.2.2.2.2.2.2.2.2.1 | exact q_b.2.2.2.2.2.2.2.2.2.2.2.2 | exact q_b.2.2.2.2.2.2.2.2.2.2.2.2.2.1 | exact q_b.2.2.2.2.2.2.2.2.2.2.2.2.2
      have e_b_n : (b = n) = False := eq_false d_b_n
      have e_n_b : (n = b) = False := eq_false (Ne.symm d_b_n)
      have d_n_b : ¬ n = b := Ne.symm d_b_n
      have d_b_m : ¬ b = m := by first | exact q_b.1 | exact q_b | exact q_b.2.1 | exact q_b.2 | exact q_b.2.2.1 | exact q_b.2.2 | exact q_b.2.2.2.1 | exact q_b.2.2.2 | exact q_b.2.2.2.2.1 | exact q_b.2.2.2.2 | exact q_b.2.2.2.2.2.1 | exact q_b.2.2.2.2.2 | exact q_b.2.2.2.2.2.2.1 | exact q_b.2.2.2.2.2.2 | exact q_b.2.2.2.2.2.2.2.1 | exact q_b.2.2.2.2.2.2.2 | exact q_b.2.2.2.2.2.2.2.2.1 | exact q_b.2.2.2.2.2.2.2.2 | exact q_b.2.2.2.2.2.2.2.2.2.1 | exact q_b.2.2.2.2.2.2.2.2.2 | exact q_b.2.2.2.2.2.2.2.2.2.2.1 | exact q_b.2.2.2.2.2.2.2.2.2.2 | exact q_b.2.2.2.2.2.2.2.2.2.2.2.1 | exact q_b.2.2.2.2.2.2.2.2.2.2.2 | exact q_b.2.2.2.2.2.2.2.2.2.2.2.2.1 | exact q_b.2.2.2.2.2.2.2.2.2.2.2.2 | exact q_b.2.2.2.2.2.2.2.2.2.2.2.2.2.1 | exact q_b.2.2.2.2.2.2.2.2.2.2.2.2.2
      have e_b_m : (b = m) = False := eq_false d_b_m
      have e_m_b : (m = b) = False := eq_false (Ne.symm d_b_m)
      have d_m_b : ¬ m = b := Ne.symm d_b_m
      have z_b : h b = none := by first | exact q_b.1 | exact q_b | exact q_b.2.1 | exact q_b.2 | exact q_b.2.2.1 | exact q_b.2.2 | exact q_b.2.2.2.1 | exact q_b.2.2.2 | exact q_b.2.2.2.2.1 | exact q_b.2.2.2.2 | exact q_b.2.2.2.2.2.1 | exact q_b.2.2.2.2.2 | exact q_b.2.2.2.2.2.2.1 | exact q_b.2.2.2.2.2.2 | exact q_b.2.2.2.2.2.2.2.1 | exact q_b.2.2.2.2.2.2.2 | exact q_b.2.2.2.2.2.2.2.2.1 | exact q_b.2.2.2.2.2.2.2.2 | exact q_b.2.2.2.2.2.2.2.2.2.1 | exact q_b.2.2.2.2.2.2.2.2.2 | exact q_b.2.2.2.2.2.2.2.2.2.2.1 | exact q_b.2.2.2.2.2.2.2.2.2.2 | exact q_b.2.2.2.2.2.2.2.2.2.2.2.1 | exact q_b.2.2.2.2.2.2.2.2.2.2.2 | exact q_b.2.2.2.2.2.2.2.2.2.2.2.2.1 | exact q_b.2.2.2.2.2.2.2.2.2.2.2.2 | exact q_b.2.2.2.2.2.2.2.2.2.2.2.2.2.1 | exact q_b.2.2.2.2.2.2.2.2.2.2.2.2.2
      refine ⟨(k + 1, some b), ?_⟩
      simp only [hy, oheap_some, oval_some, oside_some]
      refine ⟨⟨by rw [List.length_append]; rfl, by rw [IntWalk.i64_in _ (by omega)]; rfl⟩, wk_ints (m := m) (b := b) ((lineL args dir).take k) [args[k], dir[k]'(by omega)] (by simp only [upd_apply, e_b_m, e_b_n, e_m_b, e_m_n, e_n_b, e_n_m, ↓reduceIte]; rfl) ?_ d_b_m (leX_nil (by repeat' (first | exact leX_refl _ _ | refine leX_put (by simp only [upd_apply, ↓reduceIte, eq_self, if_true, e_b_m, e_b_n, e_m_b, e_m_n, e_n_b, e_n_m]) ?_ | refine leX_strip (by first | exact .inr (by assumption) | exact .inl (by simp)) ?_))), ⟨by omega, z_b⟩, by omega⟩
      rw [upd_same, List.take_of_length_le (by simp)]
      rfl
  · have hk' : k = args.length := by omega
    subst hk'
    rw [List.take_of_length_le (by omega)] at hos ⊢
    cases o with
    | none =>
      rw [oside_none] at hos
      simp (maxSteps := 1000000) -dsimp -implicitDefEqProofs only [go_sem, ↓reduceIte, keep299, ib299, mk299, Tryz.f299, oval_none, oheap_none, Nat.lt_irrefl, Int.lt_irrefl]
      intro _
      rw [hos]
      exact Shift.of (Sub.loose _ _ _) (Heap.le_refl _)
    | some n =>
      rw [oside_some] at hos
      simp (maxSteps := 1000000) -dsimp -implicitDefEqProofs only [go_sem, ↓reduceIte, keep299, ib299, mk299, Tryz.f299, oval_some, oheap_some, Nat.lt_irrefl, Int.lt_irrefl]
      intro _
      exact shift_intss _ hos (Heap.le_refl _) rfl
def keep270 : List Nat := [0, 1, 2, 3, 4, 10, 11]
def ib270 : List Nat := []
def mk270 : Marks := fun _ => ([], .nil, [])
set_option maxRecDepth 100000 in
theorem l03Taylor1 {p : DProgram} (hp : p.ok) (f : Int) (hf : 0 ≤ f ∧ f < p.fFuncs.length) (args dir : List Int) (hd : dir.length = args.length) (hal : args.length ≤ 1048576) (na : Nums args) (nd : Nums dir) (hl : ∀ F, p.fFuncs[f.toNat]? = some F → (args.length : Int) = F.fParams) :
    Fn0 Tryz.prog 270 [.ip 1 [p.c] 0 0, I f, ints args, ints dir, I 1] (.tup [intss (evRes (evF p 2 f (lineL args dir))).1, I (evRes (evF p 2 f (lineL args dir))).2.2]) := by
  have hev := l03Eval hp (sz := 2) (by decide) f hf (lineL args dir) (lineL_ser na nd) (fun F hF => by rw [lineL_len hd]; exact hl F hF)
  rw [show (((2 : Nat) : Int)) = 2 from rfl, DProgram.c_eq] at hev
  rw [DProgram.c_eq]
  refine fn0F 23 keep270 ib270 mk270 mix Tryz.func270 rfl (by kernel_rfl) (by simp) fun h => ?_
  simp (maxSteps := 1000000) -dsimp -implicitDefEqProofs only [go_sem, ↓reduceIte, keep270, ib270, mk270, Tryz.f270, w2]
  first | refine HFnF.mk (l03Line1 args dir hd hal) ?_ | refine CallSF.mk (l03Line1 args dir hd hal) ?_ | refine HFnF.mkAt (l03Line1 args dir hd hal) ?_ | refine CallSF.mk (FnAt.fn0 (l03Line1 args dir hd hal)) ?_
  simp (maxSteps := 1000000) -dsimp -implicitDefEqProofs only [go_sem, ↓reduceIte, keep270, ib270, mk270, Tryz.f270]
  rw [w2]
  first | refine HFnF.mk (hev) ?_ | refine CallSF.mk (hev) ?_ | refine HFnF.mkAt (hev) ?_ | refine CallSF.mk (FnAt.fn0 (hev)) ?_
  simp (maxSteps := 1000000) -dsimp -implicitDefEqProofs only [go_sem, ↓reduceIte, keep270, ib270, mk270, Tryz.f270]
open Go.Proofs
set_option linter.unusedVariables false
set_option linter.unusedSimpArgs false
def keep228 : List Nat := [0, 1, 2, 6, 7, 8, 10, 11, 12, 13, 14, 15, 28, 42, 60, 79]
def ib228 : List Nat := [32, 33, 45, 75, 80]
def mk228 : Marks := fun id => match id with | 15 => ([5, 13, 15], (.op 0 (.op 1 (.op 2 (.op 3 (.op 4 (.op 6 (.op 7 (.op 8 (.op 9 (.op 10 (.op 11 (.op 12 (.op 5 (.op 13 (.op 14 (.op 15 .nil)))))))))))))))), []) | _ => ([], .nil, [])
set_option maxRecDepth 100000 in
theorem l03Jacobian {p : DProgram} (hp : p.ok) (f : Int) (hf : 0 ≤ f ∧ f < p.fFuncs.length) (args : List Int) (hal : args.length ≤ 12) (na : Nums args) (hl : ∀ F, p.fFuncs[f.toNat]? = some F → (args.length : Int) = F.fParams) {vs : List (List Int)} {t : Nat} (hok : evF p 1 f (args.map fun n => [n]) = .ok (vs, t)) :
    FnN Tryz.prog 228 [.ip 1 [p.c] 0 0, I f, ints args] (QS (OS (oL I) 1 (matP (slopeL p f args) (p.outs f).length args.length 0)) (fun y => .tup [y, I 0])) := by
  obtain ⟨F, ef, hF1, hF2, hF3, hF4⟩ := func_ok hp hf
  have hm : 1 ≤ (p.outs f).length ∧ (p.outs f).length ≤ 12 := by rw [hF3]; exact hF1
  have hse := evF_ser hp (sz := 1) (by decide) f hf (args.map fun n => [n]) (fun s hs => by
    obtain ⟨n, hn, rfl⟩ := List.mem_map.1 hs
    refine ⟨rfl, fun x hx => ?_⟩
    rw [List.mem_singleton.1 hx]
    exact na n hn) (fun F hF => by rw [List.length_map]; exact hl F hF) vs t hok
  have hvM := hse.1
  generalize hM : (p.outs f).length = M at *
  have hev := l02Eval hp f hf args na hal hl
  rw [hok, show evNum (.ok (vs, t)) = (vs.map (·.getD 0 0), (t : Int), 0) from rfl, DProgram.c_eq] at hev
  rw [DProgram.c_eq]
  refine fnNF 83 keep228 ib228 mk228 mix Tryz.func228 rfl (by kernel_rfl) (by simp) fun h => ?_
  simp (maxSteps := 1000000) -dsimp -implicitDefEqProofs only [go_sem, ↓reduceIte, keep228, ib228, mk228, Tryz.f228]
  refine HFnF.mk hev ?_
  simp (maxSteps := 1000000) -dsimp -implicitDefEqProofs only [go_sem, ↓reduceIte, keep228, ib228, mk228, Tryz.f228]
  refine ⟨Nat.zero_lt_one, fun n0_ hn0 => ?_⟩
  refine loopF (keep := keep228) (ib := ib228) (mk := mk228) mix (by kernel_rfl) (fun x : Nat × Nat => [(0, .ip 1 [[sls 3 DFunc.c p.fFuncs]] 0 0), (1, I f), (2, ints args), (8, ints (vs.map fun s => s.getD 0 0)), (10, I 0), (11, .os x.2 1 0 x.1), (12, I x.1)]) (fun x => upd h x.2 (.row 1 (List.replicate x.1 [Cell.v (.sl 1 [] true)]))) (fun x => x.1 ≤ M ∧ h x.2 = none) (fun x => M - x.1) (0, n0_) ⟨by simp [SatL, tget], Heap.le_refl _, Nat.zero_le _, hn0⟩ ?_
  rintro ⟨k, b⟩ ⟨hk, hb⟩
  simp only at hk hb ⊢
  rcases Nat.lt_or_ge k M with hlt | hge
  · simp (maxSteps := 1000000) -dsimp -implicitDefEqProofs only [go_sem, ↓reduceIte, keep228, ib228, mk228, Tryz.f228, hlt, List.length_replicate, hvM]
    intro _
    refine ⟨Nat.zero_lt_one, Nat.zero_lt_one, Nat.zero_lt_one, Nat.zero_lt_one, Nat.le_refl _, by omega, by omega, fun b2 hb2 => ⟨(k + 1, b2), ⟨rfl, by rw [IntWalk.i64_in _ (by omega)]; rfl⟩, ?_, ⟨by omega, hb2.2⟩, by simp only; omega⟩⟩
    rw [List.take_of_length_le (by rw [List.length_replicate]; exact Nat.le_refl _), ← List.replicate_succ']
    exact le_app hb
  have hk' : k = M := by omega
  subst hk'
  simp (maxSteps := 1000000) -dsimp -implicitDefEqProofs only [go_sem, ↓reduceIte, keep228, ib228, mk228, Tryz.f228, Nat.lt_irrefl, Int.lt_irrefl, hvM]
  intro _
  have hcell : List.replicate k [Cell.v (.sl 1 [] true)] = OV.cells (List.replicate k [OV.nil 1]) := by simp [OV.cells, OV.val]
  rw [hcell]
  generalize hS : slopeL p f args = S at *
  refine loopF (keep := keep228) (ib := ib228) (mk := mk228) mix (by kernel_rfl) (fun x : Nat × List (List OV) × Heap => [(0, .ip 1 [[sls 3 DFunc.c p.fFuncs]] 0 0), (1, I f), (2, ints args), (10, I 0), (11, .os b 1 0 k), (13, I x.1)]) (fun x => x.2.2) (fun x => x.1 ≤ args.length ∧ OR (oL I) (matP S k x.1 0) x.2.1 ∧ New h (OV.rowsRow [OV.sl b 1 x.2.1]) x.2.2) (fun x => args.length - x.1) (0, List.replicate k [OV.nil 1], upd h b (.row 1 (OV.cells (List.replicate k [OV.nil 1])))) ⟨by simp [SatL, tget], Heap.le_refl _, Nat.zero_le _, by simp only; rw [matP_zero]; exact OR.reps ⟨_, rfl, OS.nil⟩ _, ?_⟩ ?_
  · simp only
    rw [OV.row_cons, OV.row_nil, List.append_nil, OV.sl_rows]
    rw [rowsRows_nils]
    exact New.one hb
  rintro ⟨i, es, g⟩ ⟨hi, hes, hnw⟩
  simp only at hi hes hnw ⊢
  have hgb : g b = some (.row 1 (OV.cells es)) := hnw.getSl []
  have hel : es.length = k := by rw [← hes.length, matP_len]
  rcases Nat.lt_or_ge i args.length with hlt | hge
  · have hun : Nums (unitL args.length i) := fun x hx => by
      rcases List.mem_or_eq_of_mem_set hx with hx | rfl
      · rw [(List.mem_replicate.1 hx).2]; exact num_zero
      · unfold Num; omega
    obtain ⟨us, hu1, hu2, hu3⟩ := line_ok hp hf (dir := unitL args.length i) (by simp [unitL]) na hun hl hok
    have hdi := l03Taylor1 hp f hf args (unitL args.length i) (by simp [unitL]) (by omega) na hun hl
    have hSi : S i = us.map fun s => s.getD 1 0 := by rw [← hS, slopeL, hu1]; rfl
    rw [hu1, DProgram.c_eq] at hdi
    have hul : us.length = k := by rw [hu2]; exact hM
    simp (maxSteps := 1000000) -dsimp -implicitDefEqProofs only [go_sem, ↓reduceIte, keep228, ib228, mk228, Tryz.f228, hlt]
    intro _
    refine ⟨Nat.zero_lt_one, fun _ => ?_⟩
    first | refine HFnF.mk (l03Unit args.length i (by omega) hlt) ?_ | refine CallSF.mk (l03Unit args.length i (by omega) hlt) ?_ | refine HFnF.mkAt (l03Unit args.length i (by omega) hlt) ?_ | refine CallSF.mk (FnAt.fn0 (l03Unit args.length i (by omega) hlt)) ?_
    simp (maxSteps := 1000000) -dsimp -implicitDefEqProofs only [go_sem, ↓reduceIte, keep228, ib228, mk228, Tryz.f228]
    refine HFnF.mk hdi ?_
    simp (maxSteps := 1000000) -dsimp -implicitDefEqProofs only [go_sem, ↓reduceIte, keep228, ib228, mk228, Tryz.f228]
    refine loopF (keep := keep228) (ib := ib228) (mk := mk228) mix (by kernel_rfl) (fun x : Nat × List (List OV) × Heap => [(0, .ip 1 [[sls 3 DFunc.c p.fFuncs]] 0 0), (1, I f), (2, ints args), (10, I 0), (11, .os b 1 0 k), (13, I i), (14, intss us), (15, I x.1)]) (fun x => x.2.2) (fun x => x.1 ≤ k ∧ OR (oL I) (matP S k i x.1) x.2.1 ∧ New h (OV.rowsRow [OV.sl b 1 x.2.1]) x.2.2) (fun x => k - x.1) (0, es, g) ⟨by simp [SatL, tget], Heap.le_refl _, Nat.zero_le _, hes, hnw⟩ ?_
    rintro ⟨j, es, g⟩ ⟨hj, hes, hnw⟩
    simp only at hj hes hnw ⊢
    have hgb : g b = some (.row 1 (OV.cells es)) := hnw.getSl []
    have hel : es.length = k := by rw [← hes.length, matP_len]
    rcases Nat.lt_or_ge j k with hlt2 | hge2
    · have eu : us[j]? = some us[j] := List.getElem?_eq_getElem (by omega)
      have h0 := hu3 _ (List.getElem_mem (by omega : j < us.length))
      have h0l := h0.1
      have e1 : (us[j])[Int.toNat 1]? = some (us[j].getD 1 0) := getD_get (by rw [h0.1]; decide)
      have eS : us[j].getD 1 0 = (S i).getD j 0 := by
        rw [hSi]; simp [List.getD_eq_getElem?_getD, List.getElem?_map, eu]
      rw [eS] at e1
      obtain ⟨e, he, y, rfl, hy⟩ := hes.getE j _ (matP_get S hlt2)
      have hcg := cells_get he
      have hyl : ((List.range i).map fun n => (S n).getD j 0).length = i := by simp
      rcases hy.prim with ⟨rfl, h0⟩ | ⟨n, rfl⟩
      · simp (maxSteps := 1000000) -dsimp -implicitDefEqProofs only [go_sem, ↓reduceIte, keep228, ib228, mk228, Tryz.f228, hlt2, eu, e1, hgb, hcg, OV.val_nil, cells_len, hel, hul]
        intro _
        refine ⟨by omega, Nat.zero_lt_one, Nat.zero_lt_one, Nat.zero_lt_one, fun m hm => ?_⟩
        have d_m_b : ¬ m = b := fun e => by rw [e, hgb] at hm; cases hm
        have d_b_m : ¬ b = m := Ne.symm d_m_b
        have e_m_b : (m = b) = False := eq_false d_m_b
        have e_b_m : (b = m) = False := eq_false d_b_m
        simp (maxSteps := 1000000) -dsimp -implicitDefEqProofs only [go_sem, ↓reduceIte, keep228, ib228, mk228, Tryz.f228, upd_ne, e_m_b, e_b_m, hgb, cells_len, hel, hlt2, hcg]
        obtain ⟨g3, w1, w2⟩ := hnw.appEl (c := I) (x := (S i).getD j 0) (F := upd (upd g m (.row 1 [[.v (I ((S i).getD j 0))]])) b (.row 1 ((OV.cells es).set j [.v (.os m 1 0 1)]))) he hy hm (fun q _ => by rw [h0]; rfl)
        refine ⟨(j + 1, _, g3), by rw [IntWalk.i64_in _ (by omega)]; rfl, w1, ⟨by omega, ?_, w2⟩, by simp only; omega⟩
        simp only
        rw [matP_set S hlt2]
        exact hes.set j _ _ ⟨_, rfl, OS.mk (OR_map _)⟩
      · obtain ⟨hgn, d_n_b⟩ := hnw.elRow he
        have e_n_b : (n = b) = False := eq_false d_n_b
        have e_b_n : (b = n) = False := eq_false (Ne.symm d_n_b)
        simp (maxSteps := 1000000) -dsimp -implicitDefEqProofs only [go_sem, ↓reduceIte, keep228, ib228, mk228, Tryz.f228, hlt2, eu, e1, hgb, hcg, OV.val_prim, cells_len, hel, hgn, hul]
        rw [List.length_range]
        intro _
        refine ⟨by omega, Nat.zero_lt_one, Nat.zero_lt_one, Nat.zero_lt_one, Nat.le_refl _, by omega, by omega, fun m hm => ?_⟩
        have d_m_b : ¬ m = b := fun e => by rw [e, hgb] at hm; cases hm
        have d_b_m : ¬ b = m := Ne.symm d_m_b
        have e_m_b : (m = b) = False := eq_false d_m_b
        have e_b_m : (b = m) = False := eq_false d_b_m
        have d_m_n : ¬ m = n := fun e => by rw [e, hgn] at hm; cases hm
        have d_n_m : ¬ n = m := Ne.symm d_m_n
        have e_m_n : (m = n) = False := eq_false d_m_n
        have e_n_m : (n = m) = False := eq_false d_n_m
        simp (maxSteps := 1000000) -dsimp -implicitDefEqProofs only [go_sem, ↓reduceIte, keep228, ib228, mk228, Tryz.f228, upd_ne, e_m_b, e_m_n, e_b_m, e_b_n, e_n_m, e_n_b, hgb, cells_len, hel, hlt2, hcg]
        have hgr := grow_row I ((List.range i).map fun n => (S n).getD j 0) ((S i).getD j 0)
        rw [hyl] at hgr
        rw [hgr]
        obtain ⟨g3, w1, w2⟩ := hnw.appEl (c := I) (x := (S i).getD j 0) (F := upd (upd (upd g n .gone) m (.row 1 (((((List.range i).map fun n => (S n).getD j 0) ++ [(S i).getD j 0]).map fun n => [I n]).map (List.map .v)))) b (.row 1 ((OV.cells es).set j [.v (.os m 1 0 (i + 1))]))) he hy hm (fun q hq => by
          rw [hyl]
          have hqn := hq n _ _ rfl
          simp only [upd_apply, if_neg hqn])
        refine ⟨(j + 1, _, g3), by rw [IntWalk.i64_in _ (by omega)]; rfl, w1, ⟨by omega, ?_, w2⟩, by simp only; omega⟩
        simp only
        rw [matP_set S hlt2]
        exact hes.set j _ _ ⟨_, rfl, OS.mk (OR_map _)⟩
    · have hj' : j = k := by omega
      subst hj'
      simp (maxSteps := 1000000) -dsimp -implicitDefEqProofs only [go_sem, ↓reduceIte, keep228, ib228, mk228, Tryz.f228, Nat.lt_irrefl, Int.lt_irrefl, hul]
      intro _
      exact ⟨(i + 1, es, g), by rw [IntWalk.i64_in _ (by omega)]; rfl, Heap.le_refl _, ⟨by omega, by simp only; rw [← matP_next]; exact hes, hnw⟩, by simp only; omega⟩
  · have hi' : i = args.length := by omega
    subst hi'
    simp (maxSteps := 1000000) -dsimp -implicitDefEqProofs only [go_sem, ↓reduceIte, keep228, ib228, mk228, Tryz.f228, Nat.lt_irrefl, Int.lt_irrefl]
    intro _
    rw [OV.row_cons, OV.row_nil, List.append_nil] at hnw
    exact ⟨_, g, _, shift_self _ _, ⟨OV.sl b 1 es, OS.mk hes, by rw [OV.val_sl, hel], rfl⟩, hnw⟩
open Go.Proofs
set_option linter.unusedVariables false
set_option linter.unusedSimpArgs false
def keep185 : List Nat := [0, 1, 4, 7, 16]
def ib185 : List Nat := []
def mk185 : Marks := fun _ => ([], .nil, [])
theorem l02Asked0 {p : DProgram} (hp : p.ok) (hps : p.s ≤ 4194304) (f : Int) (hf : 0 ≤ f ∧ f < p.fFuncs.length) : Fn0 Tryz.prog 185 [.ip 1 [p.c] 0 0, I f] (I 0) := by
  have hok := l02Ok p hps
  have hl := p.len_s
  rw [DProgram.c_eq] at hok ⊢
  refine fn0F 17 keep185 ib185 mk185 mix Tryz.func185 rfl (by kernel_rfl) (by simp) fun h => ?_
  simp (maxSteps := 1000000) -dsimp -implicitDefEqProofs only [go_sem, ↓reduceIte, keep185, ib185, mk185, Tryz.f185]
  refine HFnF.mk hok ?_
  simp (maxSteps := 1000000) -dsimp -implicitDefEqProofs only [go_sem, ↓reduceIte, keep185, ib185, mk185, Tryz.f185, hp, decide_true]
  try (refine ⟨fun q => absurd q (by simp), fun _ => ?_⟩)
  intro _
  rw [IntWalk.i64_in _ (by omega)]
  first | refine HFnF.mk (l00In f 0 ((p.fFuncs.length : Int) - 1)) ?_ | refine CallSF.mk (l00In f 0 ((p.fFuncs.length : Int) - 1)) ?_ | refine HFnF.mkAt (l00In f 0 ((p.fFuncs.length : Int) - 1)) ?_ | refine CallSF.mk (FnAt.fn0 (l00In f 0 ((p.fFuncs.length : Int) - 1))) ?_
  simp (maxSteps := 1000000) -dsimp -implicitDefEqProofs only [go_sem, ↓reduceIte, keep185, ib185, mk185, Tryz.f185]
  intro q; exact q ⟨hf.1, by omega⟩
def keep298 : List Nat := [0, 1, 2, 6, 7, 30]
def ib298 : List Nat := []
def mk298 : Marks := fun _ => ([], .nil, [])
theorem l02Args0 {p : DProgram} (hp : p.ok) (hps : p.s ≤ 4194304) (f : Int) (hf : 0 ≤ f ∧ f < p.fFuncs.length) (args : List Int) (na : Nums args) (hal : args.length ≤ 12) (hl : ∀ F, p.fFuncs[f.toNat]? = some F → (args.length : Int) = F.fParams) : Fn0 Tryz.prog 298 [.ip 1 [p.c] 0 0, I f, ints args] (I 0) := by
  obtain ⟨F, ef, hF1, hF2, hF3, hF4⟩ := func_ok hp hf
  have hlF := hl F ef
  have hok := l02Asked0 hp hps f hf
  rw [DProgram.c_eq] at hok ⊢
  refine fn0F 32 keep298 ib298 mk298 mix Tryz.func298 rfl (by kernel_rfl) (by simp) fun h => ?_
  simp (maxSteps := 1000000) -dsimp -implicitDefEqProofs only [go_sem, ↓reduceIte, keep298, ib298, mk298, Tryz.f298]
  refine HFnF.mk hok ?_
  simp (maxSteps := 1000000) -dsimp -implicitDefEqProofs only [go_sem, ↓reduceIte, keep298, ib298, mk298, Tryz.f298, ef, DFunc.c_eq]
  intro _
  refine ⟨hf.1, hf.2, fun _ => ?_, fun q => q hlF⟩
  first | refine HFnF.mk (l01Numbers args) ?_ | refine CallSF.mk (l01Numbers args) ?_ | refine HFnF.mkAt (l01Numbers args) ?_ | refine CallSF.mk (FnAt.fn0 (l01Numbers args)) ?_
  simp (maxSteps := 1000000) -dsimp -implicitDefEqProofs only [go_sem, ↓reduceIte, keep298, ib298, mk298, Tryz.f298]
  intro q; exact q na
def keep269 : List Nat := [0, 1, 2, 3, 8, 9, 27]
def ib269 : List Nat := []
def mk269 : Marks := fun _ => ([], .nil, [])
theorem l03Asked0 {p : DProgram} (hp : p.ok) (hps : p.s ≤ 4194304) (f : Int) (hf : 0 ≤ f ∧ f < p.fFuncs.length) (args : List Int) (na : Nums args) (hal : args.length ≤ 12) (hl : ∀ F, p.fFuncs[f.toNat]? = some F → (args.length : Int) = F.fParams) : Fn0 Tryz.prog 269 [.ip 1 [p.c] 0 0, I f, ints args, ints args] (I 0) := by
  have hok := l02Args0 hp hps f hf args na hal hl
  rw [DProgram.c_eq] at hok ⊢
  refine fn0F 29 keep269 ib269 mk269 mix Tryz.func269 rfl (by kernel_rfl) (by simp) fun h => ?_
  simp (maxSteps := 1000000) -dsimp -implicitDefEqProofs only [go_sem, ↓reduceIte, keep269, ib269, mk269, Tryz.f269]
  refine HFnF.mk hok ?_
  simp (maxSteps := 1000000) -dsimp -implicitDefEqProofs only [go_sem, ↓reduceIte, keep269, ib269, mk269, Tryz.f269]
  intro _ _
  first | refine HFnF.mk (l01Numbers args) ?_ | refine CallSF.mk (l01Numbers args) ?_ | refine HFnF.mkAt (l01Numbers args) ?_ | refine CallSF.mk (FnAt.fn0 (l01Numbers args)) ?_
  simp (maxSteps := 1000000) -dsimp -implicitDefEqProofs only [go_sem, ↓reduceIte, keep269, ib269, mk269, Tryz.f269]
  intro q; exact q na
def keep227 : List Nat := [0, 1, 2, 3, 4, 10, 11, 33]
def ib227 : List Nat := []
def mk227 : Marks := fun _ => ([], .nil, [])
theorem l03Picked0 {p : DProgram} (hp : p.ok) (hps : p.s ≤ 4194304) (f : Int) (hf : 0 ≤ f ∧ f < p.fFuncs.length) (args : List Int) (na : Nums args) (hal : args.length ≤ 12) (hl : ∀ F, p.fFuncs[f.toNat]? = some F → (args.length : Int) = F.fParams) : Fn0 Tryz.prog 227 [.ip 1 [p.c] 0 0, I f, I 0, ints args, ints args] (I 0) := by
  obtain ⟨F, ef, hF1, hF2, hF3, hF4⟩ := func_ok hp hf
  have hok := l03Asked0 hp hps f hf args na hal hl
  rw [DProgram.c_eq] at hok ⊢
  refine fn0F 35 keep227 ib227 mk227 mix Tryz.func227 rfl (by kernel_rfl) (by simp) fun h => ?_
  simp (maxSteps := 1000000) -dsimp -implicitDefEqProofs only [go_sem, ↓reduceIte, keep227, ib227, mk227, Tryz.f227]
  refine HFnF.mk hok ?_
  simp (maxSteps := 1000000) -dsimp -implicitDefEqProofs only [go_sem, ↓reduceIte, keep227, ib227, mk227, Tryz.f227, ef, DFunc.c_eq]
  refine ⟨hf.1, hf.2, fun _ => ?_⟩
  rw [IntWalk.i64_in _ (by omega)]
  first | refine HFnF.mk (l00In 0 0 ((F.fOuts.length : Int) - 1)) ?_ | refine CallSF.mk (l00In 0 0 ((F.fOuts.length : Int) - 1)) ?_ | refine HFnF.mkAt (l00In 0 0 ((F.fOuts.length : Int) - 1)) ?_ | refine CallSF.mk (FnAt.fn0 (l00In 0 0 ((F.fOuts.length : Int) - 1))) ?_
  simp (maxSteps := 1000000) -dsimp -implicitDefEqProofs only [go_sem, ↓reduceIte, keep227, ib227, mk227, Tryz.f227]
  intro q; exact q (by omega)
def gradS (p : DProgram) (f : Int) (args : List Int) : List Int := (matP (slopeL p f args) (p.outs f).length args.length 0).getD 0 []
def keep132 : List Nat := [0, 1, 2, 3, 4, 8, 9, 10, 11, 12, 19, 29]
def ib132 : List Nat := [4, 20, 30]
def mk132 : Marks := fun _ => ([], .nil, [])
set_option maxRecDepth 100000 in
theorem GradientOf0 {p : DProgram} (hp : p.ok) (hps : p.s ≤ 4194304) (f : Int) (hf : 0 ≤ f ∧ f < p.fFuncs.length) (args : List Int) (na : Nums args) (hal : args.length ≤ 12) (hl : ∀ F, p.fFuncs[f.toNat]? = some F → (args.length : Int) = F.fParams) {vs : List (List Int)} {t : Nat} (hok : evF p 1 f (args.map fun n => [n]) = .ok (vs, t)) :
    Fn0 Tryz.prog 132 [.agg p.c, I f, I 0, ints args] (.tup [ints (gradS p f args), I 0]) := by
  have hpk := l03Picked0 hp hps f hf args na hal hl
  have hjac := QS.fn0W (l03Jacobian hp f hf args hal na hl hok) (fun y hy => OS.dat (c := fun s => [ints s]) (fun _ _ q => oL_dat q) hy) (wrap_tup [] [I 0])
  obtain ⟨F, ef, hF1, hF2, hF3, hF4⟩ := func_ok hp hf
  have hJl := matP_len (slopeL p f args) (p.outs f).length args.length 0
  rw [gradS]
  generalize matP (slopeL p f args) (p.outs f).length args.length 0 = J at *
  have gJ : J[Int.toNat 0]? = some (J.getD 0 []) := env_get (by rw [hJl, hF3]; omega)
  rw [DProgram.c_eq] at hpk hjac ⊢
  refine fn0F 36 keep132 ib132 mk132 mix Tryz.func132 rfl (by kernel_rfl) (by simp) fun h => ?_
  simp (maxSteps := 1000000) -dsimp -implicitDefEqProofs only [go_sem, ↓reduceIte, keep132, ib132, mk132, Tryz.f132]
  refine HFnF.mk hpk ?_
  simp (maxSteps := 1000000) -dsimp -implicitDefEqProofs only [go_sem, ↓reduceIte, keep132, ib132, mk132, Tryz.f132]
  refine HFnF.mk hjac ?_
  simp (maxSteps := 1000000) -dsimp -implicitDefEqProofs only [go_sem, ↓reduceIte, keep132, ib132, mk132, Tryz.f132, gJ]
  rw [hJl, hF3]
  omega
def keep55 : List Nat := [0, 1, 4, 5, 6, 8, 9, 37]
def ib55 : List Nat := [39]
def mk55 : Marks := fun id => match id with | 1 => ([11], (.op 0 (.op 1 (.op 2 (.op 3 (.op 4 (.op 5 (.op 6 (.op 7 (.op 8 (.op 9 (.op 10 (.op 11 (.op 12 .nil))))))))))))), []) | 2 => ([8], (.op 0 (.op 1 (.op 2 (.op 3 (.op 4 (.op 5 (.op 6 (.op 7 (.op 8 (.op 9 (.op 10 (.op 11 (.op 12 (.op 13 (.op 14 (.op 15 .nil)))))))))))))))), []) | 5 => ([9], (.op 0 (.op 1 (.op 2 (.op 3 (.op 4 (.op 5 (.op 6 (.op 7 (.op 8 (.op 9 (.op 10 (.op 11 (.op 12 (.op 13 (.op 14 .nil))))))))))))))), []) | 6 => ([9, 11], (.op 0 (.op 1 (.op 2 (.op 3 (.op 4 (.op 5 (.op 6 (.op 7 (.op 8 (.op 9 (.op 10 (.op 11 .nil)))))))))))), []) | _ => ([], .nil, [])
set_option maxRecDepth 100000 in
set_option maxHeartbeats 1000000 in
theorem l08Part {j : DJob} (hj : j.ok) (hps : j.fProgram.s ≤ 4194304) {k : Nat} (hk : k < j.fTerms.length) : FnN Tryz.prog 55 [.ip 5 [j.c] 0 0, I k] (QA (partS j k).o) := by
  obtain ⟨t1, t2, t3, t4, t5, t6, t7, t8⟩ := term_facts hj hk
  obtain ⟨F, eF, hf, hF, ok⟩ := job_facts hj
  have hargs : Fn0 Tryz.prog 130 [ints j.fPoint, ints (j.fTerms.getD k [])] (ints (argsOf j k)) := l08Args j.fPoint (j.fTerms.getD k []) (by omega) (by omega)
  have hev := l02Eval hj.1 j.fFunc hf (argsOf j k) t2 t4 t3
  have hse := evF_ser hj.1 (sz := 1) (by decide) j.fFunc hf ((argsOf j k).map fun n => [n]) (fun s hs => by
    obtain ⟨n, hn, rfl⟩ := List.mem_map.1 hs
    refine ⟨rfl, fun x hx => ?_⟩
    rw [List.mem_singleton.1 hx]
    exact t2 n hn) (fun F hF => by rw [List.length_map]; exact t3 F hF)
  have her := evF_err j.fProgram 1 j.fFunc ((argsOf j k).map fun n => [n])
  have hgr := fun vs t => GradientOf0 (vs := vs) (t := t) hj.1 hps j.fFunc hf (argsOf j k) t2 t4 t3
  rw [DProgram.c_eq] at hev
  simp only [DProgram.c_eq] at hgr
  simp only [DJob.c_eq]
  refine fnNF 65 keep55 ib55 mk55 mix Tryz.func55 rfl (by kernel_rfl) (by simp) fun h => ?_
  simp (maxSteps := 1000000) -dsimp -implicitDefEqProofs only [go_sem, ↓reduceIte, keep55, ib55, mk55, Tryz.f55, t1]
  intro n4 z4
  try simp (maxSteps := 1000000) -dsimp -implicitDefEqProofs only [go_sem, ↓reduceIte, keep55, ib55, mk55, Tryz.f55, t1]
  refine ⟨hk, ?_⟩
  refine HFnF.mk hargs ?_
  simp (maxSteps := 1000000) -dsimp -implicitDefEqProofs only [go_sem, ↓reduceIte, keep55, ib55, mk55, Tryz.f55]
  refine HFnF.mk (hev.sub (.cons (Sub.ipAt rfl rfl rfl) (.cons (.refl _) (.cons (.refl _) .nil)))) ?_
  simp (maxSteps := 1000000) -dsimp -implicitDefEqProofs only [go_sem, ↓reduceIte, keep55, ib55, mk55, Tryz.f55]
  cases hX : evF j.fProgram 1 j.fFunc ((argsOf j k).map fun n => [n]) with
  | error c =>
    have hc : ¬ c = 0 := by rcases her c hX with rfl | rfl <;> decide
    refine ⟨fun _ => ⟨Nat.zero_lt_one, ?_⟩, fun q => absurd q hc⟩
    have hp : partS j k = ⟨c, 0, []⟩ := by rw [partS, hX]
    rw [hp, evNum]
    exact own_zero (z := [I c, I 0, .sl 1 [] true]) ⟨[.v (I c), .v (I 0), .nil 1], ⟨_, rfl, OS.nil⟩, by simp [OV.row_cons, OV.row_nil, OV.v_rows, OV.nil_rows], Sub.agg (.refl _)⟩ wsub_id (by repeat' (first | exact Heap.le_refl _ | refine Heap.le_both ?_ | refine Heap.le_upd (by first | assumption | (rw [upd_ne _ _ _ _ (by assumption)]; assumption) | (rw [upd_ne _ _ _ _ (by assumption), upd_ne _ _ _ _ (by assumption)]; assumption) | (rw [upd_ne _ _ _ _ (by assumption), upd_ne _ _ _ _ (by assumption), upd_ne _ _ _ _ (by assumption)]; assumption)) ?_))
  | ok q =>
    obtain ⟨vs, t⟩ := q
    refine ⟨fun q => absurd rfl q, fun _ => ?_⟩
    have hv := hse vs t hX
    obtain ⟨F2, eF2, hO1, hO2, hO3, hO4⟩ := func_ok hj.1 hf
    have hp : partS j k = ⟨0, (vs.getD 0 []).getD 0 0, (gradS j.fProgram j.fFunc (argsOf j k)).take j.fShared.toNat⟩ := by rw [partS, hX]; rfl
    rw [hp]
    have hgr2 := hgr vs t hX
    have hl0 : 0 < (j.fProgram.outs j.fFunc).length := by rw [hO3]; omega
    have hJ0 := matP_get (slopeL j.fProgram j.fFunc (argsOf j k)) (m := (j.fProgram.outs j.fFunc).length) (i := (argsOf j k).length) (k := 0) hl0
    have hJ1 : (gradS j.fProgram j.fFunc (argsOf j k)).length = (argsOf j k).length := by
      rw [gradS, List.getD_eq_getElem?_getD, hJ0]; simp
    generalize gradS j.fProgram j.fFunc (argsOf j k) = G at *
    refine HFnF.mk hgr2 ?_
    have g0 : (vs.map fun s => s.getD 0 0)[Int.toNat 0]? = some ((vs.getD 0 []).getD 0 0) := by
      show (vs.map fun s => s.getD 0 0)[0]? = _
      rw [List.getElem?_map, env_get (by rw [hv.1]; exact hl0)]; rfl
    rw [show evNum (.ok (vs, t)) = (vs.map (·.getD 0 0), (t : Int), 0) from rfl]
    simp (maxSteps := 1000000) -dsimp -implicitDefEqProofs only [go_sem, ↓reduceIte, keep55, ib55, mk55, Tryz.f55, g0]
    refine ⟨by rw [hv.1]; omega, ?_⟩
    simp only [Option.toArray, List.toList_toArray, List.nil_append, List.append_nil, List.filterMap_cons, List.filterMap_nil, List.elem_cons_self, beq_self_eq_true, if_true]
    simp (maxSteps := 1000000) -dsimp -implicitDefEqProofs only [go_sem, ↓reduceIte, keep55, ib55, mk55, Tryz.f55]
    refine ⟨t7, by rw [hJ1]; omega, ?_⟩
    rw [← List.map_take]
    refine HFnF.wn1 (l00Own (G.take j.fShared.toNat) (by rw [List.length_take]; omega)) z4 ?_
    rintro r l g ⟨y, oy, rfl, rfl⟩ wn z4
    simp (maxSteps := 1000000) -dsimp -implicitDefEqProofs only [go_sem, ↓reduceIte, keep55, ib55, mk55, Tryz.f55, oy.flat, oy.one]
    exact own_endE (e := [.v (I 0), .v (I ((vs.getD 0 []).getD 0 0)), y]) (by simp only [OV.map_val, OV.map_val_nil, OV.val_v]) ⟨y, rfl, oy⟩ (by rw [OV.row_cons, OV.row_cons, OV.row_cons, OV.row_nil, OV.v_rows, OV.v_rows, List.append_nil]; exact wn) (by repeat' (first | exact Heap.le_refl _ | refine Heap.le_both ?_ | refine Heap.le_upd (by first | assumption | (rw [upd_ne _ _ _ _ (by assumption)]; assumption) | (rw [upd_ne _ _ _ _ (by assumption), upd_ne _ _ _ _ (by assumption)]; assumption) | (rw [upd_ne _ _ _ _ (by assumption), upd_ne _ _ _ _ (by assumption), upd_ne _ _ _ _ (by assumption)]; assumption)) ?_))
open Go.Proofs
set_option linter.unusedVariables false
set_option linter.unusedSimpArgs false
def keep64 : List Nat := [0, 1, 4]
def ib64 : List Nat := []
def mk64 : Marks := fun id => match id with | 1 => ([], (.op 0 (.op 1 (.op 2 (.op 3 (.op 4 (.op 5 (.op 6 (.op 7 (.op 8 (.op 9 (.op 10 (.op 11 (.op 12 (.op 13 (.op 14 (.op 15 (.op 16 (.op 17 (.op 18 (.op 19 (.op 20 (.op 21 (.op 22 (.op 23 (.op 24 (.op 25 (.op 26 (.op 27 (.op 28 (.op 29 (.op 30 (.op 31 .nil)))))))))))))))))))))))))))))))), []) | _ => ([], .nil, [])
set_option maxRecDepth 100000 in
theorem l08SamePart (a b : DPart) : Fn0 Tryz.prog 64 [.ip 3 [a.c] 0 0, .ip 3 [b.c] 0 0] (.bool (decide (a = b))) := by
  simp only [DPart.c_eq]
  refine fn0F 36 keep64 ib64 mk64 mix Tryz.func64 rfl (by kernel_rfl) (by simp) fun h => ?_
  simp (maxSteps := 1000000) -dsimp -implicitDefEqProofs only [go_sem, ↓reduceIte, keep64, ib64, mk64, Tryz.f64]
  repeat' (with_reducible first | intro _ | refine And.intro ?_ ?_)
  all_goals try (first | (simp [DPart.eq_iff, *]; done) | omega | (grind [DPart.eq_iff]) | (simp [DPart.eq_iff]; omega))
  first | refine HFnF.mk (l00Same_Int64S a.fGrad b.fGrad) ?_ | refine CallSF.mk (l00Same_Int64S a.fGrad b.fGrad) ?_ | refine HFnF.mkAt (l00Same_Int64S a.fGrad b.fGrad) ?_ | refine CallSF.mk (FnAt.fn0 (l00Same_Int64S a.fGrad b.fGrad)) ?_
  simp (maxSteps := 1000000) -dsimp -implicitDefEqProofs only [go_sem, ↓reduceIte, keep64, ib64, mk64, Tryz.f64]
  all_goals try (first | (simp [DPart.eq_iff, *]; done) | omega | (grind [DPart.eq_iff]) | (simp [DPart.eq_iff]; omega))
open Go.Proofs
set_option linter.unusedVariables false
set_option linter.unusedSimpArgs false
def isT (s : DService) : Prop := s.ok ∧ ∀ (k : Nat) (p : DPart), s.fKnown[k]? = some true → s.fParts[k]? = some p → p = partS s.fJob k
noncomputable instance (s : DService) : Decidable (isT s) := Classical.propDecidable _
def keep27 : List Nat := [0, 1, 2, 3, 4, 7, 9, 10, 11, 12, 29]
def ib27 : List Nat := [1]
def mk27 : Marks := fun id => match id with | 6 => ([], (.op 0 (.op 1 (.op 2 (.op 3 (.op 4 (.op 5 (.op 6 (.op 7 (.op 8 (.op 9 (.op 10 (.op 11 (.op 12 (.op 13 .nil)))))))))))))), []) | _ => ([], .nil, [])
set_option maxRecDepth 100000 in
theorem IsTrue (s : DService) (hs : s.s ≤ 1048576) : Fn0 Tryz.prog 27 [.agg s.c] (.bool (decide (isT s))) := by
  have hs' := s.s_eq
  have hs2 := s.fJob.s_eq
  simp only [szs_eq] at hs' hs2
  have hok := ValidService s (by omega)
  simp only [DService.c_eq] at hok ⊢
  refine fn0F 31 keep27 ib27 mk27 mix Tryz.func27 rfl (by kernel_rfl) (by simp) fun h => ?_
  simp (maxSteps := 1000000) -dsimp -implicitDefEqProofs only [go_sem, ↓reduceIte, keep27, ib27, mk27, Tryz.f27]
  first | refine HFnF.mk (hok) ?_ | refine CallSF.mk (hok) ?_ | refine HFnF.mkAt (hok) ?_ | refine CallSF.mk (FnAt.fn0 (hok)) ?_
  simp (maxSteps := 1000000) -dsimp -implicitDefEqProofs only [go_sem, ↓reduceIte, keep27, ib27, mk27, Tryz.f27]
  refine ⟨fun hn => ?_, fun hy => ?_⟩
  · exact (decide_eq_false fun z => hn z.1).symm
  have hl := hy.2.1
  try simp (maxSteps := 1000000) -dsimp -implicitDefEqProofs only [go_sem, ↓reduceIte, keep27, ib27, mk27, Tryz.f27]
  intro _
  refine loopF (keep := keep27) (ib := ib27) (mk := mk27) mix (by kernel_rfl) (fun k : Nat => [(1, .ip 9 [s.c] 0 0), (9, sls 1 (fun b => [.bool b]) s.fKnown), (10, I s.fKnown.length), (11, I k)]) (fun _ => h) (fun k => k ≤ s.fKnown.length ∧ ∀ (j : Nat) (p : DPart), j < k → s.fKnown[j]? = some true → s.fParts[j]? = some p → p = partS s.fJob j) (fun k => s.fKnown.length - k) 0 ⟨by simp [SatL, tget, DService.c_eq], Heap.le_refl _, Nat.zero_le _, fun j p q => absurd q (Nat.not_lt_zero j)⟩ ?_
  intro k ⟨hk, hall⟩
  simp only [DService.c_eq]
  rcases Nat.lt_or_ge k s.fKnown.length with hlt | hge
  · have k3 : k < s.fParts.length := by omega
    have g2 : s.fKnown[k]? = some s.fKnown[k] := List.getElem?_eq_getElem hlt
    have g3 : s.fParts[k]? = some s.fParts[k] := List.getElem?_eq_getElem k3
    have nx (q : s.fKnown[k] = true → s.fParts[k] = partS s.fJob k) : ∀ (j : Nat) (p : DPart), j < k + 1 → s.fKnown[j]? = some true → s.fParts[j]? = some p → p = partS s.fJob j := by
      intro j p hj a b
      rcases Nat.lt_succ_iff_lt_or_eq.1 hj with hj | rfl
      · exact hall j p hj a b
      · rw [g2] at a; rw [g3] at b
        obtain rfl := Option.some.inj b
        exact q (Option.some.inj a)
    have hp := partI hy.1 (k := k) (by omega)
    have hsp := samePart s.fParts[k] (partS s.fJob k)
    simp only [DJob.c_eq, DPart.c_eq] at hp hsp
    cases hkn : s.fKnown[k]
    all_goals
      rw [hkn] at g2 nx
      simp (maxSteps := 1000000) -dsimp -implicitDefEqProofs only [go_sem, ↓reduceIte, keep27, ib27, mk27, Tryz.f27, g2, g3, DPart.c_eq, hlt]
    · exact ⟨k + 1, by rw [IntWalk.i64_in _ (by omega)]; rfl, ⟨by omega, nx (fun q => by cases q)⟩, by omega⟩
    · refine ⟨k3, ?_⟩
      first | refine HFnF.mk (hp) ?_ | refine CallSF.mk (hp) ?_ | refine HFnF.mkAt (hp) ?_ | refine CallSF.mk (FnAt.fn0 (hp)) ?_
      simp (maxSteps := 1000000) -dsimp -implicitDefEqProofs only [go_sem, ↓reduceIte, keep27, ib27, mk27, Tryz.f27, g2, g3, DPart.c_eq]
      first | refine HFnF.mk (hsp) ?_ | refine CallSF.mk (hsp) ?_ | refine HFnF.mkAt (hsp) ?_ | refine CallSF.mk (FnAt.fn0 (hsp)) ?_
      simp (maxSteps := 1000000) -dsimp -implicitDefEqProofs only [go_sem, ↓reduceIte, keep27, ib27, mk27, Tryz.f27]
      refine ⟨fun hq => (decide_eq_false fun z => hq (z.2 k _ g2 g3)).symm, fun hq => ?_⟩
      exact ⟨k + 1, by rw [IntWalk.i64_in _ (by omega)]; rfl, ⟨by omega, nx (fun _ => hq)⟩, by omega⟩
  · have hk' : k = s.fKnown.length := by omega
    subst hk'
    simp (maxSteps := 1000000) -dsimp -implicitDefEqProofs only [go_sem, ↓reduceIte, keep27, ib27, mk27, Tryz.f27, Int.lt_irrefl, Nat.lt_irrefl]
    exact (decide_eq_true ⟨hy, fun j p a b => hall j p (List.getElem?_eq_some_iff.1 a).1 a b⟩).symm
def keep25 : List Nat := [0, 1, 2, 3, 4, 6, 11, 19, 28]
def ib25 : List Nat := [1]
def mk25 : Marks := fun _ => ([], .nil, [])
set_option maxRecDepth 100000 in
theorem specIsTrue (s : DService) (hs : s.s ≤ 1048576) : Fn0 Tryz.prog 25 [.agg s.c] (.bool (decide (isT s))) := by
  have hs' := s.s_eq
  have hs2 := s.fJob.s_eq
  simp only [szs_eq] at hs' hs2
  have hok := l08Ok s (by omega)
  simp only [DService.c_eq] at hok ⊢
  refine fn0F 29 keep25 ib25 mk25 mix Tryz.func25 rfl (by kernel_rfl) (by simp) fun h => ?_
  simp (maxSteps := 1000000) -dsimp -implicitDefEqProofs only [go_sem, ↓reduceIte, keep25, ib25, mk25, Tryz.f25]
  first | refine HFnF.mk (hok) ?_ | refine CallSF.mk (hok) ?_ | refine HFnF.mkAt (hok) ?_ | refine CallSF.mk (FnAt.fn0 (hok)) ?_
  simp (maxSteps := 1000000) -dsimp -implicitDefEqProofs only [go_sem, ↓reduceIte, keep25, ib25, mk25, Tryz.f25]
  refine ⟨fun hn => ?_, fun hy => ?_⟩
  · exact (decide_eq_false fun z => hn z.1).symm
  have hl := hy.2.1
  try simp (maxSteps := 1000000) -dsimp -implicitDefEqProofs only [go_sem, ↓reduceIte, keep25, ib25, mk25, Tryz.f25]
  refine loopSame (keep := keep25) (ib := ib25) (mk := mk25) mix (by kernel_rfl) (fun k : Nat => [(1, .ip 9 [s.c] 0 0), (3, I k)]) (fun k => k ≤ s.fKnown.length ∧ ∀ (j : Nat) (p : DPart), j < k → s.fKnown[j]? = some true → s.fParts[j]? = some p → p = partS s.fJob j) (fun k => s.fKnown.length - k) 0 ⟨by simp [SatL, tget, DService.c_eq], Nat.zero_le _, fun j p q => absurd q (Nat.not_lt_zero j)⟩ ?_
  intro k ⟨hk, hall⟩
  simp only [DService.c_eq]
  rcases Nat.lt_or_ge k s.fKnown.length with hlt | hge
  · have k3 : k < s.fParts.length := by omega
    have g2 : s.fKnown[k]? = some s.fKnown[k] := List.getElem?_eq_getElem hlt
    have g3 : s.fParts[k]? = some s.fParts[k] := List.getElem?_eq_getElem k3
    have nx (q : s.fKnown[k] = true → s.fParts[k] = partS s.fJob k) : ∀ (j : Nat) (p : DPart), j < k + 1 → s.fKnown[j]? = some true → s.fParts[j]? = some p → p = partS s.fJob j := by
      intro j p hj a b
      rcases Nat.lt_succ_iff_lt_or_eq.1 hj with hj | rfl
      · exact hall j p hj a b
      · rw [g2] at a; rw [g3] at b
        obtain rfl := Option.some.inj b
        exact q (Option.some.inj a)
    have hp : Fn0 Tryz.prog 55 [.ip 5 [s.fJob.c] 0 0, I k] (.agg (partS s.fJob k).c) := QA.fn0 (l08Part hy.1 (by omega) (by omega)) (fun e he => DPart.o_dat he)
    have hsub : Sub (.ip 3 (s.fParts.map DPart.c) k 0) (.ip 3 [s.fParts[k].c] 0 0) := Sub.ip (map_get k3) rfl
    have hsp := (l08SamePart (partS s.fJob k) s.fParts[k]).sub (.cons (.refl _) (.cons hsub .nil))
    simp only [DJob.c_eq, DPart.c_eq] at hp hsp
    cases hkn : s.fKnown[k]
    all_goals
      rw [hkn] at g2 nx
      simp (maxSteps := 1000000) -dsimp -implicitDefEqProofs only [go_sem, ↓reduceIte, keep25, ib25, mk25, Tryz.f25, g2, g3, DPart.c_eq]
      refine fun _ => ⟨fun hq => ⟨hlt, ?_⟩, fun hq => absurd hlt hq⟩
    · exact ⟨k + 1, by rw [IntWalk.i64_in _ (by omega)]; rfl, ⟨by omega, nx (fun q => by cases q)⟩, by omega⟩
    · first | refine CallSF.mk ((hp).sub (by repeat' (first | exact SubL.nil | refine SubL.cons ?_ ?_ | exact Sub.refl _ | (rw [DExpr.c_eq]; exact Sub.refl _) | exact Sub.ipAt rfl rfl rfl | exact Sub.ip (map_get (by omega)) (by simp) | exact Sub.ipAt (map_get (by omega)) rfl rfl | exact Sub.ip (by simp [*]) (by simp) | exact Sub.ipAt (by simp [*]) (by rfl) (by rfl)))) ?_ | refine HFnF.mk ((hp).sub (by repeat' (first | exact SubL.nil | refine SubL.cons ?_ ?_ | exact Sub.refl _ | (rw [DExpr.c_eq]; exact Sub.refl _) | exact Sub.ipAt rfl rfl rfl | exact Sub.ip (map_get (by omega)) (by simp) | exact Sub.ipAt (map_get (by omega)) rfl rfl | exact Sub.ip (by simp [*]) (by simp) | exact Sub.ipAt (by simp [*]) (by rfl) (by rfl)))) ?_
      simp (maxSteps := 1000000) -dsimp -implicitDefEqProofs only [go_sem, ↓reduceIte, keep25, ib25, mk25, Tryz.f25, g2, g3, DPart.c_eq]
      intro n hn
      refine ⟨k3, ?_⟩
      rw [upd_upd]
      refine HFnF.give0 (es := [[I (partS s.fJob k).fCode, I (partS s.fJob k).fValue, sls 1 (fun n => [I n]) (partS s.fJob k).fGrad]]) hsp (by simp [sealOKL, sealOK]) ?_ ?_
      · simp [sealL, HVal.sealUp]
      simp (maxSteps := 1000000) -dsimp -implicitDefEqProofs only [go_sem, ↓reduceIte, keep25, ib25, mk25, Tryz.f25]
      refine ⟨fun hq => ⟨(decide_eq_false fun z => hq (z.2 k _ g2 g3).symm).symm, Heap.le_upd hn (Heap.le_refl _)⟩, fun hq => ?_⟩
      exact ⟨k + 1, by rw [IntWalk.i64_in _ (by omega)]; rfl, Heap.le_upd hn (Heap.le_refl _), ⟨by omega, nx (fun _ => hq.symm)⟩, by omega⟩
  · have hk' : k = s.fKnown.length := by omega
    subst hk'
    simp (maxSteps := 1000000) -dsimp -implicitDefEqProofs only [go_sem, ↓reduceIte, keep25, ib25, mk25, Tryz.f25, Int.lt_irrefl, Nat.lt_irrefl]
    exact fun _ => (decide_eq_true ⟨hy, fun j p a b => hall j p (List.getElem?_eq_some_iff.1 a).1 a b⟩).symm
open Go.Proofs
set_option linter.unusedVariables false
set_option linter.unusedSimpArgs false


def keep238 : List Nat := [0, 1, 4, 5, 11, 15, 25]
def ib238 : List Nat := []
def mk238 : Marks := fun _ => ([], .nil, [])
set_option maxRecDepth 100000 in
theorem sz_ExprS (l : List DExpr) (left : Int) (h0 : 0 ≤ left) (h1 : left ≤ 1048576) (hc : ∀ x ∈ l, ∀ left : Int, 0 ≤ left → left ≤ 1048576 → Fn0 Tryz.prog 276 [(.agg (DExpr.c x)), I left] (I (lft left ((DExpr.s x))))) : Fn0 Tryz.prog 238 [sls 5 DExpr.c l, I left] (I (lft left (szs DExpr.s l))) := by
  refine fn0F 27 keep238 ib238 mk238 mix Tryz.func238 rfl (by kernel_rfl) (by simp) fun h => ?_
  simp -dsimp -implicitDefEqProofs only [go_sem, Tryz.f238, ↓reduceIte, keep238, ib238, mk238]
  intro hl
  rw [IntWalk.i64_in _ (by omega)]
  refine ⟨fun hn => ?_, fun hn => ?_⟩
  · exact (lft_neg (by rw [szs_eq]; omega)).symm
  · refine loopF (keep := keep238) (ib := ib238) (mk := mk238) mix (by kernel_rfl) (fun k : Nat => [(0, sls 5 DExpr.c l), (1, I (left - l.length - (((l.take k).map DExpr.s).sum : Int))), (5, I k)]) (fun _ => h) (fun k => k ≤ l.length ∧ 0 ≤ left - l.length - (((l.take k).map DExpr.s).sum : Int)) (fun k => l.length - k) 0 (by simp [SatL, tget, Heap.le_refl]; omega) ?_
    intro k ⟨hk, hb⟩
    rcases Nat.lt_or_ge k l.length with hlt | hge
    · have ea : l[k]? = some l[k] := List.getElem?_eq_getElem hlt
      simp -dsimp -implicitDefEqProofs only [go_sem, ↓reduceIte, keep238, ib238, mk238, Tryz.f238, ea, DExpr.c_eq]
      refine fun _ => ⟨fun _ => ⟨hlt, ?_⟩, fun hn => absurd hlt hn⟩
      have hx := hc l[k] (List.getElem_mem hlt) (left - l.length - (((l.take k).map DExpr.s).sum : Int)) (by omega) (by omega)
      simp only [DExpr.c_eq] at hx
      refine HFnF.mk hx ?_
      have hs := sum_take_succ DExpr.s l k hlt
      have hs' := sum_take_le DExpr.s l (k + 1)
      try dsimp only at hs
      rcases lft_cases (left - l.length - (((l.take k).map DExpr.s).sum : Int)) ((DExpr.s l[k])) with ⟨e, hl1⟩ | ⟨e, hl1⟩
      · simp -dsimp -implicitDefEqProofs only [go_sem, ↓reduceIte, keep238, ib238, mk238, Tryz.f238, e]
        exact (lft_neg (by rw [szs_eq]; omega)).symm
      · have hn1 : (left - l.length - (((l.take k).map DExpr.s).sum : Int) - ((DExpr.s l[k]) : Int) < 0) = False := eq_false (by omega)
        simp -dsimp -implicitDefEqProofs only [go_sem, ↓reduceIte, keep238, ib238, mk238, Tryz.f238, e, hn1]
        refine ⟨k + 1, ⟨?_, ?_⟩, ⟨by omega, by rw [hs]; omega⟩, by omega⟩
        · rw [hs]; omega
        · rw [IntWalk.i64_in _ (by omega)]; rfl
    · have hk' : k = l.length := by omega
      subst hk'
      simp -dsimp -implicitDefEqProofs only [go_sem, ↓reduceIte, keep238, ib238, mk238, Tryz.f238, Nat.lt_irrefl]
      refine fun _ => ?_
      rw [List.take_length] at hb ⊢
      rw [lft_pos (by rw [szs_eq]; omega), szs_eq]
      omega

def keep276 : List Nat := [0, 1, 2, 4, 10]
def ib276 : List Nat := [2]
def mk276 : Marks := fun _ => ([], .nil, [])
set_option maxRecDepth 100000 in
theorem sz_Expr_step (x : DExpr) (left : Int) (h0 : 0 ≤ left) (h1 : left ≤ 1048576) (hk : ∀ left : Int, 0 ≤ left → left ≤ 1048576 → Fn0 Tryz.prog 238 [(sls 5 DExpr.c x.fKids), I left] (I (lft left (szs DExpr.s x.fKids)))) : Fn0 Tryz.prog 276 [.agg x.c, I left] (I (lft left x.s)) := by
  rw [DExpr.s_eq]
  simp only [DExpr.c_eq]
  refine fn0F 12 keep276 ib276 mk276 mix Tryz.func276 rfl (by kernel_rfl) (by simp) fun h => ?_
  simp -dsimp -implicitDefEqProofs only [go_sem, Tryz.f276, ↓reduceIte, keep276, ib276, mk276]
  refine HFnF.mk (hk left (by omega) (by omega)) ?_
  rcases lft_cases left (szs DExpr.s x.fKids) with ⟨e, hl1⟩ | ⟨e, hl1⟩
  · simp -dsimp -implicitDefEqProofs only [go_sem, ↓reduceIte, keep276, ib276, mk276, Tryz.f276, e]
  · have hn1 : (left - ((szs DExpr.s x.fKids) : Int) < 0) = False := eq_false (by omega)
    simp -dsimp -implicitDefEqProofs only [go_sem, ↓reduceIte, keep276, ib276, mk276, Tryz.f276, e, hn1]
  try (rw [lft_pos (by omega)]; omega)
theorem sz_Expr (x : DExpr) (left : Int) (h0 : 0 ≤ left) (h1 : left ≤ 1048576) : Fn0 Tryz.prog 276 [.agg x.c, I left] (I (lft left x.s)) :=
  sz_Expr_step x left h0 h1 fun left h0 h1 => sz_ExprS x.fKids left h0 h1 fun y hy left h0 h1 => sz_Expr y left h0 h1
termination_by SizeOf.sizeOf x
decreasing_by exact DExpr.kid_lt hy

def keep157 : List Nat := [0, 1, 2, 4, 11, 17]
def ib157 : List Nat := [2]
def mk157 : Marks := fun _ => ([], .nil, [])
set_option maxRecDepth 100000 in
theorem sz_Func (x : DFunc) (left : Int) (h0 : 0 ≤ left) (h1 : left ≤ 1048576) : Fn0 Tryz.prog 157 [.agg x.c, I left] (I (lft left x.s)) := by
  rw [DFunc.s_eq]
  simp only [DFunc.c_eq]
  refine fn0F 19 keep157 ib157 mk157 mix Tryz.func157 rfl (by kernel_rfl) (by simp) fun h => ?_
  simp -dsimp -implicitDefEqProofs only [go_sem, Tryz.f157, ↓reduceIte, keep157, ib157, mk157]
  refine fun hl0 => ?_
  rw [IntWalk.i64_in _ (by omega)]
  generalize hL0 : left - ((x.fName.length : Nat) : Int) = L0
  refine ⟨fun hn => (lft_neg (by omega)).symm, fun hn0 => ?_⟩
  refine HFnF.mk (sz_ExprS x.fOuts (L0) (by omega) (by omega) (fun x _ left h0 h1 => sz_Expr x left h0 h1)) ?_
  generalize hL1 : lft (L0) (szs DExpr.s x.fOuts) = L1
  simp -dsimp -implicitDefEqProofs only [go_sem, ↓reduceIte, keep157, ib157, mk157, Tryz.f157]
  have hs1 := lft_step hL1
  refine ⟨fun hn => (lft_neg (by have := hs1.1 hn; omega)).symm, fun hn1 => ?_⟩
  have hp1 := hs1.2 hn1
  clear hs1 hL1
  try (rw [lft_pos (by omega)]; omega)

def keep75 : List Nat := [0, 1, 4, 5, 11, 15, 25]
def ib75 : List Nat := []
def mk75 : Marks := fun _ => ([], .nil, [])
set_option maxRecDepth 100000 in
theorem sz_FuncS (l : List DFunc) (left : Int) (h0 : 0 ≤ left) (h1 : left ≤ 1048576) (hc : ∀ x ∈ l, ∀ left : Int, 0 ≤ left → left ≤ 1048576 → Fn0 Tryz.prog 157 [(.agg (DFunc.c x)), I left] (I (lft left ((DFunc.s x))))) : Fn0 Tryz.prog 75 [sls 3 DFunc.c l, I left] (I (lft left (szs DFunc.s l))) := by
  refine fn0F 27 keep75 ib75 mk75 mix Tryz.func75 rfl (by kernel_rfl) (by simp) fun h => ?_
  simp -dsimp -implicitDefEqProofs only [go_sem, Tryz.f75, ↓reduceIte, keep75, ib75, mk75]
  intro hl
  rw [IntWalk.i64_in _ (by omega)]
  refine ⟨fun hn => ?_, fun hn => ?_⟩
  · exact (lft_neg (by rw [szs_eq]; omega)).symm
  · refine loopF (keep := keep75) (ib := ib75) (mk := mk75) mix (by kernel_rfl) (fun k : Nat => [(0, sls 3 DFunc.c l), (1, I (left - l.length - (((l.take k).map DFunc.s).sum : Int))), (5, I k)]) (fun _ => h) (fun k => k ≤ l.length ∧ 0 ≤ left - l.length - (((l.take k).map DFunc.s).sum : Int)) (fun k => l.length - k) 0 (by simp [SatL, tget, Heap.le_refl]; omega) ?_
    intro k ⟨hk, hb⟩
    rcases Nat.lt_or_ge k l.length with hlt | hge
    · have ea : l[k]? = some l[k] := List.getElem?_eq_getElem hlt
      simp -dsimp -implicitDefEqProofs only [go_sem, ↓reduceIte, keep75, ib75, mk75, Tryz.f75, ea, DFunc.c_eq]
      refine fun _ => ⟨fun _ => ⟨hlt, ?_⟩, fun hn => absurd hlt hn⟩
      have hx := hc l[k] (List.getElem_mem hlt) (left - l.length - (((l.take k).map DFunc.s).sum : Int)) (by omega) (by omega)
      simp only [DFunc.c_eq] at hx
      refine HFnF.mk hx ?_
      have hs := sum_take_succ DFunc.s l k hlt
      have hs' := sum_take_le DFunc.s l (k + 1)
      try dsimp only at hs
      rcases lft_cases (left - l.length - (((l.take k).map DFunc.s).sum : Int)) ((DFunc.s l[k])) with ⟨e, hl1⟩ | ⟨e, hl1⟩
      · simp -dsimp -implicitDefEqProofs only [go_sem, ↓reduceIte, keep75, ib75, mk75, Tryz.f75, e]
        exact (lft_neg (by rw [szs_eq]; omega)).symm
      · have hn1 : (left - l.length - (((l.take k).map DFunc.s).sum : Int) - ((DFunc.s l[k]) : Int) < 0) = False := eq_false (by omega)
        simp -dsimp -implicitDefEqProofs only [go_sem, ↓reduceIte, keep75, ib75, mk75, Tryz.f75, e, hn1]
        refine ⟨k + 1, ⟨?_, ?_⟩, ⟨by omega, by rw [hs]; omega⟩, by omega⟩
        · rw [hs]; omega
        · rw [IntWalk.i64_in _ (by omega)]; rfl
    · have hk' : k = l.length := by omega
      subst hk'
      simp -dsimp -implicitDefEqProofs only [go_sem, ↓reduceIte, keep75, ib75, mk75, Tryz.f75, Nat.lt_irrefl]
      refine fun _ => ?_
      rw [List.take_length] at hb ⊢
      rw [lft_pos (by rw [szs_eq]; omega), szs_eq]
      omega

def keep32 : List Nat := [0, 1, 2, 4, 10]
def ib32 : List Nat := [2]
def mk32 : Marks := fun _ => ([], .nil, [])
set_option maxRecDepth 100000 in
theorem sz_Program (x : DProgram) (left : Int) (h0 : 0 ≤ left) (h1 : left ≤ 1048576) : Fn0 Tryz.prog 32 [.agg x.c, I left] (I (lft left x.s)) := by
  rw [DProgram.s_eq]
  simp only [DProgram.c_eq]
  refine fn0F 12 keep32 ib32 mk32 mix Tryz.func32 rfl (by kernel_rfl) (by simp) fun h => ?_
  simp -dsimp -implicitDefEqProofs only [go_sem, Tryz.f32, ↓reduceIte, keep32, ib32, mk32]
  refine HFnF.mk (sz_FuncS x.fFuncs left (by omega) (by omega) (fun x _ left h0 h1 => sz_Func x left h0 h1)) ?_
  rcases lft_cases left (szs DFunc.s x.fFuncs) with ⟨e, hl1⟩ | ⟨e, hl1⟩
  · simp -dsimp -implicitDefEqProofs only [go_sem, ↓reduceIte, keep32, ib32, mk32, Tryz.f32, e]
  · have hn1 : (left - ((szs DFunc.s x.fFuncs) : Int) < 0) = False := eq_false (by omega)
    simp -dsimp -implicitDefEqProofs only [go_sem, ↓reduceIte, keep32, ib32, mk32, Tryz.f32, e, hn1]
  try (rw [lft_pos (by omega)]; omega)

def keep52 : List Nat := [0, 1, 4, 10]
def ib52 : List Nat := []
def mk52 : Marks := fun _ => ([], .nil, [])
set_option maxRecDepth 100000 in
theorem sz_Int64S (sz : Nat) (es : List (List HVal)) (tg : Bool) (left : Int) (h0 : 0 ≤ left) (h1 : left ≤ 1048576) : Fn0 Tryz.prog 52 [.sl sz es tg, I left] (I (lft left es.length)) := by
  refine fn0F 12 keep52 ib52 mk52 mix Tryz.func52 rfl (by kernel_rfl) (by simp) fun h => ?_
  simp -dsimp -implicitDefEqProofs only [go_sem, Tryz.f52, ↓reduceIte, keep52, ib52, mk52]
  intro hl
  rw [IntWalk.i64_in _ (by omega)]
  refine ⟨fun hn => ?_, fun hn => ?_⟩
  · exact (lft_neg hn).symm
  · exact (lft_pos (by omega)).symm

def keep48 : List Nat := [0, 1, 4, 5, 11, 15, 25]
def ib48 : List Nat := []
def mk48 : Marks := fun _ => ([], .nil, [])
set_option maxRecDepth 100000 in
theorem sz_Int64SS (l : List (List Int)) (left : Int) (h0 : 0 ≤ left) (h1 : left ≤ 1048576) (hc : ∀ x ∈ l, ∀ left : Int, 0 ≤ left → left ≤ 1048576 → Fn0 Tryz.prog 52 [(sls 1 (fun n => [I n]) x), I left] (I (lft left (x.length)))) : Fn0 Tryz.prog 48 [sls 1 (fun x => [sls 1 (fun n => [I n]) x]) l, I left] (I (lft left (szs (fun x : List Int => x.length) l))) := by
  refine fn0F 27 keep48 ib48 mk48 mix Tryz.func48 rfl (by kernel_rfl) (by simp) fun h => ?_
  simp -dsimp -implicitDefEqProofs only [go_sem, Tryz.f48, ↓reduceIte, keep48, ib48, mk48]
  intro hl
  rw [IntWalk.i64_in _ (by omega)]
  refine ⟨fun hn => ?_, fun hn => ?_⟩
  · exact (lft_neg (by rw [szs_eq]; omega)).symm
  · refine loopF (keep := keep48) (ib := ib48) (mk := mk48) mix (by kernel_rfl) (fun k : Nat => [(0, sls 1 (fun x => [sls 1 (fun n => [I n]) x]) l), (1, I (left - l.length - (((l.take k).map (fun x : List Int => x.length)).sum : Int))), (5, I k)]) (fun _ => h) (fun k => k ≤ l.length ∧ 0 ≤ left - l.length - (((l.take k).map (fun x : List Int => x.length)).sum : Int)) (fun k => l.length - k) 0 (by simp [SatL, tget, Heap.le_refl]; omega) ?_
    intro k ⟨hk, hb⟩
    rcases Nat.lt_or_ge k l.length with hlt | hge
    · have ea : l[k]? = some l[k] := List.getElem?_eq_getElem hlt
      simp -dsimp -implicitDefEqProofs only [go_sem, ↓reduceIte, keep48, ib48, mk48, Tryz.f48, ea]
      refine fun _ => ⟨fun _ => ⟨hlt, ?_⟩, fun hn => absurd hlt hn⟩
      have hx := hc l[k] (List.getElem_mem hlt) (left - l.length - (((l.take k).map (fun x : List Int => x.length)).sum : Int)) (by omega) (by omega)
      refine HFnF.mk hx ?_
      have hs := sum_take_succ (fun x : List Int => x.length) l k hlt
      have hs' := sum_take_le (fun x : List Int => x.length) l (k + 1)
      try dsimp only at hs
      rcases lft_cases (left - l.length - (((l.take k).map (fun x : List Int => x.length)).sum : Int)) (l[k].length) with ⟨e, hl1⟩ | ⟨e, hl1⟩
      · simp -dsimp -implicitDefEqProofs only [go_sem, ↓reduceIte, keep48, ib48, mk48, Tryz.f48, e]
        exact (lft_neg (by rw [szs_eq]; omega)).symm
      · have hn1 : (left - l.length - (((l.take k).map (fun x : List Int => x.length)).sum : Int) - (l[k].length : Int) < 0) = False := eq_false (by omega)
        simp -dsimp -implicitDefEqProofs only [go_sem, ↓reduceIte, keep48, ib48, mk48, Tryz.f48, e, hn1]
        refine ⟨k + 1, ⟨?_, ?_⟩, ⟨by omega, by rw [hs]; omega⟩, by omega⟩
        · rw [hs]; omega
        · rw [IntWalk.i64_in _ (by omega)]; rfl
    · have hk' : k = l.length := by omega
      subst hk'
      simp -dsimp -implicitDefEqProofs only [go_sem, ↓reduceIte, keep48, ib48, mk48, Tryz.f48, Nat.lt_irrefl]
      refine fun _ => ?_
      rw [List.take_length] at hb ⊢
      rw [lft_pos (by rw [szs_eq]; omega), szs_eq]
      omega

def keep10 : List Nat := [0, 1, 2, 4, 10, 16, 22]
def ib10 : List Nat := [2]
def mk10 : Marks := fun _ => ([], .nil, [])
set_option maxRecDepth 100000 in
theorem sz_Job (x : DJob) (left : Int) (h0 : 0 ≤ left) (h1 : left ≤ 1048576) : Fn0 Tryz.prog 10 [.agg x.c, I left] (I (lft left x.s)) := by
  rw [DJob.s_eq]
  simp only [DJob.c_eq]
  refine fn0F 24 keep10 ib10 mk10 mix Tryz.func10 rfl (by kernel_rfl) (by simp) fun h => ?_
  simp -dsimp -implicitDefEqProofs only [go_sem, Tryz.f10, ↓reduceIte, keep10, ib10, mk10]
  refine HFnF.mk (sz_Program x.fProgram (left) (by omega) (by omega)) ?_
  generalize hL0 : lft left (DProgram.s x.fProgram) = L0
  simp -dsimp -implicitDefEqProofs only [go_sem, ↓reduceIte, keep10, ib10, mk10, Tryz.f10]
  have hs0 := lft_step hL0
  refine ⟨fun hn => (lft_neg (by have := hs0.1 hn; omega)).symm, fun hn0 => ?_⟩
  have hp0 := hs0.2 hn0
  clear hs0 hL0
  refine HFnF.mk (sz_Int64S _ _ _ (L0) (by omega) (by omega)) ?_
  rw [List.length_map]
  generalize hL1 : lft (L0) x.fPoint.length = L1
  simp -dsimp -implicitDefEqProofs only [go_sem, ↓reduceIte, keep10, ib10, mk10, Tryz.f10]
  have hs1 := lft_step hL1
  refine ⟨fun hn => (lft_neg (by have := hs1.1 hn; omega)).symm, fun hn1 => ?_⟩
  have hp1 := hs1.2 hn1
  clear hs1 hL1
  refine HFnF.mk (sz_Int64SS x.fTerms (L1) (by omega) (by omega) (fun x _ left h0 h1 => (by have hq := sz_Int64S 1 (x.map (fun n => [I n])) false left h0 h1; rw [List.length_map] at hq; exact hq))) ?_
  generalize hL2 : lft (L1) (szs (fun x : List Int => x.length) x.fTerms) = L2
  simp -dsimp -implicitDefEqProofs only [go_sem, ↓reduceIte, keep10, ib10, mk10, Tryz.f10]
  have hs2 := lft_step hL2
  refine ⟨fun hn => (lft_neg (by have := hs2.1 hn; omega)).symm, fun hn2 => ?_⟩
  have hp2 := hs2.2 hn2
  clear hs2 hL2
  try (rw [lft_pos (by omega)]; omega)


def keep61 : List Nat := [0, 1, 4, 10]
def ib61 : List Nat := []
def mk61 : Marks := fun _ => ([], .nil, [])
set_option maxRecDepth 100000 in
theorem sz_BoolS (sz : Nat) (es : List (List HVal)) (tg : Bool) (left : Int) (h0 : 0 ≤ left) (h1 : left ≤ 1048576) : Fn0 Tryz.prog 61 [.sl sz es tg, I left] (I (lft left es.length)) := by
  refine fn0F 12 keep61 ib61 mk61 mix Tryz.func61 rfl (by kernel_rfl) (by simp) fun h => ?_
  simp -dsimp -implicitDefEqProofs only [go_sem, Tryz.f61, ↓reduceIte, keep61, ib61, mk61]
  intro hl
  rw [IntWalk.i64_in _ (by omega)]
  refine ⟨fun hn => ?_, fun hn => ?_⟩
  · exact (lft_neg hn).symm
  · exact (lft_pos (by omega)).symm

def keep145 : List Nat := [0, 1, 2, 4, 10]
def ib145 : List Nat := [2]
def mk145 : Marks := fun _ => ([], .nil, [])
set_option maxRecDepth 100000 in
theorem sz_Part (x : DPart) (left : Int) (h0 : 0 ≤ left) (h1 : left ≤ 1048576) : Fn0 Tryz.prog 145 [.agg x.c, I left] (I (lft left x.s)) := by
  rw [DPart.s_eq]
  simp only [DPart.c_eq]
  refine fn0F 12 keep145 ib145 mk145 mix Tryz.func145 rfl (by kernel_rfl) (by simp) fun h => ?_
  simp -dsimp -implicitDefEqProofs only [go_sem, Tryz.f145, ↓reduceIte, keep145, ib145, mk145]
  refine HFnF.mk (sz_Int64S _ _ _ left (by omega) (by omega)) ?_
  rw [List.length_map]
  rcases lft_cases left x.fGrad.length with ⟨e, hl1⟩ | ⟨e, hl1⟩
  · simp -dsimp -implicitDefEqProofs only [go_sem, ↓reduceIte, keep145, ib145, mk145, Tryz.f145, e]
  · have hn1 : (left - (x.fGrad.length : Int) < 0) = False := eq_false (by omega)
    simp -dsimp -implicitDefEqProofs only [go_sem, ↓reduceIte, keep145, ib145, mk145, Tryz.f145, e, hn1]
  try (rw [lft_pos (by omega)]; omega)

def keep62 : List Nat := [0, 1, 4, 5, 11, 15, 25]
def ib62 : List Nat := []
def mk62 : Marks := fun _ => ([], .nil, [])
set_option maxRecDepth 100000 in
theorem sz_PartS (l : List DPart) (left : Int) (h0 : 0 ≤ left) (h1 : left ≤ 1048576) (hc : ∀ x ∈ l, ∀ left : Int, 0 ≤ left → left ≤ 1048576 → Fn0 Tryz.prog 145 [(.agg (DPart.c x)), I left] (I (lft left ((DPart.s x))))) : Fn0 Tryz.prog 62 [sls 3 DPart.c l, I left] (I (lft left (szs DPart.s l))) := by
  refine fn0F 27 keep62 ib62 mk62 mix Tryz.func62 rfl (by kernel_rfl) (by simp) fun h => ?_
  simp -dsimp -implicitDefEqProofs only [go_sem, Tryz.f62, ↓reduceIte, keep62, ib62, mk62]
  intro hl
  rw [IntWalk.i64_in _ (by omega)]
  refine ⟨fun hn => ?_, fun hn => ?_⟩
  · exact (lft_neg (by rw [szs_eq]; omega)).symm
  · refine loopF (keep := keep62) (ib := ib62) (mk := mk62) mix (by kernel_rfl) (fun k : Nat => [(0, sls 3 DPart.c l), (1, I (left - l.length - (((l.take k).map DPart.s).sum : Int))), (5, I k)]) (fun _ => h) (fun k => k ≤ l.length ∧ 0 ≤ left - l.length - (((l.take k).map DPart.s).sum : Int)) (fun k => l.length - k) 0 (by simp [SatL, tget, Heap.le_refl]; omega) ?_
    intro k ⟨hk, hb⟩
    rcases Nat.lt_or_ge k l.length with hlt | hge
    · have ea : l[k]? = some l[k] := List.getElem?_eq_getElem hlt
      simp -dsimp -implicitDefEqProofs only [go_sem, ↓reduceIte, keep62, ib62, mk62, Tryz.f62, ea, DPart.c_eq]
      refine fun _ => ⟨fun _ => ⟨hlt, ?_⟩, fun hn => absurd hlt hn⟩
      have hx := hc l[k] (List.getElem_mem hlt) (left - l.length - (((l.take k).map DPart.s).sum : Int)) (by omega) (by omega)
      simp only [DPart.c_eq] at hx
      refine HFnF.mk hx ?_
      have hs := sum_take_succ DPart.s l k hlt
      have hs' := sum_take_le DPart.s l (k + 1)
      try dsimp only at hs
      rcases lft_cases (left - l.length - (((l.take k).map DPart.s).sum : Int)) ((DPart.s l[k])) with ⟨e, hl1⟩ | ⟨e, hl1⟩
      · simp -dsimp -implicitDefEqProofs only [go_sem, ↓reduceIte, keep62, ib62, mk62, Tryz.f62, e]
        exact (lft_neg (by rw [szs_eq]; omega)).symm
      · have hn1 : (left - l.length - (((l.take k).map DPart.s).sum : Int) - ((DPart.s l[k]) : Int) < 0) = False := eq_false (by omega)
        simp -dsimp -implicitDefEqProofs only [go_sem, ↓reduceIte, keep62, ib62, mk62, Tryz.f62, e, hn1]
        refine ⟨k + 1, ⟨?_, ?_⟩, ⟨by omega, by rw [hs]; omega⟩, by omega⟩
        · rw [hs]; omega
        · rw [IntWalk.i64_in _ (by omega)]; rfl
    · have hk' : k = l.length := by omega
      subst hk'
      simp -dsimp -implicitDefEqProofs only [go_sem, ↓reduceIte, keep62, ib62, mk62, Tryz.f62, Nat.lt_irrefl]
      refine fun _ => ?_
      rw [List.take_length] at hb ⊢
      rw [lft_pos (by rw [szs_eq]; omega), szs_eq]
      omega

def keep24 : List Nat := [0, 1, 2, 4, 10, 16, 22, 28, 34]
def ib24 : List Nat := [2]
def mk24 : Marks := fun _ => ([], .nil, [])
set_option maxRecDepth 100000 in
theorem sz_Service (x : DService) (left : Int) (h0 : 0 ≤ left) (h1 : left ≤ 1048576) : Fn0 Tryz.prog 24 [.agg x.c, I left] (I (lft left x.s)) := by
  rw [DService.s_eq]
  simp only [DService.c_eq]
  refine fn0F 36 keep24 ib24 mk24 mix Tryz.func24 rfl (by kernel_rfl) (by simp) fun h => ?_
  simp -dsimp -implicitDefEqProofs only [go_sem, Tryz.f24, ↓reduceIte, keep24, ib24, mk24]
  refine HFnF.mk (sz_Job x.fJob (left) (by omega) (by omega)) ?_
  generalize hL0 : lft left (DJob.s x.fJob) = L0
  simp -dsimp -implicitDefEqProofs only [go_sem, ↓reduceIte, keep24, ib24, mk24, Tryz.f24]
  have hs0 := lft_step hL0
  refine ⟨fun hn => (lft_neg (by have := hs0.1 hn; omega)).symm, fun hn0 => ?_⟩
  have hp0 := hs0.2 hn0
  clear hs0 hL0
  refine HFnF.mk (sz_Int64S _ _ _ (L0) (by omega) (by omega)) ?_
  rw [List.length_map]
  generalize hL1 : lft (L0) x.fStamps.length = L1
  simp -dsimp -implicitDefEqProofs only [go_sem, ↓reduceIte, keep24, ib24, mk24, Tryz.f24]
  have hs1 := lft_step hL1
  refine ⟨fun hn => (lft_neg (by have := hs1.1 hn; omega)).symm, fun hn1 => ?_⟩
  have hp1 := hs1.2 hn1
  clear hs1 hL1
  refine HFnF.mk (sz_BoolS _ _ _ (L1) (by omega) (by omega)) ?_
  rw [List.length_map]
  generalize hL2 : lft (L1) x.fKnown.length = L2
  simp -dsimp -implicitDefEqProofs only [go_sem, ↓reduceIte, keep24, ib24, mk24, Tryz.f24]
  have hs2 := lft_step hL2
  refine ⟨fun hn => (lft_neg (by have := hs2.1 hn; omega)).symm, fun hn2 => ?_⟩
  have hp2 := hs2.2 hn2
  clear hs2 hL2
  refine HFnF.mk (sz_PartS x.fParts (L2) (by omega) (by omega) (fun x _ left h0 h1 => sz_Part x left h0 h1)) ?_
  generalize hL3 : lft (L2) (szs DPart.s x.fParts) = L3
  simp -dsimp -implicitDefEqProofs only [go_sem, ↓reduceIte, keep24, ib24, mk24, Tryz.f24]
  have hs3 := lft_step hL3
  refine ⟨fun hn => (lft_neg (by have := hs3.1 hn; omega)).symm, fun hn3 => ?_⟩
  have hp3 := hs3.2 hn3
  clear hs3 hL3
  refine HFnF.mk (sz_Int64S _ _ _ (L3) (by omega) (by omega)) ?_
  rw [List.length_map]
  generalize hL4 : lft (L3) x.fOwners.length = L4
  simp -dsimp -implicitDefEqProofs only [go_sem, ↓reduceIte, keep24, ib24, mk24, Tryz.f24]
  have hs4 := lft_step hL4
  refine ⟨fun hn => (lft_neg (by have := hs4.1 hn; omega)).symm, fun hn4 => ?_⟩
  have hp4 := hs4.2 hn4
  clear hs4 hL4
  try (rw [lft_pos (by omega)]; omega)

end Go.Hl

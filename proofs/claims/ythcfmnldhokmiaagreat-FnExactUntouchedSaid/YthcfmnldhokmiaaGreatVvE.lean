/-
  Contracts of functions and laws of the layer over the walk.
-/
import Derived.Test.YthcfmnldhokmiaaGreatVvD
import Derived.Test.YthcfmnldhokmiaaGreatVvB
import Derived.Test.YthcfmnldhokmiaaGreatHlD
namespace Go.Hl
open Go.Proofs
set_option linter.unusedVariables false
set_option linter.unusedSimpArgs false
def evRes (X : Out (List (List Int))) : List (List Int) × Int × Int := match X with
  | .ok (vs, t) => (vs, t, 0)
  | .error c => ([], 0, c)
theorem evRes_of {X : Out (List (List Int))} {l : List (List Int)} {t : Nat} {c : Int} (h : outR X l t c) : evRes X = if c = 0 then (l, (t : Int), 0) else ([], 0, c) := by
  cases X with
  | ok p =>
    obtain ⟨w, u⟩ := p
    obtain ⟨rfl, rfl, rfl⟩ := h
    rfl
  | error d =>
    obtain ⟨rfl, h⟩ := h
    rw [if_neg h]; rfl
theorem cloneS (l : List Int) (hl : l.length ≤ 1048576) : Fn0 Tryz.prog 142 [ints l] (ints l) := seal1 (cloneI l hl)
def keep138 : List Nat := [0, 1, 2, 3, 4, 8, 9, 10, 11, 12, 13, 15, 33, 39, 40, 41, 42]
def ib138 : List Nat := [4, 38, 48]
def mk138 : Marks := fun id => match id with | 4 => ([3], (.op 0 (.op 1 (.op 2 (.op 3 (.op 4 (.op 5 (.op 6 .nil))))))), []) | 11 => ([4], (.op 0 (.op 1 (.op 2 (.op 3 (.op 4 (.op 5 (.op 6 (.op 7 .nil)))))))), []) | _ => ([], .nil, [])
set_option maxRecDepth 100000 in
theorem evaluated {p : DProgram} (hp : p.ok) {sz : Nat} (hsz : 1 ≤ sz ∧ sz ≤ 1048576) (f : Int) (hf : 0 ≤ f ∧ f < p.fFuncs.length) (args : List (List Int)) (ha : ∀ s ∈ args, serOK sz s) (hl : ∀ F, p.fFuncs[f.toNat]? = some F → (args.length : Int) = F.fParams) :
    Fn0 Tryz.prog 138 [.agg p.c, I f, intss args, I ((sz : Int) - 1)] (.tup [intss (evRes (evF p sz f args)).1, I (evRes (evF p sz f args)).2.1, I (evRes (evF p sz f args)).2.2]) := by
  obtain ⟨F, ef, hF1, hF2, hF3, hF4⟩ := func_ok hp hf
  have hlF := hl F ef
  rw [DProgram.c_eq]
  refine fn0S 56 keep138 ib138 mk138 mix Tryz.func138 rfl (by kernel_rfl) (by simp) fun h => ?_
  simp (maxSteps := 1000000) -dsimp -implicitDefEqProofs only [go_sem, ↓reduceIte, keep138, ib138, mk138, Tryz.f138, ef, DFunc.c_eq]
  intro nb zb
  refine ⟨hf.1, by omega, ?_⟩
  refine HFnF.mkH (all_of (value hp hsz 3001) (upd h nb (evBox p sz 0 0)) nb 0 0 F.fOuts args f (upd_same _ _ _) (by omega) (by omega) (by omega) (by rw [hlF]; exact hF4) hf.1 (by omega) ha (by omega)) ?_
  rintro r h' ⟨vs, t, c, rfl, rfl, hvl, hvs, a1, a2, a3⟩
  rw [runE_zero, ← hF3] at a3
  rw [evRes_of (show outR (evF p sz f args) vs t c from a3)]
  rw [upd_upd]
  have hBn : (upd h nb (evBox p sz t c)) nb = some (.row 4 [[.v (sls 3 DFunc.c p.fFuncs), .v (I ((sz : Int) - 1)), .v (I t), .v (I c)]]) := upd_same _ _ _
  have hBl : h.le (upd h nb (evBox p sz t c)) := Heap.le_upd zb (Heap.le_refl _)
  generalize upd h nb (evBox p sz t c) = hB at hBn hBl ⊢
  simp (maxSteps := 1000000) -dsimp -implicitDefEqProofs only [go_sem, ↓reduceIte, keep138, ib138, mk138, Tryz.f138, hBn]
  refine ⟨fun hc => ?_, fun hc => ?_⟩
  · have hc' : ¬ c = 0 := by simpa using hc
    rw [if_neg hc']
    exact Shift.of (Sub.tup (.cons (Sub.nil 1 false) (.cons (.refl _) (.cons (.refl _) .nil)))) hBl
  · have hc' : c = 0 := by simpa using hc
    subst hc'
    rw [if_pos rfl]
    refine ⟨Nat.zero_lt_one, fun _ => ?_⟩
    refine loopF (keep := keep138) (ib := ib138) (mk := mk138) mix (by kernel_rfl) (fun x : Nat × Option Nat => [(11, .op nb 4 0 0), (13, oval 1 (vs.take x.1).length x.2), (39, intss vs), (40, I vs.length), (41, I x.1)]) (fun x => oheap hB (.row 1 (((vs.take x.1).map fun s => [ints s]).map (List.map .v))) x.2) (fun x => x.1 ≤ vs.length ∧ oside hB (vs.take x.1) x.2) (fun x => vs.length - x.1) (0, none) ⟨by simp [SatL, tget, oval], by simp only [oheap_none]; exact Heap.le_refl _, Nat.zero_le _, by simp [oside]⟩ ?_
    rintro ⟨k, o⟩ ⟨hk, hos⟩
    simp only at hk hos ⊢
    rcases Nat.lt_or_ge k vs.length with hlt | hge
    · have ea : vs[k]? = some vs[k] := List.getElem?_eq_getElem hlt
      have hy : vs.take (k + 1) = vs.take k ++ [vs[k]] := List.take_succ_eq_append_getElem hlt
      have hlk : (vs.take k).length = k := by rw [List.length_take]; omega
      have hsk := hvs _ (List.getElem_mem hlt)
      cases o with
      | none =>
        rw [oside_none] at hos
        rw [hos] at hy ⊢
        simp (maxSteps := 1000000) -dsimp -implicitDefEqProofs only [go_sem, ↓reduceIte, keep138, ib138, mk138, Tryz.f138, oval_none, oheap_none, hlt, ea]
        first | refine HFnF.mk (cloneS vs[k] (by rw [hsk.1]; omega)) ?_ | refine CallSF.mk (cloneS vs[k] (by rw [hsk.1]; omega)) ?_ | refine HFnF.mkAt (cloneS vs[k] (by rw [hsk.1]; omega)) ?_ | refine CallSF.mk (FnAt.fn0 (cloneS vs[k] (by rw [hsk.1]; omega))) ?_
        simp (maxSteps := 1000000) -dsimp -implicitDefEqProofs only [go_sem, ↓reduceIte, keep138, ib138, mk138, Tryz.f138]
        repeat' (with_reducible first | intro _ | refine And.intro ?_ ?_)
        all_goals try (first | omega | decide)
        rename_i b hb
        refine ⟨(k + 1, some b), ?_⟩
        simp only [hy]
        refine ⟨⟨rfl, ?_⟩, Heap.le_refl _, ⟨by omega, hb⟩, by omega⟩
        rw [IntWalk.i64_in _ (by omega)]; rfl
      | some n =>
        rw [oside_some] at hos
        simp (maxSteps := 1000000) -dsimp -implicitDefEqProofs only [go_sem, ↓reduceIte, keep138, ib138, mk138, Tryz.f138, oval_some, oheap_some, hlt, ea]
        first | refine HFnF.mk (cloneS vs[k] (by rw [hsk.1]; omega)) ?_ | refine CallSF.mk (cloneS vs[k] (by rw [hsk.1]; omega)) ?_ | refine HFnF.mkAt (cloneS vs[k] (by rw [hsk.1]; omega)) ?_ | refine CallSF.mk (FnAt.fn0 (cloneS vs[k] (by rw [hsk.1]; omega))) ?_
        simp (maxSteps := 1000000) -dsimp -implicitDefEqProofs only [go_sem, ↓reduceIte, keep138, ib138, mk138, Tryz.f138]
        repeat' (with_reducible first | intro _ | refine And.intro ?_ ?_)
        all_goals try (first | omega | decide | exact Nat.le_refl _)
        rename_i b hb
        refine ⟨(k + 1, some b), ?_⟩
        simp only [hy, oheap_some, oval_some, oside_some]
        refine ⟨⟨by rw [List.length_append]; rfl, ?_⟩, ?_, ⟨by omega, hb.2⟩, by omega⟩
        · rw [IntWalk.i64_in _ (by omega)]; rfl
        · rw [← grow_row]; exact le_app hos
    · have hk' : k = vs.length := by omega
      subst hk'
      rw [List.take_length] at hos ⊢
      cases o with
      | none =>
        rw [oside_none] at hos
        subst hos
        simp (maxSteps := 1000000) -dsimp -implicitDefEqProofs only [go_sem, ↓reduceIte, keep138, ib138, mk138, Tryz.f138, oval_none, oheap_none, Nat.lt_irrefl, hBn]
        exact Shift.of (Sub.tup (.cons (Sub.loose _ _ _) (.cons (.refl _) (.cons (.refl _) .nil)))) hBl
      | some n =>
        rw [oside_some] at hos
        have d_n_nb : ¬ n = nb := fun e => by rw [e, hBn] at hos; cases hos
        have d_nb_n : ¬ nb = n := Ne.symm d_n_nb
        have e_n_nb : (n = nb) = False := eq_false d_n_nb
        have e_nb_n : (nb = n) = False := eq_false d_nb_n
        simp (maxSteps := 1000000) -dsimp -implicitDefEqProofs only [go_sem, ↓reduceIte, keep138, ib138, mk138, Tryz.f138, oval_some, oheap_some, Nat.lt_irrefl, upd_ne, e_n_nb, e_nb_n, hBn]
        refine Shift.trans (shift_seal (vs.map fun s => [ints s]) hos (Heap.le_refl _) (by simp [sealOK, sealOKL]) ?_) (shift_le hBl)
        simp [HVal.sealUp, sealL, List.take_of_length_le]
theorem w2 : IntKind.i64.wrap (1 + 1) = 2 := by decide
theorem n0 : Int.toNat 0 = 0 := rfl
theorem n1 : Int.toNat 1 = 1 := rfl
theorem n2 : Int.toNat 2 = 2 := rfl
open Go.Proofs
set_option linter.unusedVariables false
set_option linter.unusedSimpArgs false
open Go.Proofs
set_option linter.unusedVariables false
set_option linter.unusedSimpArgs false
/-- slices.Grow of nil: a new row without elements. -/
theorem growNil (n : Nat) (hn : n ≤ 1048576) (h : Heap) : HFn Tryz.prog 273 [.nilsl, I n] h fun r h' => (n = 0 ∧ r = .nilsl ∧ h' = h) ∨ (0 < n ∧ ∃ m, h m = none ∧ r = .os m 1 0 0 ∧ h' = upd h m (.row 1 [])) := by
  refine ⟨by kernel_rfl, fun E w vs R hL => ?_⟩
  have hvs : vs = [.slice none 0 0, .int .i64 n] := by
    match vs, hL with
    | [a, b], hL => rw [show a = .slice none 0 0 by cases hL.1; rfl, rep_int hL.2.1]
  subst hvs
  rcases Nat.eq_zero_or_pos n with rfl | h0
  · refine (growNil_zero w).mono ?_
    rintro e w' ⟨rfl, rfl⟩
    exact ⟨.nilsl, h, E, .inl ⟨rfl, rfl, rfl⟩, .refl _ _ _, R, .nilsl⟩
  · obtain ⟨i, u, hi, hu, hsz, hby, hd, hag, hz⟩ := tyR_some ty2
    cases hiz : i.zero with
    | none => rw [hiz] at hz; simp at hz
    | some z =>
    have hb8 : i.bytes = 8 := hby.symm
    have hs1 : i.size = 1 := hsz.symm
    have hrz := fun ty => Lib.run_append_nil_zeros (P := Tryz.prog) w 25 3 ty 2 i z .i64 .i64 (by kernel_rfl) (by kernel_rfl) hi hiz n h0 (by omega) (by omega) (by rw [hb8]; omega)
    have hge := grownCap_ge w n 0 2
    have hmx := grownCap_le_maxLen w n 0 2 (by unfold maxLen; omega)
    have hzs : z.cells.size = 1 := by
      rw [hiz] at hz
      have := congrArg List.length hz
      simp at this
      exact this.symm
    have hcz : (Builtin.zeroCells z.cells n ++ Builtin.zeroCells z.cells (grownCap w n 0 2 - n)).size = grownCap w n 0 2 := by
      rw [Array.size_append, zeros_size, zeros_size, hzs]; omega
    refine (growNil_walk n _ w _ h0 hn hge hmx hrz).mono ?_
    rintro e w' ⟨rfl, rfl⟩
    generalize Builtin.zeroCells z.cells n ++ Builtin.zeroCells z.cells (grownCap w n 0 2 - n) = cs at hcz ⊢
    obtain ⟨m, hm⟩ := R.fresh
    have hal := R.alloc_row hm 1 [] (by simp) cs 2 w.drew.drawn (fun _ _ => undef) (by simp) (by simp [at2])
    have hev := Ev.alloc R hm (.cells cs 2 (0, 0)) (.row 1 []) w.drew.drawn
    refine ⟨.os m 1 0 0, upd h m (.row 1 []), E.add m w.heap.size, .inr ⟨h0, m, R.none hm, rfl, rfl⟩, hev, hal, ?_⟩
    refine Rep.os m 1 0 0 w.heap.size 0 (grownCap w n 0 2) 2 cs.size (by simp [Env.add]) (by simp [Env.add]) (Nat.zero_le _) hmx ?_ (by rw [hcz]; omega)
    exact shape_of_heap (f := (0, 0)) (wal_new w (.cells cs 2 (0, 0)) w.drew.drawn)
def catK (a b : List Int) : Nat → List Int
  | 0 => []
  | 1 => a
  | _ => a ++ b
def keep231 : List Nat := [0, 2, 3, 5, 6, 8, 9, 10, 11, 12, 20, 25, 26, 27, 28]
def ib231 : List Nat := []
def mk231 : Marks := fun _ => ([], .nil, [])
set_option maxRecDepth 100000 in
theorem concat2 (a b : List Int) (ha : a.length ≤ 1000) (hb : b.length ≤ 1000) : Fn0 Tryz.prog 231 [.sl 1 [[ints a], [ints b]] true] (ints (a ++ b)) := by
  refine fn0S 36 keep231 ib231 mk231 mix Tryz.func231 rfl (by kernel_rfl) (by simp) fun h => ?_
  simp (maxSteps := 1000000) -dsimp -implicitDefEqProofs only [go_sem, ↓reduceIte, keep231, ib231, mk231, Tryz.f231]
  refine loopSame (keep := keep231) (ib := ib231) (mk := mk231) mix (by kernel_rfl) (fun k : Nat => [(0, .sl 1 [[ints a], [ints b]] true), (3, I (catK a b k).length), (9, .sl 1 [[ints a], [ints b]] true), (10, I 2), (11, I k)]) (fun k => k ≤ 2) (fun k => 2 - k) 0 ⟨by simp [SatL, tget, catK], by omega⟩ ?_
  intro k hk
  have hk3 : k = 0 ∨ k = 1 ∨ k = 2 := by omega
  rcases hk3 with rfl | rfl | rfl
  · simp (maxSteps := 1000000) -dsimp -implicitDefEqProofs only [go_sem, ↓reduceIte, keep231, ib231, mk231, Tryz.f231]
    have e0 : (catK a b 0).length = 0 := rfl
    have e1 : catK a b 1 = a := rfl
    refine ⟨fun _ => ⟨by decide, fun _ => ?_⟩, fun q => absurd (by decide) q⟩
    rw [IntWalk.i64_in _ (by omega)]
    exact ⟨fun q => absurd q (by omega), fun _ => ⟨1, ⟨by rw [e1]; omega, by decide⟩, by omega, by omega⟩⟩
  · simp (maxSteps := 1000000) -dsimp -implicitDefEqProofs only [go_sem, ↓reduceIte, keep231, ib231, mk231, Tryz.f231]
    have e1 : catK a b 1 = a := rfl
    have e2 : (catK a b 2).length = a.length + b.length := by simp [catK]
    refine ⟨fun _ => ⟨by decide, fun _ => ?_⟩, fun q => absurd (by decide) q⟩
    rw [e1, IntWalk.i64_in _ (by omega)]
    exact ⟨fun q => absurd q (by omega), fun _ => ⟨2, ⟨by rw [e2]; omega, by decide⟩, by omega, by omega⟩⟩
  · simp (maxSteps := 1000000) -dsimp -implicitDefEqProofs only [go_sem, ↓reduceIte, keep231, ib231, mk231, Tryz.f231]
    have e2 : (catK a b 2).length = a.length + b.length := by simp [catK]
    refine ⟨fun q => absurd q (by decide), fun _ => ?_⟩
    refine HFnF.mkH (growNil _ (by omega) h) ?_
    rintro r h' (⟨hz, rfl, rfl⟩ | ⟨hp, m, hm, rfl, rfl⟩)
    · have ha0 : a = [] := List.length_eq_zero_iff.1 (by omega)
      have hb0 : b = [] := List.length_eq_zero_iff.1 (by omega)
      subst ha0
      subst hb0
      simp (maxSteps := 1000000) -dsimp -implicitDefEqProofs only [go_sem, ↓reduceIte, keep231, ib231, mk231, Tryz.f231]
      refine loopSame (keep := keep231) (ib := ib231) (mk := mk231) mix (by kernel_rfl) (fun k : Nat => [(6, .nilsl), (25, .sl 1 [[ints []], [ints []]] true), (26, I 2), (27, I k)]) (fun k => k ≤ 2) (fun k => 2 - k) 0 ⟨by simp [SatL, tget], by omega⟩ ?_
      intro k hk
      have hk3 : k = 0 ∨ k = 1 ∨ k = 2 := by omega
      rcases hk3 with rfl | rfl | rfl
      · simp (maxSteps := 1000000) -dsimp -implicitDefEqProofs only [go_sem, ↓reduceIte, keep231, ib231, mk231, Tryz.f231]
        exact ⟨fun _ => ⟨by decide, Nat.zero_lt_one, 1, by decide, by omega, by omega⟩, fun q => absurd (by decide) q⟩
      · simp (maxSteps := 1000000) -dsimp -implicitDefEqProofs only [go_sem, ↓reduceIte, keep231, ib231, mk231, Tryz.f231]
        exact ⟨fun _ => ⟨by decide, Nat.zero_lt_one, 2, by decide, by omega, by omega⟩, fun q => absurd (by decide) q⟩
      · simp (maxSteps := 1000000) -dsimp -implicitDefEqProofs only [go_sem, ↓reduceIte, keep231, ib231, mk231, Tryz.f231]
        exact ⟨fun q => absurd q (by decide), fun _ => Shift.of (Sub.nil 1 false) (Heap.le_refl _)⟩
    · simp (maxSteps := 1000000) -dsimp -implicitDefEqProofs only [go_sem, ↓reduceIte, keep231, ib231, mk231, Tryz.f231]
      refine loopF (keep := keep231) (ib := ib231) (mk := mk231) mix (by kernel_rfl) (fun x : Nat × Nat => [(6, .os x.2 1 0 (catK a b x.1).length), (25, .sl 1 [[ints a], [ints b]] true), (26, I 2), (27, I x.1)]) (fun x => upd h x.2 (.row 1 (((catK a b x.1).map fun n => [I n]).map (List.map .v)))) (fun x => x.1 ≤ 2 ∧ h x.2 = none) (fun x => 2 - x.1) (0, m) ⟨by simp [SatL, tget, catK], Heap.le_refl _, by simp only; omega, hm⟩ ?_
      rintro ⟨k, m⟩ ⟨hk, hm⟩
      simp only at hk hm ⊢
      have hk3 : k = 0 ∨ k = 1 ∨ k = 2 := by omega
      rcases hk3 with rfl | rfl | rfl
      · simp (maxSteps := 1000000) -dsimp -implicitDefEqProofs only [go_sem, ↓reduceIte, keep231, ib231, mk231, Tryz.f231]
        have e0 : catK a b 0 = [] := rfl
        have e1 : catK a b 1 = a := rfl
        rw [e0, List.length_nil, Nat.zero_add]
        refine ⟨fun _ => ⟨by decide, Nat.zero_lt_one, Nat.le_refl _, by omega, by omega, fun c hc => ⟨(1, c), ⟨by rw [e1], by simp only; decide⟩, ?_, ⟨by simp only; omega, hc.2⟩, by simp only; omega⟩⟩, fun q => absurd (by decide) q⟩
        simp only [e1]
        exact le_app hm
      · simp (maxSteps := 1000000) -dsimp -implicitDefEqProofs only [go_sem, ↓reduceIte, keep231, ib231, mk231, Tryz.f231]
        have e1 : catK a b 1 = a := rfl
        have e2 : catK a b 2 = a ++ b := rfl
        rw [e1]
        refine ⟨fun _ => ⟨by decide, Nat.zero_lt_one, Nat.le_refl _, by omega, by omega, fun c hc => ⟨(2, c), ⟨by rw [e2, List.length_append], by simp only; decide⟩, ?_, ⟨by simp only; omega, hc.2⟩, by simp only; omega⟩⟩, fun q => absurd (by decide) q⟩
        simp only [e2]
        rw [List.take_of_length_le (by simp), List.map_append, List.map_append]
        exact le_app hm
      · simp (maxSteps := 1000000) -dsimp -implicitDefEqProofs only [go_sem, ↓reduceIte, keep231, ib231, mk231, Tryz.f231]
        have e2 : catK a b 2 = a ++ b := rfl
        rw [e2]
        exact ⟨fun q => absurd q (by decide), fun _ => shift_ints _ hm (Heap.le_refl _) rfl⟩
open Go.Proofs
set_option linter.unusedVariables false
set_option linter.unusedSimpArgs false
open Go.Proofs
set_option linter.unusedVariables false
set_option linter.unusedSimpArgs false
def workerOK (w : Int) : Prop := 0 ≤ w ∧ w ≤ 3
noncomputable instance (w : Int) : Decidable (workerOK w) := Classical.propDecidable _
open Go.Proofs
set_option linter.unusedVariables false
set_option linter.unusedSimpArgs false
def termOK (j : DJob) (k : Int) : Prop := 0 ≤ k ∧ k ≤ (j.fTerms.length : Int) - 1
noncomputable instance (j : DJob) (k : Int) : Decidable (termOK j k) := Classical.propDecidable _
def freeOK (s : DService) (k : Int) : Prop := s.fKnown[k.toNat]? = some false ∧ s.fOwners[k.toNat]? = some (-1)
noncomputable instance (s : DService) (k : Int) : Decidable (freeOK s k) := Classical.propDecidable _
def keep57 : List Nat := [0, 1, 2, 4]
def ib57 : List Nat := [2]
def mk57 : Marks := fun _ => ([], .nil, [])
set_option maxRecDepth 100000 in
theorem has (j : DJob) (k : Int) (hl : j.fTerms.length ≤ 1048576) : Fn0 Tryz.prog 57 [.agg j.c, I k] (.bool (decide (termOK j k))) := by
  simp only [DJob.c_eq]
  refine fn0F 11 keep57 ib57 mk57 mix Tryz.func57 rfl (by kernel_rfl) (by simp) fun h => ?_
  simp (maxSteps := 1000000) -dsimp -implicitDefEqProofs only [go_sem, ↓reduceIte, keep57, ib57, mk57, Tryz.f57]
  intro _
  rw [IntWalk.i64_in _ (by omega)]
  first | refine HFnF.mk (within k 0 ((j.fTerms.length : Int) - 1)) ?_ | refine CallSF.mk (within k 0 ((j.fTerms.length : Int) - 1)) ?_ | refine HFnF.mkAt (within k 0 ((j.fTerms.length : Int) - 1)) ?_ | refine CallSF.mk (FnAt.fn0 (within k 0 ((j.fTerms.length : Int) - 1))) ?_
  simp (maxSteps := 1000000) -dsimp -implicitDefEqProofs only [go_sem, ↓reduceIte, keep57, ib57, mk57, Tryz.f57]
  exact decide_eq_decide.2 Iff.rfl
def keep54 : List Nat := [0, 1, 4]
def ib54 : List Nat := []
def mk54 : Marks := fun _ => ([], .nil, [])
set_option maxRecDepth 100000 in
theorem l08Term (j : DJob) (k : Int) (hl : j.fTerms.length ≤ 1048576) : Fn0 Tryz.prog 54 [.ip 5 [j.c] 0 0, I k] (.bool (decide (termOK j k))) := by
  simp only [DJob.c_eq]
  refine fn0F 13 keep54 ib54 mk54 mix Tryz.func54 rfl (by kernel_rfl) (by simp) fun h => ?_
  simp (maxSteps := 1000000) -dsimp -implicitDefEqProofs only [go_sem, ↓reduceIte, keep54, ib54, mk54, Tryz.f54]
  repeat' (with_reducible first | intro _ | refine And.intro ?_ ?_)
  all_goals try omega
  rw [IntWalk.i64_in _ (by omega)]
  first | refine HFnF.mk (l00In k 0 ((j.fTerms.length : Int) - 1)) ?_ | refine CallSF.mk (l00In k 0 ((j.fTerms.length : Int) - 1)) ?_ | refine HFnF.mkAt (l00In k 0 ((j.fTerms.length : Int) - 1)) ?_ | refine CallSF.mk (FnAt.fn0 (l00In k 0 ((j.fTerms.length : Int) - 1))) ?_
  simp (maxSteps := 1000000) -dsimp -implicitDefEqProofs only [go_sem, ↓reduceIte, keep54, ib54, mk54, Tryz.f54]
  exact decide_eq_decide.2 Iff.rfl
open Go.Proofs
set_option linter.unusedVariables false
set_option linter.unusedSimpArgs false
theorem job_facts {j : DJob} (h : j.ok) : ∃ F, j.fProgram.fFuncs[j.fFunc.toNat]? = some F ∧ (0 ≤ j.fFunc ∧ j.fFunc < j.fProgram.fFuncs.length) ∧ (0 ≤ F.fParams ∧ F.fParams ≤ 12) ∧ j.okF F := by
  have hk : j.fFunc.toNat < j.fProgram.fFuncs.length := by have := h.2.1; omega
  have e := List.getElem?_eq_getElem hk
  exact ⟨_, e, by have := h.2.1; omega, (h.1.2 _ _ e).2.1, h.2.2 _ e⟩
def argsOf (j : DJob) (k : Nat) : List Int := j.fPoint ++ j.fTerms.getD k []
theorem term_facts {j : DJob} (h : j.ok) {k : Nat} (hk : k < j.fTerms.length) : (j.fTerms[k]? = some (j.fTerms.getD k [])) ∧ Nums (argsOf j k) ∧ (∀ F, j.fProgram.fFuncs[j.fFunc.toNat]? = some F → ((argsOf j k).length : Int) = F.fParams) ∧ (argsOf j k).length ≤ 12 ∧ j.fPoint.length ≤ 12 ∧ (j.fTerms.getD k []).length ≤ 12 ∧ 0 ≤ j.fShared ∧ j.fShared.toNat ≤ (argsOf j k).length := by
  obtain ⟨F, eF, hf, hF, ok⟩ := job_facts h
  obtain ⟨o1, o2, o3, o4⟩ := ok
  have hg : j.fTerms.getD k [] = j.fTerms[k] := by rw [List.getD_eq_getElem?_getD, List.getElem?_eq_getElem hk]; rfl
  have ht := o4 _ (List.getElem_mem hk)
  have hlen : ((argsOf j k).length : Int) = F.fParams := by
    rw [argsOf, hg, List.length_append]
    have := ht.1
    have := o2.1
    omega
  refine ⟨by rw [hg]; exact List.getElem?_eq_getElem hk, fun x hx => ?_, fun G hG => ?_, by omega, by have := o2.1; omega, by rw [hg]; have := ht.1; omega, o1.1, by omega⟩
  · rw [argsOf, hg] at hx
    rcases List.mem_append.1 hx with hx | hx
    · exact o2.2 x hx
    · exact ht.2 x hx
  · rw [eF] at hG
    cases hG
    exact hlen
def keep140 : List Nat := [0, 1, 2, 4]
def ib140 : List Nat := [2, 12]
def mk140 : Marks := fun id => match id with | 1 => ([], (.op 0 (.op 1 (.op 2 (.op 3 (.op 4 (.op 5 (.op 6 (.op 7 (.op 8 (.op 9 .nil)))))))))), []) | _ => ([], .nil, [])
theorem argsI {j : DJob} (h : j.ok) {k : Nat} (hk : k < j.fTerms.length) : Fn0 Tryz.prog 140 [.agg j.c, I k] (ints (argsOf j k)) := by
  obtain ⟨t1, t2, t3, t4, t5, t6, t7, t8⟩ := term_facts h hk
  have hc := concat2 j.fPoint (j.fTerms.getD k []) (by omega) (by omega)
  simp only [DJob.c_eq]
  refine fn0F 14 keep140 ib140 mk140 mix Tryz.func140 rfl (by kernel_rfl) (by simp) fun h => ?_
  simp (maxSteps := 1000000) -dsimp -implicitDefEqProofs only [go_sem, ↓reduceIte, keep140, ib140, mk140, Tryz.f140, t1]
  refine ⟨by omega, Nat.zero_lt_one, rfl, ?_⟩
  refine CallSF.mk hc ?_
  simp (maxSteps := 1000000) -dsimp -implicitDefEqProofs only [go_sem, ↓reduceIte, keep140, ib140, mk140, Tryz.f140]
  rfl
open Go.Proofs
set_option linter.unusedVariables false
set_option linter.unusedSimpArgs false
structure DInstr where
  fOp : Int
  fA : Int
  fB : Int
  fNum : Int
def DInstr.c (x : DInstr) : List HVal := [I x.fOp, I x.fA, I x.fB, I x.fNum]
theorem DInstr.c_eq (x : DInstr) : x.c = [I x.fOp, I x.fA, I x.fB, I x.fNum] := rfl
structure DGuard where
  fReg : Int
  fZero : Bool
def DGuard.c (x : DGuard) : List HVal := [I x.fReg, .bool x.fZero]
theorem DGuard.c_eq (x : DGuard) : x.c = [I x.fReg, .bool x.fZero] := rfl
/-- What a recorder has written: instructions, their values, guards. -/
structure RSt where
  code : List DInstr
  vals : List Int
  guards : List DGuard
def RSt.val (S : RSt) (k : Int) : Int := S.vals.getD k.toNat 0
def RSt.put (S : RSt) (c : DInstr) (v : Int) : RSt := ⟨S.code ++ [c], S.vals ++ [v], S.guards⟩
def RSt.guard (S : RSt) (g : DGuard) : RSt := ⟨S.code, S.vals, S.guards ++ [g]⟩
def seqR (ev : Nat → DExpr → RSt → Out (Int × RSt)) : List DExpr → Nat → RSt → Out (List Int × RSt)
  | [], t, S => .ok (([], S), t)
  | e :: l, t, S => (ev t e S).andThen fun r t => (seqR ev l t r.2).andThen fun q t => .ok ((r.1 :: q.1, q.2), t)
def iterR (f : List Int → Nat → RSt → Out (List Int × RSt)) : Nat → List Int → Nat → RSt → Out (List Int × RSt)
  | 0, vs, t, S => .ok ((vs, S), t)
  | n + 1, vs, t, S => (f vs t S).andThen fun r t => iterR f n r.1 t r.2
/-- The value of an operation; nothing for a quotient by 0. -/
def opV (k a b : Int) : Option Int :=
  if k = 3 then some ((a + b) % 1000003) else if k = 4 then some ((a - b) % 1000003) else if k = 5 then some (a * b % 1000003) else if k = 7 then some ((0 - a) % 1000003)
  else if b = 0 then none else some (a * invN b % 1000003)
/-- An operation's second operand. -/
def opB (k : Int) (vs : List Int) : Int := if k = 7 then 0 else vs.getD 1 0
def opR (k : Int) (vs : List Int) (S : RSt) (t : Nat) : Out (Int × RSt) := match opV k (S.val (vs.getD 0 0)) (S.val (opB k vs)) with
  | none => .error 6
  | some v => .ok (((S.vals.length : Int), S.put ⟨k, vs.getD 0 0, opB k vs, 0⟩ v), t)
/-- The register of an expression, what has been written then, and the steps made. -/
def recE (p : DProgram) : Nat → Nat → DExpr → List Int → RSt → Out (Int × RSt)
  | 0, _, _, _, _ => .error 7
  | n + 1, t, e, env, S =>
    if t = 3000 then .error 7
    else if e.fKind = 1 then .ok (((S.vals.length : Int), S.put ⟨2, 0, 0, e.fNum⟩ e.fNum), t + 1)
    else if e.fKind = 2 then .ok ((env.getD e.fNum.toNat 0, S), t + 1)
    else if e.fKind = 8 then (recE p n (t + 1) (e.kid 0) env S).andThen fun r t =>
      if r.2.val r.1 = 0 then recE p n t (e.kid 1) env (r.2.guard ⟨r.1, true⟩) else recE p n t (e.kid 2) env (r.2.guard ⟨r.1, false⟩)
    else if e.fKind = 9 then (recE p n (t + 1) (e.kid 0) env S).andThen fun r t => recE p n t (e.kid 1) (env ++ [r.1]) r.2
    else (seqR (fun t e S => recE p n t e env S) e.fKids (t + 1) S).andThen fun r t =>
      if e.fKind = 10 then recE p n t (p.out e.fNum e.fPick) r.1 r.2
      else if e.fKind = 11 then (iterR (fun vs t S => seqR (fun t e S => recE p n t e vs S) (p.outs e.fNum) t S) e.fCount.toNat r.1 t r.2).andThen fun r t => .ok ((r.1.getD e.fPick.toNat 0, r.2), t)
      else opR e.fKind r.1 r.2 t
theorem seqR_snoc (ev : Nat → DExpr → RSt → Out (Int × RSt)) (e : DExpr) : ∀ (l : List DExpr) (t : Nat) (S : RSt), seqR ev (l ++ [e]) t S = (seqR ev l t S).andThen fun q t => (ev t e q.2).andThen fun r t => .ok ((q.1 ++ [r.1], r.2), t)
  | [], t, S => rfl
  | x :: l, t, S => by
    simp only [List.cons_append, seqR, seqR_snoc ev e l, Out.andThen_assoc, Out.andThen_ok]
theorem iterR_snoc (f : List Int → Nat → RSt → Out (List Int × RSt)) : ∀ (n : Nat) (vs : List Int) (t : Nat) (S : RSt), iterR f (n + 1) vs t S = (iterR f n vs t S).andThen fun r t => f r.1 t r.2
  | 0, vs, t, S => by
    show (f vs t S).andThen (fun r t => .ok ((r.1, r.2), t)) = f vs t S
    cases f vs t S with
    | ok p => rfl
    | error c => rfl
  | n + 1, vs, t, S => by
    rw [iterR, show iterR f (n + 1) vs t S = (f vs t S).andThen fun r t => iterR f n r.1 t r.2 from rfl, Out.andThen_assoc]
    congr 1
    funext r t
    exact iterR_snoc f n r.1 t r.2
theorem iterR_err (f : List Int → Nat → RSt → Out (List Int × RSt)) {vs : List Int} {t : Nat} {S : RSt} {c : Int} : ∀ (k : Nat) {n : Nat}, k ≤ n → iterR f k vs t S = .error c → iterR f n vs t S = .error c := by
  intro k n hkn h
  induction n with
  | zero => obtain rfl : k = 0 := by omega
            exact h
  | succ n ih =>
    rcases Nat.lt_or_ge k (n + 1) with h1 | h1
    · rw [iterR_snoc, ih (by omega)]; rfl
    · obtain rfl : k = n + 1 := by omega
      exact h
/-! ### what is written is a tape -/
/-- An instruction is right at its place. -/
def instrOK (inp : Int) (i : Nat) (c : DInstr) : Prop :=
  (c.fOp = 1 ∧ c.fA = 0 ∧ c.fB = 0 ∧ 0 ≤ c.fNum ∧ c.fNum < inp) ∨ (c.fOp = 2 ∧ c.fA = 0 ∧ c.fB = 0 ∧ Num c.fNum) ∨ ((c.fOp = 3 ∨ c.fOp = 4 ∨ c.fOp = 5 ∨ c.fOp = 6) ∧ c.fNum = 0 ∧ 0 ≤ c.fA ∧ c.fA < i ∧ 0 ≤ c.fB ∧ c.fB < i) ∨ (c.fOp = 7 ∧ c.fNum = 0 ∧ c.fB = 0 ∧ 0 ≤ c.fA ∧ c.fA < i)
structure Good (inp : Int) (S : RSt) (t : Nat) : Prop where
  len : S.code.length = S.vals.length
  nums : Nums S.vals
  ins : ∀ i c, S.code[i]? = some c → instrOK inp i c
  gds : ∀ g ∈ S.guards, 0 ≤ g.fReg ∧ g.fReg < S.vals.length
  cap : S.vals.length ≤ 12 + t
  gcap : S.guards.length ≤ t
/-- A state that has been written on. -/
def RSt.ext (S S' : RSt) : Prop := S.code <+: S'.code ∧ S.vals <+: S'.vals ∧ S.guards <+: S'.guards
theorem RSt.ext_refl (S : RSt) : S.ext S := ⟨List.prefix_refl _, List.prefix_refl _, List.prefix_refl _⟩
theorem RSt.ext.trans {a b c : RSt} (h : a.ext b) (k : b.ext c) : a.ext c := ⟨h.1.trans k.1, h.2.1.trans k.2.1, h.2.2.trans k.2.2⟩
theorem RSt.ext_put (S : RSt) (c : DInstr) (v : Int) : S.ext (S.put c v) := ⟨List.prefix_append _ _, List.prefix_append _ _, List.prefix_refl _⟩
theorem RSt.ext_guard (S : RSt) (g : DGuard) : S.ext (S.guard g) := ⟨List.prefix_refl _, List.prefix_refl _, List.prefix_append _ _⟩
theorem RSt.ext.val {S S' : RSt} (h : S.ext S') {k : Int} (h0 : 0 ≤ k) (hk : k < S.vals.length) : S'.val k = S.val k := by
  obtain ⟨x, hx⟩ := h.2.1
  rw [RSt.val, RSt.val, ← hx, List.getD_eq_getElem?_getD, List.getD_eq_getElem?_getD, List.getElem?_append_left (by omega)]
theorem RSt.ext.len {S S' : RSt} (h : S.ext S') : S.vals.length ≤ S'.vals.length := h.2.1.length_le
/-- A register that has been written. -/
def inR (S : RSt) (k : Int) : Prop := 0 ≤ k ∧ k < S.vals.length
theorem inR.ext {S S' : RSt} {k : Int} (h : inR S k) (e : S.ext S') : inR S' k := ⟨h.1, by have := h.2; have := e.len; omega⟩
theorem Good.later {inp : Int} {S : RSt} {t u : Nat} (h : Good inp S t) (hu : t ≤ u) : Good inp S u := ⟨h.len, h.nums, h.ins, h.gds, by have := h.cap; omega, by have := h.gcap; omega⟩
theorem Good.put {inp : Int} {S : RSt} {t : Nat} {c : DInstr} {v : Int} (h : Good inp S t) (hc : instrOK inp S.vals.length c) (hv : Num v) (hcap : S.vals.length < 12 + t) : Good inp (S.put c v) t := by
  refine ⟨by simp [RSt.put, h.len], fun x hx => ?_, fun i d hd => ?_, fun g hg => ?_, by simp [RSt.put]; omega, h.gcap⟩
  · rcases List.mem_append.1 hx with hx | hx
    · exact h.nums x hx
    · rw [List.mem_singleton.1 hx]; exact hv
  · rcases Nat.lt_or_ge i S.code.length with hi | hi
    · rw [RSt.put, List.getElem?_append_left hi] at hd; exact h.ins i d hd
    · rw [RSt.put, List.getElem?_append_right hi] at hd
      have hd2 := List.getElem?_eq_some_iff.1 hd
      obtain ⟨h1, h2⟩ := hd2
      have h3 : i = S.vals.length := by simp at h1; have := h.len; omega
      simp at h2
      subst h2; rw [h3]; exact hc
  · have := h.gds g hg
    simp only [RSt.put, List.length_append, List.length_singleton]; omega
theorem Good.guard {inp : Int} {S : RSt} {t : Nat} {k : Int} {b : Bool} (h : Good inp S t) (hk : inR S k) (hcap : S.guards.length < t) : Good inp (S.guard ⟨k, b⟩) t := by
  refine ⟨h.len, h.nums, h.ins, fun g hg => ?_, h.cap, by simp [RSt.guard]; omega⟩
  rcases List.mem_append.1 hg with hg | hg
  · exact h.gds g hg
  · rw [List.mem_singleton.1 hg]; exact hk
theorem opV_num {k a b v : Int} (h : opV k a b = some v) : Num v := by
  unfold opV at h
  repeat' (split at h)
  all_goals first | (cases h; done) | (cases h; exact num_mod _)
/-- What holds of a value that comes without an error. -/
def okQ {α : Type} (P : α → Nat → Prop) (X : Out α) : Prop := ∀ v u, X = .ok (v, u) → P v u
theorem okQ.then {α β : Type} {P : α → Nat → Prop} {Q : β → Nat → Prop} {X : Out α} {F : α → Nat → Out β} (h : okQ P X) (hf : ∀ v t, P v t → okQ Q (F v t)) : okQ Q (X.andThen F) := fun w u hw => by
  cases X with
  | ok p => obtain ⟨v, t⟩ := p; exact hf v t (h v t rfl) w u hw
  | error c => cases hw
theorem okQ.pure {α : Type} {P : α → Nat → Prop} {v : α} {t : Nat} (h : P v t) : okQ P (.ok (v, t)) := fun w u e => by cases e; exact h
theorem okQ.err {α : Type} {P : α → Nat → Prop} {c : Int} : okQ P (.error c : Out α) := fun w u e => by cases e
theorem okQ.mono {α : Type} {P Q : α → Nat → Prop} {X : Out α} (h : okQ P X) (hq : ∀ v u, P v u → Q v u) : okQ Q X := fun v u e => hq v u (h v u e)
/-- The recorder's outcome for one expression. -/
def incR (S : RSt) (t : Nat) (S' : RSt) (u : Nat) : Prop := S'.vals.length + t ≤ S.vals.length + u ∧ S'.guards.length + t ≤ S.guards.length + u ∧ t ≤ u ∧ u ≤ 3000
theorem incR.refl {S : RSt} {t : Nat} (h : t ≤ 3000) : incR S t S t := ⟨Nat.le_refl _, Nat.le_refl _, Nat.le_refl _, h⟩
theorem incR.trans {A B C : RSt} {t u v : Nat} (h : incR A t B u) (k : incR B u C v) : incR A t C v := by
  unfold incR at *; omega
def RecQ (inp : Int) (S : RSt) (t : Nat) (r : Int × RSt) (u : Nat) : Prop := Good inp r.2 u ∧ S.ext r.2 ∧ inR r.2 r.1 ∧ incR S t r.2 u
def RecQL (inp : Int) (S : RSt) (t n : Nat) (r : List Int × RSt) (u : Nat) : Prop := Good inp r.2 u ∧ S.ext r.2 ∧ (r.1.length = n ∧ ∀ x ∈ r.1, inR r.2 x) ∧ incR S t r.2 u
theorem seqR_ok {ev : Nat → DExpr → RSt → Out (Int × RSt)} {inp : Int} : ∀ (l : List DExpr) (t : Nat) (S : RSt), Good inp S t → t ≤ 3000 → (∀ e ∈ l, ∀ u S', Good inp S' u → S.ext S' → incR S t S' u → okQ (RecQ inp S' u) (ev u e S')) → okQ (RecQL inp S t l.length) (seqR ev l t S)
  | [], t, S, hg, ht, _ => okQ.pure ⟨hg, S.ext_refl, ⟨rfl, by simp⟩, .refl ht⟩
  | e :: l, t, S, hg, ht, h => (h e List.mem_cons_self t S hg S.ext_refl (.refl ht)).then fun r u hr => by
    obtain ⟨r1, r2, r3, r4⟩ := hr
    refine (seqR_ok l u r.2 r1 r4.2.2.2 fun x hx u' S' a b c => h x (List.mem_cons_of_mem _ hx) u' S' a (r2.trans b) (r4.trans c)).then fun q u' hq => ?_
    obtain ⟨q1, q2, ⟨q3, q4⟩, q5⟩ := hq
    refine okQ.pure ⟨q1, r2.trans q2, ⟨by rw [List.length_cons, q3]; rfl, fun x hx => ?_⟩, r4.trans q5⟩
    rcases List.mem_cons.1 hx with rfl | hx
    · exact r3.ext q2
    · exact q4 x hx
theorem iterR_ok {f : List Int → Nat → RSt → Out (List Int × RSt)} {inp : Int} {m : Nat} (h : ∀ vs t S, Good inp S t → (vs.length = m ∧ ∀ x ∈ vs, inR S x) → t ≤ 3000 → okQ (RecQL inp S t m) (f vs t S)) :
    ∀ (n : Nat) (vs : List Int) (t : Nat) (S : RSt), Good inp S t → (vs.length = m ∧ ∀ x ∈ vs, inR S x) → t ≤ 3000 → okQ (RecQL inp S t m) (iterR f n vs t S)
  | 0, vs, t, S, hg, hv, ht => okQ.pure ⟨hg, S.ext_refl, hv, .refl ht⟩
  | n + 1, vs, t, S, hg, hv, ht => (h vs t S hg hv ht).then fun r u hr => by
    obtain ⟨r1, r2, r3, r4⟩ := hr
    refine (iterR_ok h n r.1 u r.2 r1 r3 r4.2.2.2).mono fun q u' hq => ?_
    obtain ⟨q1, q2, q3, q4⟩ := hq
    exact ⟨q1, r2.trans q2, q3, r4.trans q4⟩
theorem opR_ok {inp k : Int} {vs : List Int} {S : RSt} {t : Nat} {m : Nat} (hk : k = 3 ∨ k = 4 ∨ k = 5 ∨ k = 6 ∨ k = 7) (hm : vs.length = m ∧ ∀ x ∈ vs, inR S x) (hm1 : 1 ≤ m) (hm2 : ¬ k = 7 → 2 ≤ m) (hg : Good inp S (t + 1)) (hcap : S.vals.length < 12 + (t + 1)) (ht : t + 1 ≤ 3000) : okQ (fun r u => Good inp r.2 u ∧ S.ext r.2 ∧ inR r.2 r.1 ∧ u = t + 1 ∧ r.2.vals.length = S.vals.length + 1 ∧ r.2.guards = S.guards) (opR k vs S (t + 1)) := by
  have at_ : ∀ i, i < m → inR S (vs.getD i 0) := fun i hi => by
    rw [List.getD_eq_getElem?_getD, List.getElem?_eq_getElem (by omega)]
    exact hm.2 _ (List.getElem_mem _)
  unfold opR
  split
  · exact okQ.err
  · rename_i v hv
    have h0 := at_ 0 (by omega)
    refine okQ.pure ⟨hg.put ?_ (opV_num hv) hcap, S.ext_put _ _, ⟨by simp, by simp [RSt.put]; omega⟩, rfl, by simp [RSt.put], rfl⟩
    unfold inR at h0
    by_cases h7 : k = 7
    · subst h7
      exact .inr (.inr (.inr ⟨rfl, rfl, rfl, h0⟩))
    · have h1 := at_ 1 (hm2 h7)
      unfold inR at h1
      have hb : opB k vs = vs.getD 1 0 := if_neg h7
      exact .inr (.inr (.inl ⟨by simp only; omega, rfl, h0.1, h0.2, by simp only [hb]; exact h1.1, by simp only [hb]; exact h1.2⟩))
theorem recE_1 {p : DProgram} {n st : Nat} {e : DExpr} {env : List Int} {S : RSt} (h3 : ¬ st = 3000) (hk : e.fKind = 1) : recE p (n + 1) st e env S = .ok (((S.vals.length : Int), S.put ⟨2, 0, 0, e.fNum⟩ e.fNum), st + 1) := by rw [recE, if_neg h3, if_pos hk]
theorem recE_2 {p : DProgram} {n st : Nat} {e : DExpr} {env : List Int} {S : RSt} (h3 : ¬ st = 3000) (hk : e.fKind = 2) : recE p (n + 1) st e env S = .ok ((env.getD e.fNum.toNat 0, S), st + 1) := by rw [recE, if_neg h3, if_neg (by omega), if_pos hk]
theorem recE_8 {p : DProgram} {n st : Nat} {e : DExpr} {env : List Int} {S : RSt} (h3 : ¬ st = 3000) (hk : e.fKind = 8) : recE p (n + 1) st e env S = (recE p n (st + 1) (e.kid 0) env S).andThen fun r t =>
      if r.2.val r.1 = 0 then recE p n t (e.kid 1) env (r.2.guard ⟨r.1, true⟩) else recE p n t (e.kid 2) env (r.2.guard ⟨r.1, false⟩) := by rw [recE, if_neg h3, if_neg (by omega), if_neg (by omega), if_pos hk]
theorem recE_9 {p : DProgram} {n st : Nat} {e : DExpr} {env : List Int} {S : RSt} (h3 : ¬ st = 3000) (hk : e.fKind = 9) : recE p (n + 1) st e env S = (recE p n (st + 1) (e.kid 0) env S).andThen fun r t => recE p n t (e.kid 1) (env ++ [r.1]) r.2 := by rw [recE, if_neg h3, if_neg (by omega), if_neg (by omega), if_neg (by omega), if_pos hk]
theorem recE_10 {p : DProgram} {n st : Nat} {e : DExpr} {env : List Int} {S : RSt} (h3 : ¬ st = 3000) (hk : e.fKind = 10) : recE p (n + 1) st e env S = (seqR (fun t e S => recE p n t e env S) e.fKids (st + 1) S).andThen fun r t => recE p n t (p.out e.fNum e.fPick) r.1 r.2 := by
  rw [recE, if_neg h3, if_neg (by omega), if_neg (by omega), if_neg (by omega), if_neg (by omega)]; simp only [if_pos hk]
theorem recE_11 {p : DProgram} {n st : Nat} {e : DExpr} {env : List Int} {S : RSt} (h3 : ¬ st = 3000) (hk : e.fKind = 11) : recE p (n + 1) st e env S = (seqR (fun t e S => recE p n t e env S) e.fKids (st + 1) S).andThen fun r t => (iterR (fun vs t S => seqR (fun t e S => recE p n t e vs S) (p.outs e.fNum) t S) e.fCount.toNat r.1 t r.2).andThen fun r t => .ok ((r.1.getD e.fPick.toNat 0, r.2), t) := by
  have h : ¬ e.fKind = 10 := by omega
  rw [recE, if_neg h3, if_neg (by omega), if_neg (by omega), if_neg (by omega), if_neg (by omega)]; simp only [if_neg h, if_pos hk]
theorem recE_op {p : DProgram} {n st : Nat} {e : DExpr} {env : List Int} {S : RSt} (h3 : ¬ st = 3000) (hk : e.fKind = 3 ∨ e.fKind = 4 ∨ e.fKind = 5 ∨ e.fKind = 6 ∨ e.fKind = 7) : recE p (n + 1) st e env S = (seqR (fun t e S => recE p n t e env S) e.fKids (st + 1) S).andThen fun r t => opR e.fKind r.1 r.2 t := by
  have h : ¬ e.fKind = 10 := by omega
  have h2 : ¬ e.fKind = 11 := by omega
  rw [recE, if_neg h3, if_neg (by omega), if_neg (by omega), if_neg (by omega), if_neg (by omega)]; simp only [if_neg h, if_neg h2]
/-- A step that nothing is written for. -/
theorem incR.step {S S' : RSt} {t u : Nat} (h : incR S (t + 1) S' u) : incR S t S' u := by unfold incR at *; omega
theorem recE_ok {p : DProgram} (hp : p.ok) {inp : Int} : ∀ (n t : Nat) (e : DExpr) (env : List Int) (S : RSt) (funcs : Int), e.ok p funcs env.length → funcs ≤ p.fFuncs.length → Good inp S t → t ≤ 3000 → (∀ x ∈ env, inR S x) → okQ (RecQ inp S t) (recE p n t e env S)
  | 0, t, e, env, S, funcs, _, _, _, _, _ => okQ.err
  | n + 1, t, e, env, S, funcs, hok, hf, hg, ht, henv => by
    have ih := recE_ok hp (inp := inp) n
    have hnode := ((DExpr.ok_iff _ _ _ _).1 hok).1
    by_cases h3 : t = 3000
    · rw [recE, if_pos h3]; exact okQ.err
    have hg1 := hg.later (Nat.le_succ t)
    have hcap := hg.cap
    have hgcap := hg.gcap
    have henvE : ∀ {S'}, S.ext S' → ∀ x ∈ env, inR S' x := fun e x hx => (henv x hx).ext e
    rcases node_kind hnode with hk | hk | hk | hk | hk | hk | hk | hk | hk | hk | hk
    · rw [recE_1 h3 hk]
      have hn := ((nodeOK_plain (by omega)).1 hnode).2.2.2.1 hk
      exact okQ.pure ⟨hg1.put (.inr (.inl ⟨rfl, rfl, rfl, hn⟩)) hn (by omega), S.ext_put _ _, ⟨by simp, by simp [RSt.put]; omega⟩, by simp [incR, RSt.put]; omega⟩
    · rw [recE_2 h3 hk]
      have hn := ((nodeOK_plain (by omega)).1 hnode).2.2.2.2.1 hk
      refine okQ.pure ⟨hg1, S.ext_refl, ?_, by simp [incR]; omega⟩
      simp only [List.getD_eq_getElem?_getD]
      rw [List.getElem?_eq_getElem (by omega)]
      exact henv _ (List.getElem_mem _)
    iterate 5
      · have hlen := kids_len hok (by omega)
        rw [hk] at hlen
        rw [recE_op h3 (by omega)]
        refine (seqR_ok _ _ S hg1 (by omega) fun x hx u S' a b c => ih u x env S' funcs (kids_ok hok (by omega) x hx) hf a c.2.2.2 (henvE b)).then fun r u hr => ?_
        obtain ⟨r1, r2, r3, r4⟩ := hr
        obtain ⟨u, rfl⟩ : ∃ w, u = w + 1 := ⟨u - 1, by have := r4.2.2.1; omega⟩
        unfold incR at r4
        refine (opR_ok (inp := inp) (by omega) r3 (by unfold kidsN at hlen; simp at hlen; omega) (fun q => by unfold kidsN at hlen; simp at hlen; omega) r1 (by omega) (by omega)).mono fun q v hq => ?_
        obtain ⟨q1, q2, q3, rfl, q5, q6⟩ := hq
        exact ⟨q1, r2.trans q2, q3, by unfold incR; rw [q5, q6]; omega⟩
    · have hlen := kids_len hok (by omega)
      rw [hk, show kidsN 8 = 3 from rfl] at hlen
      have o0 := DExpr.kid_ok hok (i := 0) (by omega)
      have o1 := DExpr.kid_ok hok (i := 1) (by omega)
      have o2 := DExpr.kid_ok hok (i := 2) (by omega)
      rw [moreV_ne (by omega)] at o0 o1 o2
      rw [recE_8 h3 hk]
      refine (ih _ _ _ _ _ o0 hf hg1 (by omega) henv).then fun r u hr => ?_
      obtain ⟨r1, r2, r3, r4⟩ := hr
      have r4' := r4
      unfold incR at r4'
      have go : ∀ (b : Bool) (k : DExpr), k.ok p funcs env.length → okQ (RecQ inp S t) (recE p n u k env (r.2.guard ⟨r.1, b⟩)) := fun b k hk => by
        have he : r.2.ext (r.2.guard ⟨r.1, b⟩) := r.2.ext_guard _
        refine (ih u k env _ _ hk hf (r1.guard r3 (by omega)) (by omega) (henvE (r2.trans he))).mono fun q v hq => ?_
        obtain ⟨q1, q2, q3, q4⟩ := hq
        refine ⟨q1, (r2.trans he).trans q2, q3, ?_⟩
        unfold incR at q4 ⊢
        simp only [RSt.guard, List.length_append, List.length_singleton] at q4
        omega
      split
      · exact go _ _ o1
      · exact go _ _ o2
    · have hlen := kids_len hok (by omega)
      rw [hk, show kidsN 9 = 2 from rfl] at hlen
      have o0 := DExpr.kid_ok hok (i := 0) (by omega)
      have o1 := DExpr.kid_ok hok (i := 1) (by omega)
      rw [moreV_ne (by omega)] at o0
      rw [hk, show moreV 9 1 (env.length : Int) = env.length + 1 from rfl] at o1
      rw [recE_9 h3 hk]
      refine (ih _ _ _ _ _ o0 hf hg1 (by omega) henv).then fun r u hr => ?_
      obtain ⟨r1, r2, r3, r4⟩ := hr
      refine (ih _ _ (env ++ [r.1]) _ _ (by rw [List.length_append]; exact o1) hf r1 r4.2.2.2 fun x hx => ?_).mono fun q v hq => ?_
      · rcases List.mem_append.1 hx with hx | hx
        · exact henvE r2 x hx
        · rw [List.mem_singleton.1 hx]; exact r3
      · obtain ⟨q1, q2, q3, q4⟩ := hq
        exact ⟨q1, r2.trans q2, q3, (r4.trans q4).step⟩
    · obtain ⟨f, F⟩ := callsOf hp hok hf (.inl hk)
      have f2 := F.hi
      have f4 := F.pk2
      rw [recE_10 h3 hk]
      refine (seqR_ok _ _ S hg1 (by omega) fun x hx u S' a b c => ih u x env S' funcs (kids_ok hok (by omega) x hx) hf a c.2.2.2 (henvE b)).then fun r u hr => ?_
      obtain ⟨r1, r2, r3, r4⟩ := hr
      refine (ih _ _ r.1 _ e.fNum (by rw [r3.1, F.kids]; exact F.oks _ (List.mem_of_getElem? F.out)) (by omega) r1 r4.2.2.2 r3.2).mono fun q v hq => ?_
      obtain ⟨q1, q2, q3, q4⟩ := hq
      exact ⟨q1, r2.trans q2, q3, (r4.trans q4).step⟩
    · obtain ⟨f, F⟩ := callsOf hp hok hf (.inr hk)
      have f2 := F.hi
      have f4 := F.pk2
      have f9 := F.loop hk
      rw [recE_11 h3 hk]
      refine (seqR_ok _ _ S hg1 (by omega) fun x hx u S' a b c => ih u x env S' funcs (kids_ok hok (by omega) x hx) hf a c.2.2.2 (henvE b)).then fun r u hr => ?_
      obtain ⟨r1, r2, r3, r4⟩ := hr
      refine (iterR_ok (inp := inp) (m := f.fOuts.length) (fun vs w S' hg' hv hw => ?_) _ _ _ _ r1 ⟨by have := r3.1; have := F.kids; omega, r3.2⟩ r4.2.2.2).then fun q v hq => ?_
      · rw [F.eq]
        exact seqR_ok _ _ S' hg' hw fun x hx u S'' a b c => ih u x vs S'' e.fNum (by rw [hv.1, f9.2.2]; exact F.oks x hx) (by omega) a c.2.2.2 fun y hy => (hv.2 y hy).ext b
      · obtain ⟨q1, q2, q3, q4⟩ := hq
        refine okQ.pure ⟨q1, r2.trans q2, ?_, (r4.trans q4).step⟩
        simp only [List.getD_eq_getElem?_getD]
        rw [List.getElem?_eq_getElem (by rw [q3.1]; exact f4)]
        exact q3.2 _ (List.getElem_mem _)
open Go.Proofs
set_option linter.unusedVariables false
set_option linter.unusedSimpArgs false
/-- Two outcomes side by side. -/
def relO {α β : Type} (R : α → β → Prop) (X : Out α) (Y : Out β) : Prop := match X, Y with
  | .ok (v, t), .ok (v', t') => R v v' ∧ t = t'
  | .error c, .error c' => c = c'
  | _, _ => False
theorem relO.bind {α β γ δ : Type} {R : α → β → Prop} {R' : γ → δ → Prop} {P : α → Nat → Prop} {X : Out α} {Y : Out β} {F : α → Nat → Out γ} {G : β → Nat → Out δ} (hp : okQ P X) (h : relO R X Y) (hf : ∀ v v' t, P v t → R v v' → relO R' (F v t) (G v' t)) : relO R' (X.andThen F) (Y.andThen G) := by
  cases X with
  | ok p =>
    cases Y with
    | ok q =>
      obtain ⟨v, t⟩ := p
      obtain ⟨v', t'⟩ := q
      obtain ⟨h1, rfl⟩ := h
      exact hf _ _ _ (hp v t rfl) h1
    | error c => exact h.elim
  | error c =>
    cases Y with
    | ok q => exact h.elim
    | error d => exact h
theorem relO.pure {α β : Type} {R : α → β → Prop} {v : α} {v' : β} {t : Nat} (h : R v v') : relO R (.ok (v, t)) (.ok (v', t)) := ⟨h, rfl⟩
theorem relO.mono {α β : Type} {R R' : α → β → Prop} {P : α → Nat → Prop} {X : Out α} {Y : Out β} (hp : okQ P X) (h : relO R X Y) (hf : ∀ v v' t, P v t → R v v' → R' v v') : relO R' X Y := by
  cases X with
  | ok p =>
    cases Y with
    | ok q => exact ⟨hf _ _ _ (hp p.1 p.2 rfl) h.1, h.2⟩
    | error c => exact h.elim
  | error c =>
    cases Y with
    | ok q => exact h.elim
    | error d => exact h
def sv (S : RSt) (l : List Int) : List (List Int) := l.map fun k => [S.val k]
def sR1 (r : Int × RSt) (v : List Int) : Prop := v = [r.2.val r.1]
def sRL (r : List Int × RSt) (vs : List (List Int)) : Prop := vs = sv r.2 r.1
theorem sv_ext {S S' : RSt} {l : List Int} (h : ∀ x ∈ l, inR S x) (e : S.ext S') : sv S' l = sv S l :=
  List.map_congr_left fun x hx => by rw [e.val (h x hx).1 (h x hx).2]
theorem seqR_sim {ev : Nat → DExpr → RSt → Out (Int × RSt)} {ev' : Nat → DExpr → Out (List Int)} {inp : Int} : ∀ (l : List DExpr) (t : Nat) (S : RSt), Good inp S t → t ≤ 3000 → (∀ e ∈ l, ∀ u S', Good inp S' u → S.ext S' → incR S t S' u → okQ (RecQ inp S' u) (ev u e S') ∧ relO sR1 (ev u e S') (ev' u e)) → relO sRL (seqR ev l t S) (seqE ev' l t)
  | [], t, S, hg, ht, _ => relO.pure rfl
  | e :: l, t, S, hg, ht, h => by
    obtain ⟨h1, h2⟩ := h e List.mem_cons_self t S hg S.ext_refl (.refl ht)
    refine relO.bind h1 h2 fun r v u hr hv => ?_
    obtain ⟨r1, r2, r3, r4⟩ := hr
    have hl := fun x hx u' S' a b c => h x (List.mem_cons_of_mem _ hx) u' S' a (r2.trans b) (r4.trans c)
    refine relO.bind (seqR_ok l u r.2 r1 r4.2.2.2 fun x hx u' S' a b c => (hl x hx u' S' a b c).1) (seqR_sim l u r.2 r1 r4.2.2.2 hl) fun q vs u' hq hvs => relO.pure ?_
    rw [sR1] at hv
    rw [sRL] at hvs ⊢
    rw [hv, hvs, ← hq.2.1.val r3.1 r3.2]; rfl
theorem iterR_sim {f : List Int → Nat → RSt → Out (List Int × RSt)} {g : List (List Int) → Nat → Out (List (List Int))} {inp : Int} {m : Nat} (h : ∀ vs t S, Good inp S t → (vs.length = m ∧ ∀ x ∈ vs, inR S x) → t ≤ 3000 → okQ (RecQL inp S t m) (f vs t S) ∧ relO sRL (f vs t S) (g (sv S vs) t)) :
    ∀ (n : Nat) (vs : List Int) (t : Nat) (S : RSt), Good inp S t → (vs.length = m ∧ ∀ x ∈ vs, inR S x) → t ≤ 3000 → relO sRL (iterR f n vs t S) (iterE g n (sv S vs) t)
  | 0, vs, t, S, hg, hv, ht => relO.pure rfl
  | n + 1, vs, t, S, hg, hv, ht => by
    obtain ⟨h1, h2⟩ := h vs t S hg hv ht
    refine relO.bind h1 h2 fun r w u hr hw => ?_
    rw [sRL] at hw
    rw [hw]
    exact iterR_sim h n r.1 u r.2 hr.1 hr.2.2.1 hr.2.2.2.2.2.2
theorem sv_get {S : RSt} {l : List Int} {i : Nat} (hi : i < l.length) : (sv S l).getD i [] = [S.val (l.getD i 0)] := by
  simp [sv, List.getD_eq_getElem?_getD, List.getElem?_eq_getElem hi]
theorem opR_sim {k : Int} {vs : List Int} {S : RSt} {t : Nat} (hk : k = 3 ∨ k = 4 ∨ k = 5 ∨ k = 6 ∨ k = 7) (h1 : 1 ≤ vs.length) (h2 : ¬ k = 7 → 2 ≤ vs.length) : relO sR1 (opR k vs S t) (opE k (sv S vs) t) := by
  have g0 := sv_get (S := S) (l := vs) (i := 0) (by omega)
  have pv : ∀ c v, (S.put c v).val (S.vals.length : Int) = v := fun c v => by
    rw [RSt.val, RSt.put, List.getD_eq_getElem?_getD, Int.toNat_natCast, List.getElem?_append_right (Nat.le_refl _), Nat.sub_self]; rfl
  unfold opR opE opV
  rcases hk with rfl | rfl | rfl | rfl | rfl
  all_goals simp only [reduceCtorEq, if_true, if_false, Int.reduceEq]
  · refine relO.pure ?_
    have g1 := sv_get (S := S) (l := vs) (i := 1) (h2 (by decide))
    rw [sR1, pv, g0, g1]
    rfl
  · refine relO.pure ?_
    have g1 := sv_get (S := S) (l := vs) (i := 1) (h2 (by decide))
    rw [sR1, pv, g0, g1]
    show [(_ + _ * 1000002 % 1000003) % 1000003] = [(_ - S.val (vs.getD 1 0)) % 1000003]
    congr 1
    omega
  · refine relO.pure ?_
    have g1 := sv_get (S := S) (l := vs) (i := 1) (h2 (by decide))
    rw [sR1, pv, g0, g1]
    show [(0 + _ * _) % 1000003] = [_ * S.val (vs.getD 1 0) % 1000003]
    rw [Int.zero_add]; rfl
  · have g1 := sv_get (S := S) (l := vs) (i := 1) (h2 (by decide))
    rw [g0, g1, show opB 6 vs = vs.getD 1 0 from rfl, show [S.val (vs.getD 1 0)].getD 0 0 = S.val (vs.getD 1 0) from rfl]
    by_cases h : S.val (vs.getD 1 0) = 0
    · rw [if_pos h, if_pos h]; exact rfl
    · rw [if_neg h, if_neg h]
      refine relO.pure ?_
      rw [sR1, pv]; rfl
  · refine relO.pure ?_
    rw [sR1, pv, g0]
    show [_ * 1000002 % 1000003] = [(0 - S.val (vs.getD 0 0)) % 1000003]
    congr 1
    omega
theorem recE_sim {p : DProgram} (hp : p.ok) {inp : Int} : ∀ (n t : Nat) (e : DExpr) (env : List Int) (S : RSt) (funcs : Int), e.ok p funcs env.length → funcs ≤ p.fFuncs.length → Good inp S t → t ≤ 3000 → (∀ x ∈ env, inR S x) → relO sR1 (recE p n t e env S) (evE p 1 n t e (sv S env))
  | 0, t, e, env, S, funcs, _, _, _, _, _ => rfl
  | n + 1, t, e, env, S, funcs, hok, hf, hg, ht, henv => by
    have ih := recE_sim hp (inp := inp) n
    have io := recE_ok hp (inp := inp) n
    have hnode := ((DExpr.ok_iff _ _ _ _).1 hok).1
    by_cases h3 : t = 3000
    · rw [recE, evE, if_pos h3, if_pos h3]; exact rfl
    have hg1 := hg.later (Nat.le_succ t)
    have hcap := hg.cap
    have hgcap := hg.gcap
    have henvE : ∀ {S'}, S.ext S' → ∀ x ∈ env, inR S' x := fun e x hx => (henv x hx).ext e
    have kidsS : ¬ e.fKind = 9 → ∀ x ∈ e.fKids, ∀ u S', Good inp S' u → S.ext S' → incR S (t + 1) S' u → okQ (RecQ inp S' u) (recE p n u x env S') ∧ relO sR1 (recE p n u x env S') (evE p 1 n u x (sv S env)) := fun h9 x hx u S' a b c =>
      ⟨io u x env S' funcs (kids_ok hok h9 x hx) hf a c.2.2.2 (henvE b), by
        have := ih u x env S' funcs (kids_ok hok h9 x hx) hf a c.2.2.2 (henvE b)
        rwa [sv_ext henv b] at this⟩
    rcases node_kind hnode with hk | hk | hk | hk | hk | hk | hk | hk | hk | hk | hk
    · rw [recE_1 h3 hk, evE_1 h3 hk]
      refine relO.pure ?_
      simp [sR1, RSt.val, RSt.put, constL, List.replicate_succ]
    · rw [recE_2 h3 hk, evE_2 h3 hk]
      have hn := ((nodeOK_plain (by omega)).1 hnode).2.2.2.2.1 hk
      exact relO.pure (sv_get (by omega))
    iterate 5
      · have hlen := kids_len hok (by omega)
        rw [hk] at hlen
        rw [recE_op h3 (by omega), evE_op h3 (by omega)]
        have hs := kidsS (by omega)
        refine relO.bind (seqR_ok _ _ S hg1 (by omega) fun x hx u S' a b c => (hs x hx u S' a b c).1) (seqR_sim _ _ S hg1 (by omega) hs) fun r vs u hr hv => ?_
        obtain ⟨r1, r2, r3, r4⟩ := hr
        rw [sRL] at hv
        rw [hv]
        exact opR_sim (by omega) (by unfold kidsN at hlen; simp at hlen; omega) (fun q => by unfold kidsN at hlen; simp at hlen; omega)
    · have hlen := kids_len hok (by omega)
      rw [hk, show kidsN 8 = 3 from rfl] at hlen
      have o0 := DExpr.kid_ok hok (i := 0) (by omega)
      have o1 := DExpr.kid_ok hok (i := 1) (by omega)
      have o2 := DExpr.kid_ok hok (i := 2) (by omega)
      rw [moreV_ne (by omega)] at o0 o1 o2
      rw [recE_8 h3 hk, evE_8 h3 hk]
      refine relO.bind (io _ _ _ _ _ o0 hf hg1 (by omega) henv) (ih _ _ _ _ _ o0 hf hg1 (by omega) henv) fun r v u hr hv => ?_
      obtain ⟨r1, r2, r3, r4⟩ := hr
      have r4' := r4
      unfold incR at r4'
      rw [sR1] at hv
      subst hv
      rw [show [r.2.val r.1].getD 0 0 = r.2.val r.1 from rfl]
      have go : ∀ (b : Bool) (k : DExpr), k.ok p funcs env.length → relO sR1 (recE p n u k env (r.2.guard ⟨r.1, b⟩)) (evE p 1 n u k (sv S env)) := fun b k hk => by
        have he : r.2.ext (r.2.guard ⟨r.1, b⟩) := r.2.ext_guard _
        have := ih u k env _ _ hk hf (r1.guard (b := b) r3 (by omega)) (by omega) (henvE (r2.trans he))
        rwa [sv_ext henv (r2.trans he)] at this
      by_cases hz : r.2.val r.1 = 0
      · rw [if_pos hz, if_pos hz]; exact go _ _ o1
      · rw [if_neg hz, if_neg hz]; exact go _ _ o2
    · have hlen := kids_len hok (by omega)
      rw [hk, show kidsN 9 = 2 from rfl] at hlen
      have o0 := DExpr.kid_ok hok (i := 0) (by omega)
      have o1 := DExpr.kid_ok hok (i := 1) (by omega)
      rw [moreV_ne (by omega)] at o0
      rw [hk, show moreV 9 1 (env.length : Int) = env.length + 1 from rfl] at o1
      rw [recE_9 h3 hk, evE_9 h3 hk]
      refine relO.bind (io _ _ _ _ _ o0 hf hg1 (by omega) henv) (ih _ _ _ _ _ o0 hf hg1 (by omega) henv) fun r v u hr hv => ?_
      obtain ⟨r1, r2, r3, r4⟩ := hr
      rw [sR1] at hv
      subst hv
      have := ih u (e.kid 1) (env ++ [r.1]) r.2 funcs (by rw [List.length_append]; exact o1) hf r1 r4.2.2.2 (fun x hx => by
        rcases List.mem_append.1 hx with hx | hx
        · exact henvE r2 x hx
        · rw [List.mem_singleton.1 hx]; exact r3)
      rwa [show sv r.2 (env ++ [r.1]) = sv S env ++ [[r.2.val r.1]] by rw [← sv_ext henv r2, sv, List.map_append]; rfl] at this
    · obtain ⟨f, F⟩ := callsOf hp hok hf (.inl hk)
      have f2 := F.hi
      have f4 := F.pk2
      rw [recE_10 h3 hk, evE_10 h3 hk]
      have hs := kidsS (by omega)
      refine relO.bind (seqR_ok _ _ S hg1 (by omega) fun x hx u S' a b c => (hs x hx u S' a b c).1) (seqR_sim _ _ S hg1 (by omega) hs) fun r vs u hr hv => ?_
      obtain ⟨r1, r2, r3, r4⟩ := hr
      rw [sRL] at hv
      rw [hv]
      exact ih _ _ r.1 _ e.fNum (by rw [r3.1, F.kids]; exact F.oks _ (List.mem_of_getElem? F.out)) (by omega) r1 r4.2.2.2 r3.2
    · obtain ⟨f, F⟩ := callsOf hp hok hf (.inr hk)
      have f2 := F.hi
      have f4 := F.pk2
      have f9 := F.loop hk
      rw [recE_11 h3 hk, evE_11 h3 hk]
      have hs := kidsS (by omega)
      refine relO.bind (seqR_ok _ _ S hg1 (by omega) fun x hx u S' a b c => (hs x hx u S' a b c).1) (seqR_sim _ _ S hg1 (by omega) hs) fun r vs u hr hv => ?_
      obtain ⟨r1, r2, r3, r4⟩ := hr
      rw [sRL] at hv
      rw [hv]
      have hfl : ∀ vs t S, Good inp S t → (vs.length = f.fOuts.length ∧ ∀ x ∈ vs, inR S x) → t ≤ 3000 → okQ (RecQL inp S t f.fOuts.length) (seqR (fun t e S => recE p n t e vs S) (p.outs e.fNum) t S) ∧ relO sRL (seqR (fun t e S => recE p n t e vs S) (p.outs e.fNum) t S) (seqE (fun t e => evE p 1 n t e (sv S vs)) (p.outs e.fNum) t) := fun vs w S' hg' hv hw => by
        rw [F.eq]
        have hx2 : ∀ x ∈ f.fOuts, ∀ u S'', Good inp S'' u → S'.ext S'' → incR S' w S'' u → okQ (RecQ inp S'' u) (recE p n u x vs S'') ∧ relO sR1 (recE p n u x vs S'') (evE p 1 n u x (sv S' vs)) := fun x hx u S'' a b c =>
          ⟨io u x vs S'' e.fNum (by rw [hv.1, f9.2.2]; exact F.oks x hx) (by omega) a c.2.2.2 fun y hy => (hv.2 y hy).ext b, by
            have := ih u x vs S'' e.fNum (by rw [hv.1, f9.2.2]; exact F.oks x hx) (by omega) a c.2.2.2 fun y hy => (hv.2 y hy).ext b
            rwa [sv_ext hv.2 b] at this⟩
        exact ⟨seqR_ok _ _ S' hg' hw fun x hx u S'' a b c => (hx2 x hx u S'' a b c).1, seqR_sim _ _ S' hg' hw hx2⟩
      have hv0 : r.1.length = f.fOuts.length ∧ ∀ x ∈ r.1, inR r.2 x := ⟨by have := r3.1; have := F.kids; omega, r3.2⟩
      refine relO.bind (iterR_ok (inp := inp) (m := f.fOuts.length) (fun vs t S a b c => (hfl vs t S a b c).1) _ _ _ _ r1 hv0 r4.2.2.2) (iterR_sim (inp := inp) (m := f.fOuts.length) (g := fun vs t => seqE (fun t e => evE p 1 n t e vs) (p.outs e.fNum) t) hfl _ _ _ _ r1 hv0 r4.2.2.2) fun q vs2 v hq hvs => ?_
      refine relO.pure ?_
      rw [sRL] at hvs
      rw [hvs]
      exact sv_get (by rw [hq.2.2.1.1]; exact f4)
/-! ### a function's tape -/
def inS (args : List Int) : RSt := ⟨(List.range args.length).map fun i : Nat => ⟨1, 0, 0, (i : Int)⟩, args, []⟩
def inE (args : List Int) : List Int := (List.range args.length).map fun i : Nat => (i : Int)
theorem inS_good (args : List Int) (ha : Nums args) (hl : args.length ≤ 12) : Good args.length (inS args) 0 := by
  refine ⟨by simp [inS], ha, fun i c hc => ?_, fun g hg => (by cases hg), by simpa [inS] using hl, Nat.le_refl _⟩
  obtain ⟨h1, h2⟩ := List.getElem?_eq_some_iff.1 hc
  simp [inS] at h1 h2
  subst h2
  exact .inl ⟨rfl, rfl, rfl, by simp only; omega, by simp only; omega⟩
theorem inE_in (args : List Int) : ∀ x ∈ inE args, inR (inS args) x := fun x hx => by
  obtain ⟨i, hi, rfl⟩ := List.mem_map.1 hx
  have := List.mem_range.1 hi
  exact ⟨by omega, by simp [inS]; omega⟩
theorem inE_sv (args : List Int) : sv (inS args) (inE args) = args.map fun n => [n] := by
  apply List.ext_getElem
  · simp [sv, inE]
  · intro i h1 h2
    simp [sv, inE, inS, RSt.val]
    simp at h2
    rw [List.getElem?_eq_getElem h2]; rfl
/-- The registers of a function's outputs, and what has been written. -/
def recF (p : DProgram) (f : Int) (args : List Int) : Out (List Int × RSt) := seqR (fun t e S => recE p 3001 t e (inE args) S) (p.outs f) 0 (inS args)
theorem recF_ok {p : DProgram} (hp : p.ok) (f : Int) (hf : 0 ≤ f ∧ f < p.fFuncs.length) (args : List Int) (ha : Nums args) (hl : ∀ F, p.fFuncs[f.toNat]? = some F → (args.length : Int) = F.fParams) :
    okQ (RecQL args.length (inS args) 0 (p.outs f).length) (recF p f args) ∧ relO sRL (recF p f args) (evF p 1 f (args.map fun n => [n])) := by
  obtain ⟨F, ef, hF1, hF2, hF3, hF4⟩ := func_ok hp hf
  have hla := hl F ef
  have hg := inS_good args ha (by omega)
  have hin := inE_in args
  have hel : (inE args).length = args.length := by simp [inE]
  have hx2 : ∀ x ∈ p.outs f, ∀ u S'', Good args.length S'' u → (inS args).ext S'' → incR (inS args) 0 S'' u → okQ (RecQ args.length S'' u) (recE p 3001 u x (inE args) S'') ∧ relO sR1 (recE p 3001 u x (inE args) S'') (evE p 1 3001 u x (args.map fun n => [n])) := fun x hx u S'' a b c => by
    have hxo : x.ok p f (inE args).length := by rw [hel, hla]; exact hF4 x (by rw [← hF3]; exact hx)
    refine ⟨recE_ok hp _ u x _ S'' f hxo (by omega) a c.2.2.2 fun y hy => (hin y hy).ext b, ?_⟩
    have := recE_sim hp 3001 u x (inE args) S'' f hxo (by omega) a c.2.2.2 fun y hy => (hin y hy).ext b
    rwa [sv_ext hin b, inE_sv] at this
  exact ⟨seqR_ok _ _ _ hg (by omega) fun x hx u S'' a b c => (hx2 x hx u S'' a b c).1, seqR_sim _ _ _ hg (by omega) hx2⟩
open Go.Proofs
set_option linter.unusedVariables false
set_option linter.unusedSimpArgs false
def recBox (p : DProgram) (inp : Int) (S : RSt) (om og ov : Option Nat) (st : Nat) (c : Int) : HObj :=
  .row 8 [[.v (sls 3 DFunc.c p.fFuncs), .v (I inp), .v (onil 4 S.code.length om), .v (onil 2 S.guards.length og), .v .nilsl, .v (onil 1 S.vals.length ov), .v (I st), .v (I c)]]
/-- An own row, or nothing. -/
def oRow (h : Heap) (sz : Nat) (rows : List (List Cell)) : Option Nat → Prop
  | none => rows = []
  | some m => rows ≠ [] ∧ h m = some (.row sz rows)
def rowsOf {α : Type} (c : α → List HVal) (l : List α) : List (List Cell) := (l.map c).map (List.map .v)
theorem rowsOf_len {α : Type} (c : α → List HVal) (l : List α) : (rowsOf c l).length = l.length := by simp [rowsOf]
theorem rowsOf_snoc {α : Type} (c : α → List HVal) (l : List α) (x : α) : rowsOf c (l ++ [x]) = rowsOf c l ++ [(c x).map .v] := by simp [rowsOf]
theorem rowsOf_nil {α : Type} {c : α → List HVal} {l : List α} : rowsOf c l = [] ↔ l = [] := by simp [rowsOf]
/-- The recorder in memory: its box and what it has written; bx tells what the box holds. -/
structure RecG (bx : RSt → Option Nat → Option Nat → Option Nat → HObj) (h0 : Heap) (nb : Nat) (S : RSt) (om og ov : Option Nat) (h : Heap) : Prop where
  box : h nb = some (bx S om og ov)
  odd : ∀ S om og ov, ∃ sz cs, bx S om og ov = .row sz cs ∧ ¬ sz = 1 ∧ ¬ sz = 2 ∧ ¬ sz = 4
  code : oRow h 4 (rowsOf DInstr.c S.code) om
  gds : oRow h 2 (rowsOf DGuard.c S.guards) og
  vals : oRow h 1 (rowsOf (fun n => [I n]) S.vals) ov
  fresh : ∀ n, n = nb ∨ some n = om ∨ some n = og ∨ some n = ov → h0 n = none
  upto : ∀ n, ¬ n = nb → ¬ some n = om → ¬ some n = og → ¬ some n = ov → h n = h0 n
def RecInG (bx : RSt → Option Nat → Option Nat → Option Nat → HObj) (h0 : Heap) (nb : Nat) (S : RSt) (h : Heap) : Prop := ∃ om og ov, RecG bx h0 nb S om og ov h
abbrev RecAt (h0 : Heap) (nb : Nat) (p : DProgram) (inp : Int) (S : RSt) (st : Nat) (c : Int) (om og ov : Option Nat) (h : Heap) : Prop := RecG (fun S om og ov => recBox p inp S om og ov st c) h0 nb S om og ov h
abbrev RecIn (h0 : Heap) (nb : Nat) (p : DProgram) (inp : Int) (S : RSt) (st : Nat) (c : Int) (h : Heap) : Prop := RecInG (fun S om og ov => recBox p inp S om og ov st c) h0 nb S h
theorem recBox_odd (p : DProgram) (inp : Int) (st : Nat) (c : Int) : ∀ S om og ov, ∃ sz cs, recBox p inp S om og ov st c = .row sz cs ∧ ¬ sz = 1 ∧ ¬ sz = 2 ∧ ¬ sz = 4 := fun S om og ov => ⟨8, _, rfl, by decide, by decide, by decide⟩
theorem RecG.kinds {h0 h : Heap} {nb : Nat} {bx : RSt → Option Nat → Option Nat → Option Nat → HObj} {S : RSt} {om og ov : Option Nat} (H : RecG bx h0 nb S om og ov h) (n : Nat) :
    (n = nb → h n = some (bx S om og ov)) ∧ (some n = om → h n = some (.row 4 (rowsOf DInstr.c S.code))) ∧ (some n = og → h n = some (.row 2 (rowsOf DGuard.c S.guards))) ∧ (some n = ov → h n = some (.row 1 (rowsOf (fun n => [I n]) S.vals))) :=
  ⟨fun e => e ▸ H.box, fun e => by have := H.code; rw [← e] at this; exact this.2, fun e => by have := H.gds; rw [← e] at this; exact this.2, fun e => by have := H.vals; rw [← e] at this; exact this.2⟩
/-- No name stands for two rows. -/
theorem RecG.apart {h0 h : Heap} {nb : Nat} {bx : RSt → Option Nat → Option Nat → Option Nat → HObj} {S : RSt} {om og ov : Option Nat} (H : RecG bx h0 nb S om og ov h) (n : Nat) :
    (n = nb → ¬ some n = om ∧ ¬ some n = og ∧ ¬ some n = ov) ∧ (some n = om → ¬ some n = og ∧ ¬ some n = ov) ∧ (some n = og → ¬ some n = ov) ∧ (h n = none → ¬ n = nb ∧ ¬ some n = om ∧ ¬ some n = og ∧ ¬ some n = ov) := by
  obtain ⟨k1, k2, k3, k4⟩ := H.kinds n
  obtain ⟨sz, cs, hB, o1, o2, o4⟩ := H.odd S om og ov
  rw [hB] at k1
  refine ⟨fun e => ⟨fun q => ?_, fun q => ?_, fun q => ?_⟩, fun e => ⟨fun q => ?_, fun q => ?_⟩, fun e q => ?_, fun e => ⟨fun q => ?_, fun q => ?_, fun q => ?_, fun q => ?_⟩⟩
  · have := (k1 e).symm.trans (k2 q); simp at this; exact o4 this.1
  · have := (k1 e).symm.trans (k3 q); simp at this; exact o2 this.1
  · have := (k1 e).symm.trans (k4 q); simp at this; exact o1 this.1
  · have := (k2 e).symm.trans (k3 q); simp at this
  · have := (k2 e).symm.trans (k4 q); simp at this
  · have := (k3 e).symm.trans (k4 q); simp at this
  · have := (k1 q); rw [e] at this; cases this
  · have := (k2 q); rw [e] at this; cases this
  · have := (k3 q); rw [e] at this; cases this
  · have := (k4 q); rw [e] at this; cases this
theorem RecG.put {h0 h F : Heap} {nb : Nat} {bx : RSt → Option Nat → Option Nat → Option Nat → HObj} {S : RSt} {om og ov : Option Nat} (H : RecG bx h0 nb S om og ov h) (x : DInstr) (v : Int) {b b2 : Nat} (hb : h b = none) (hb2 : h b2 = none) (hne : ¬ b2 = b)
    (f1 : F nb = some (bx (S.put x v) (some b) og (some b2))) (f2 : F b = some (.row 4 (rowsOf DInstr.c (S.code ++ [x])))) (f3 : F b2 = some (.row 1 (rowsOf (fun n => [I n]) (S.vals ++ [v]))))
    (f4 : ∀ n, ¬ n = nb → ¬ n = b → ¬ n = b2 → ¬ some n = om → ¬ some n = ov → F n = h n) : ∃ g : Heap, g.le F ∧ RecInG bx h0 nb (S.put x v) g := by
  have a1 := (H.apart nb).1 rfl
  have a2 := (H.apart b).2.2.2 hb
  have a3 := (H.apart b2).2.2.2 hb2
  have g1 : ∀ n, some n = om ∨ some n = ov → h0 n = none := fun n hn => H.fresh n (by rcases hn with hn | hn; exact .inr (.inl hn); exact .inr (.inr (.inr hn)))
  have g2 : h0 b = none := (H.upto b a2.1 a2.2.1 a2.2.2.1 a2.2.2.2).symm.trans hb
  have g3 : h0 b2 = none := (H.upto b2 a3.1 a3.2.1 a3.2.2.1 a3.2.2.2).symm.trans hb2
  have get : ∀ n, ¬ some n = om → ¬ some n = ov → (fun n => if some n = om ∨ some n = ov then none else F n) n = F n := fun n h1 h2 => if_neg (by rintro (q | q); exact h1 q; exact h2 q)
  refine ⟨fun n => if some n = om ∨ some n = ov then none else F n, fun n => ?_, some b, og, some b2, ⟨?_, H.odd, ⟨by simp [rowsOf, RSt.put], ?_⟩, ?_, ⟨by simp [rowsOf, RSt.put], ?_⟩, fun n hn => ?_, fun n h1 h2 h3 h4 => ?_⟩⟩
  · by_cases e : some n = om ∨ some n = ov
    · exact .inl (if_pos e)
    · exact .inr (if_neg e)
  · exact (get nb a1.1 a1.2.2).trans f1
  · exact (get b a2.2.1 a2.2.2.2).trans f2
  · have hg := H.gds
    cases og with
    | none => exact hg
    | some k =>
      have ak := (H.apart k)
      have hk := hg.2
      refine ⟨hg.1, (get k (fun q => ak.2.1 q |>.1 rfl) (fun q => ak.2.2.1 rfl q)).trans ?_⟩
      rw [f4 k (fun q => (ak.1 q).2.1 rfl) (fun q => by rw [q, hb] at hk; cases hk) (fun q => by rw [q, hb2] at hk; cases hk) (fun q => ak.2.1 q |>.1 rfl) (fun q => ak.2.2.1 rfl q)]
      exact hk
  · exact (get b2 a3.2.1 a3.2.2.2).trans f3
  · rcases hn with rfl | hn | hn | hn
    · exact H.fresh _ (.inl rfl)
    · obtain rfl := Option.some.inj hn; exact g2
    · exact H.fresh n (.inr (.inr (.inl hn)))
    · obtain rfl := Option.some.inj hn; exact g3
  · have h2' : ¬ n = b := fun q => h2 (by rw [q])
    have h4' : ¬ n = b2 := fun q => h4 (by rw [q])
    by_cases e : some n = om ∨ some n = ov
    · exact (if_pos e).trans (g1 n e).symm
    · have e1 : ¬ some n = om := fun q => e (.inl q)
      have e2 : ¬ some n = ov := fun q => e (.inr q)
      exact ((get n e1 e2).trans (f4 n h1 h2' h4' e1 e2)).trans (H.upto n h1 e1 h3 e2)
def keep235 : List Nat := [0, 1, 2, 4, 6]
def ib235 : List Nat := [4, 15, 22]
def mk235 : Marks := fun id => match id with | 1 => ([6, 9, 13, 16, 20, 23], (.op 0 (.op 1 (.op 2 (.op 3 (.op 4 (.op 5 (.op 7 (.op 8 (.op 10 (.op 11 (.op 12 (.op 14 (.op 15 (.op 6 (.op 13 (.op 9 (.op 16 (.op 17 (.op 18 (.op 19 (.op 20 (.op 21 (.op 22 (.op 23 .nil)))))))))))))))))))))))), [(13, 9)]) | _ => ([], .nil, [])
set_option maxRecDepth 100000 in
theorem put_of {h0 h : Heap} {nb : Nat} {p : DProgram} {inp : Int} {S : RSt} {st : Nat} {c : Int} (H : RecIn h0 nb p inp S st c h) (x : DInstr) (v : Int) (hl : S.code.length = S.vals.length) (hcap : S.vals.length ≤ 1048576) :
    HFn Tryz.prog 235 [.op nb 8 0 0, .agg x.c, I v] h fun r h' => r = I S.vals.length ∧ RecIn h0 nb p inp (S.put x v) st c h' := by
  obtain ⟨om, og, ov, H⟩ := H
  have hb := H.box
  have hc := H.code
  have hv := H.vals
  unfold recBox at hb
  rw [DInstr.c_eq]
  cases om with
  | none =>
    have hc0 : S.code = [] := rowsOf_nil.1 hc
    cases ov with
    | some v =>
      have hv0 : S.vals = [] := List.eq_nil_of_length_eq_zero (by rw [← hl, hc0]; rfl)
      exact absurd (by rw [hv0]; rfl) hv.1
    | none =>
      have hv0 : S.vals = [] := rowsOf_nil.1 hv
      refine fnKF 35 keep235 ib235 mk235 mix Tryz.func235 rfl (by kernel_rfl) (by simp) ?_
      simp (maxSteps := 1000000) -dsimp -implicitDefEqProofs only [go_sem, ↓reduceIte, keep235, ib235, mk235, Tryz.f235, hb, onil_none]
      refine ⟨by decide, by decide, by decide, by decide, by decide, fun m hm => ?_⟩
      have d_m_nb : ¬ m = nb := fun e => by rw [e, hb] at hm; cases hm
      have d_nb_m : ¬ nb = m := Ne.symm d_m_nb
      have e_m_nb : (m = nb) = False := eq_false d_m_nb
      have e_nb_m : (nb = m) = False := eq_false d_nb_m
      refine ⟨by rw [upd_ne _ _ _ _ d_nb_m, hb]; rfl, by decide, fun w ⟨hwm, hw⟩ => ?_⟩
      have d_w_nb : ¬ w = nb := fun e => by rw [e, hb] at hw; cases hw
      have d_nb_w : ¬ nb = w := Ne.symm d_w_nb
      have e_w_nb : (w = nb) = False := eq_false d_w_nb
      have e_nb_w : (nb = w) = False := eq_false d_nb_w
      have d_w_m : ¬ w = m := hwm
      have d_m_w : ¬ m = w := Ne.symm d_w_m
      have e_w_m : (w = m) = False := eq_false d_w_m
      have e_m_w : (m = w) = False := eq_false d_m_w
      try simp (maxSteps := 1000000) -dsimp -implicitDefEqProofs only [go_sem, ↓reduceIte, keep235, ib235, mk235, Tryz.f235, hb, e_m_nb, e_m_w, e_nb_m, e_nb_w, e_w_m, e_w_nb, upd_ne]
      obtain ⟨g, hg, hR⟩ := H.put x v hm hw d_w_m (F := upd (upd (upd h m (.row 4 [x.c.map .v])) w (.row 1 [[.v (I v)]])) nb (recBox p inp (S.put x v) (some m) og (some w) st c)) (upd_same _ _ _)
        (by rw [upd_ne _ _ _ _ d_m_nb, upd_ne _ _ _ _ d_m_w, upd_same, hc0]; rfl) (by rw [upd_ne _ _ _ _ d_w_nb, upd_same, hv0]; rfl) (fun n h1 h2 h3 _ _ => by rw [upd_ne _ _ _ _ h1, upd_ne _ _ _ _ h3, upd_ne _ _ _ _ h2])
      refine ⟨_, g, shift_le ?_, by rw [hv0]; rfl, hR⟩
      rw [upd_upd]
      unfold recBox at hg
      simp only [RSt.put, hc0, hv0, onil_some, DInstr.c_eq] at hg
      exact hg
  | some m =>
    cases ov with
    | none =>
      have hv0 : S.vals = [] := rowsOf_nil.1 hv
      have hc0 : S.code = [] := List.eq_nil_of_length_eq_zero (by rw [hl, hv0]; rfl)
      exact absurd (by rw [hc0]; rfl) hc.1
    | some w =>
      have hm := hc.2
      have hw := hv.2
      have d_m_nb : ¬ m = nb := fun e => by rw [e, hb] at hm; cases hm
      have d_nb_m : ¬ nb = m := Ne.symm d_m_nb
      have e_m_nb : (m = nb) = False := eq_false d_m_nb
      have e_nb_m : (nb = m) = False := eq_false d_nb_m
      have d_w_nb : ¬ w = nb := fun e => by rw [e, hb] at hw; cases hw
      have d_nb_w : ¬ nb = w := Ne.symm d_w_nb
      have e_w_nb : (w = nb) = False := eq_false d_w_nb
      have e_nb_w : (nb = w) = False := eq_false d_nb_w
      have d_w_m : ¬ w = m := fun e => by rw [e, hm] at hw; cases hw
      have d_m_w : ¬ m = w := Ne.symm d_w_m
      have e_w_m : (w = m) = False := eq_false d_w_m
      have e_m_w : (m = w) = False := eq_false d_m_w
      refine fnKF 35 keep235 ib235 mk235 mix Tryz.func235 rfl (by kernel_rfl) (by simp) ?_
      simp (maxSteps := 1000000) -dsimp -implicitDefEqProofs only [go_sem, ↓reduceIte, keep235, ib235, mk235, Tryz.f235, hb, onil_some, hm, hw, e_m_nb, e_m_w, e_nb_m, e_nb_w, e_w_m, e_w_nb, upd_ne]
      refine ⟨by decide, by decide, by decide, by decide, by decide, by rw [rowsOf_len]; exact Nat.le_refl _, by omega, by omega, fun b hb1 => ?_⟩
      have d_b_nb : ¬ b = nb := fun e => by rw [e, hb] at hb1; cases hb1
      have d_nb_b : ¬ nb = b := Ne.symm d_b_nb
      have e_b_nb : (b = nb) = False := eq_false d_b_nb
      have e_nb_b : (nb = b) = False := eq_false d_nb_b
      have d_b_m : ¬ b = m := fun e => by rw [e, hm] at hb1; cases hb1
      have d_m_b : ¬ m = b := Ne.symm d_b_m
      have e_b_m : (b = m) = False := eq_false d_b_m
      have e_m_b : (m = b) = False := eq_false d_m_b
      have d_b_w : ¬ b = w := fun e => by rw [e, hw] at hb1; cases hb1
      have d_w_b : ¬ w = b := Ne.symm d_b_w
      have e_b_w : (b = w) = False := eq_false d_b_w
      have e_w_b : (w = b) = False := eq_false d_w_b
      refine ⟨by rw [upd_ne _ _ _ _ d_nb_b, upd_ne _ _ _ _ d_nb_m, hb]; rfl, by decide, ?_⟩
      try simp (maxSteps := 1000000) -dsimp -implicitDefEqProofs only [go_sem, ↓reduceIte, keep235, ib235, mk235, Tryz.f235, hb, hw, e_m_nb, e_m_w, e_m_b, e_nb_m, e_nb_w, e_nb_b, e_w_m, e_w_nb, e_w_b, e_b_m, e_b_nb, e_b_w, upd_ne]
      refine ⟨by rw [rowsOf_len]; exact Nat.le_refl _, by omega, by omega, fun b2 ⟨hb2b, hb2m, hb2⟩ => ?_⟩
      have d_b2_nb : ¬ b2 = nb := fun e => by rw [e, hb] at hb2; cases hb2
      have d_nb_b2 : ¬ nb = b2 := Ne.symm d_b2_nb
      have e_b2_nb : (b2 = nb) = False := eq_false d_b2_nb
      have e_nb_b2 : (nb = b2) = False := eq_false d_nb_b2
      have d_b2_m : ¬ b2 = m := hb2m
      have d_m_b2 : ¬ m = b2 := Ne.symm d_b2_m
      have e_b2_m : (b2 = m) = False := eq_false d_b2_m
      have e_m_b2 : (m = b2) = False := eq_false d_m_b2
      have d_b2_w : ¬ b2 = w := fun e => by rw [e, hw] at hb2; cases hb2
      have d_w_b2 : ¬ w = b2 := Ne.symm d_b2_w
      have e_b2_w : (b2 = w) = False := eq_false d_b2_w
      have e_w_b2 : (w = b2) = False := eq_false d_w_b2
      have d_b2_b : ¬ b2 = b := hb2b
      have d_b_b2 : ¬ b = b2 := Ne.symm d_b2_b
      have e_b2_b : (b2 = b) = False := eq_false d_b2_b
      have e_b_b2 : (b = b2) = False := eq_false d_b_b2
      simp (maxSteps := 1000000) -dsimp -implicitDefEqProofs only [go_sem, ↓reduceIte, keep235, ib235, mk235, Tryz.f235, hb, hw, e_m_nb, e_m_w, e_m_b, e_m_b2, e_nb_m, e_nb_w, e_nb_b, e_nb_b2, e_w_m, e_w_nb, e_w_b, e_w_b2, e_b_m, e_b_nb, e_b_w, e_b_b2, e_b2_m, e_b2_nb, e_b2_w, e_b2_b, upd_ne]
      rw [List.take_of_length_le (by rw [rowsOf_len]; exact Nat.le_refl _), List.take_of_length_le (by rw [rowsOf_len]; exact Nat.le_refl _)]
      obtain ⟨g, hg, hR⟩ := H.put x v hb1 hb2 d_b2_b (F := upd (upd (upd (upd (upd h m .gone) b (.row 4 (rowsOf DInstr.c S.code ++ [x.c.map .v]))) w .gone) b2 (.row 1 (rowsOf (fun n => [I n]) S.vals ++ [[.v (I v)]]))) nb (recBox p inp (S.put x v) (some b) og (some b2) st c)) (upd_same _ _ _)
        (by rw [upd_ne _ _ _ _ d_b_nb, upd_ne _ _ _ _ d_b_b2, upd_ne _ _ _ _ d_b_w, upd_same, rowsOf_snoc]) (by rw [upd_ne _ _ _ _ d_b2_nb, upd_same, rowsOf_snoc]; rfl)
        (fun n h1 h2 h3 h4 h5 => by rw [upd_ne _ _ _ _ h1, upd_ne _ _ _ _ h3, upd_ne _ _ _ _ (fun q => h5 (by rw [q])), upd_ne _ _ _ _ h2, upd_ne _ _ _ _ (fun q => h4 (by rw [q]))])
      refine fun _ => ⟨_, g, shift_le ?_, ?_, hR⟩
      · rw [upd_upd]
        unfold recBox at hg
        simp only [RSt.put, onil_some, DInstr.c_eq, List.length_append, List.length_singleton] at hg
        exact hg
      · rw [IntWalk.i64_in _ (by omega)]
        congr 1
        omega
theorem RecG.set {h0 h : Heap} {nb : Nat} {p : DProgram} {inp : Int} {S : RSt} {st : Nat} {c : Int} {om og ov : Option Nat} (H : RecAt h0 nb p inp S st c om og ov h) (st' : Nat) (c' : Int) : RecAt h0 nb p inp S st' c' om og ov (upd h nb (recBox p inp S om og ov st' c')) := by
  have a1 := (H.apart nb).1 rfl
  have hr : ∀ (o : Option Nat) (sz : Nat) (rows : List (List Cell)), ¬ some nb = o → oRow h sz rows o → oRow (upd h nb (recBox p inp S om og ov st' c')) sz rows o := fun o sz rows hn ho => by
    cases o with
    | none => exact ho
    | some m => exact ⟨ho.1, (upd_ne _ _ _ _ fun q => hn (by rw [q])).trans ho.2⟩
  exact ⟨upd_same _ _ _, recBox_odd _ _ _ _, hr _ _ _ a1.1 H.code, hr _ _ _ a1.2.1 H.gds, hr _ _ _ a1.2.2 H.vals, H.fresh, fun n h1 h2 h3 h4 => (upd_ne _ _ _ _ h1).trans (H.upto n h1 h2 h3 h4)⟩
theorem RecInG.over {h0 h : Heap} {nb : Nat} {bx : RSt → Option Nat → Option Nat → Option Nat → HObj} {S : RSt} (H : RecInG bx h0 nb S h) {m : Nat} {o : HObj} (hm : h m = none) : RecInG bx (upd h0 m o) nb S (upd h m o) := by
  obtain ⟨om, og, ov, H⟩ := H
  have a := (H.apart m).2.2.2 hm
  have hr : ∀ (q : Option Nat) (sz : Nat) (rows : List (List Cell)), ¬ some m = q → oRow h sz rows q → oRow (upd h m o) sz rows q := fun q sz rows hn ho => by
    cases q with
    | none => exact ho
    | some k => exact ⟨ho.1, (upd_ne _ _ _ _ fun e => hn (by rw [e])).trans ho.2⟩
  refine ⟨om, og, ov, (upd_ne _ _ _ _ fun e => a.1 e.symm).trans H.box, H.odd, hr _ _ _ a.2.1 H.code, hr _ _ _ a.2.2.1 H.gds, hr _ _ _ a.2.2.2 H.vals, fun n hn => ?_, fun n h1 h2 h3 h4 => ?_⟩
  · have hnm : ¬ n = m := fun e => by
      subst e
      rcases hn with hn | hn | hn | hn
      · exact a.1 hn
      · exact a.2.1 hn
      · exact a.2.2.1 hn
      · exact a.2.2.2 hn
    exact (upd_ne _ _ _ _ hnm).trans (H.fresh n hn)
  · by_cases e : n = m
    · rw [e, upd_same, upd_same]
    · rw [upd_ne _ _ _ _ e, upd_ne _ _ _ _ e]; exact H.upto n h1 h2 h3 h4
theorem RecInG.base {h0 h : Heap} {nb : Nat} {bx : RSt → Option Nat → Option Nat → Option Nat → HObj} {S : RSt} {m : Nat} {o : HObj} (H : RecInG bx (upd h0 m o) nb S h) (hm : h0 m = none) : ∃ g, h = upd g m o ∧ g m = none ∧ RecInG bx h0 nb S g := by
  obtain ⟨om, og, ov, H⟩ := H
  have hne : ∀ n, (n = nb ∨ some n = om ∨ some n = og ∨ some n = ov) → ¬ n = m := fun n hn e => by
    have := H.fresh n hn
    rw [e, upd_same] at this; cases this
  have hmo : h m = some o := (H.upto m (fun e => hne m (.inl e) rfl) (fun e => hne m (.inr (.inl e)) rfl) (fun e => hne m (.inr (.inr (.inl e))) rfl) (fun e => hne m (.inr (.inr (.inr e))) rfl)).trans (upd_same _ _ _)
  have get : ∀ n, ¬ n = m → (fun n => if n = m then none else h n) n = h n := fun n hn => if_neg hn
  have hr : ∀ (q : Option Nat) (sz : Nat) (rows : List (List Cell)), (∀ n, some n = q → ¬ n = m) → oRow h sz rows q → oRow (fun n => if n = m then none else h n) sz rows q := fun q sz rows hn ho => by
    cases q with
    | none => exact ho
    | some k => exact ⟨ho.1, (get k (hn k rfl)).trans ho.2⟩
  refine ⟨fun n => if n = m then none else h n, ?_, if_pos rfl, om, og, ov, (get nb (hne nb (.inl rfl))).trans H.box, H.odd, hr _ _ _ (fun n e => hne n (.inr (.inl e))) H.code, hr _ _ _ (fun n e => hne n (.inr (.inr (.inl e)))) H.gds, hr _ _ _ (fun n e => hne n (.inr (.inr (.inr e)))) H.vals, fun n hn => ?_, fun n h1 h2 h3 h4 => ?_⟩
  · funext n
    by_cases e : n = m
    · rw [e, upd_same, hmo]
    · rw [upd_ne _ _ _ _ e]; exact (get n e).symm
  · have := H.fresh n hn
    rwa [upd_ne _ _ _ _ (hne n hn)] at this
  · by_cases e : n = m
    · subst e; exact (if_pos rfl).trans hm.symm
    · have := H.upto n h1 h2 h3 h4
      rw [upd_ne _ _ _ _ e] at this
      exact (get n e).trans this
theorem RecInG.none {h0 h : Heap} {nb : Nat} {bx : RSt → Option Nat → Option Nat → Option Nat → HObj} {S : RSt} (H : RecInG bx h0 nb S h) {m : Nat} (hm : h m = none) : h0 m = none := by
  obtain ⟨om, og, ov, H⟩ := H
  have a := (H.apart m).2.2.2 hm
  exact (H.upto m a.1 a.2.1 a.2.2.1 a.2.2.2).symm.trans hm
/-- A guard is written. -/
theorem RecG.guard {h0 h F : Heap} {nb : Nat} {bx : RSt → Option Nat → Option Nat → Option Nat → HObj} {S : RSt} {om og ov : Option Nat} (H : RecG bx h0 nb S om og ov h) (x : DGuard) {b : Nat} (hb : h b = none)
    (f1 : F nb = some (bx (S.guard x) om (some b) ov)) (f2 : F b = some (.row 2 (rowsOf DGuard.c (S.guards ++ [x]))))
    (f4 : ∀ n, ¬ n = nb → ¬ n = b → ¬ some n = og → F n = h n) : ∃ g : Heap, g.le F ∧ RecG bx h0 nb (S.guard x) om (some b) ov g := by
  have a1 := (H.apart nb).1 rfl
  have a2 := (H.apart b).2.2.2 hb
  have g2 : h0 b = none := (H.upto b a2.1 a2.2.1 a2.2.2.1 a2.2.2.2).symm.trans hb
  have get : ∀ n, ¬ some n = og → (fun n => if some n = og then none else F n) n = F n := fun n h1 => if_neg h1
  have hr : ∀ (q : Option Nat) (sz : Nat) (rows : List (List Cell)), (∀ n, some n = q → ¬ n = nb ∧ ¬ n = b ∧ ¬ some n = og) → oRow h sz rows q → oRow (fun n => if some n = og then none else F n) sz rows q := fun q sz rows hn ho => by
    cases q with
    | none => exact ho
    | some k =>
      obtain ⟨e1, e2, e3⟩ := hn k rfl
      exact ⟨ho.1, ((get k e3).trans (f4 k e1 e2 e3)).trans ho.2⟩
  refine ⟨fun n => if some n = og then none else F n, fun n => ?_, ⟨?_, H.odd, hr _ _ _ (fun n e => ⟨fun q => ((H.apart n).1 q).1 e, fun q => a2.2.1 (by rw [← q]; exact e), ((H.apart n).2.1 e).1⟩) H.code, ⟨by simp [rowsOf, RSt.guard], ?_⟩, hr _ _ _ (fun n e => ⟨fun q => ((H.apart n).1 q).2.2 e, fun q => a2.2.2.2 (by rw [← q]; exact e), fun q => (H.apart n).2.2.1 q e⟩) H.vals, fun n hn => ?_, fun n h1 h2 h3 h4 => ?_⟩⟩
  · by_cases e : some n = og
    · exact .inl (if_pos e)
    · exact .inr (if_neg e)
  · exact (get nb a1.2.1).trans f1
  · exact (get b a2.2.2.1).trans f2
  · rcases hn with rfl | hn | hn | hn
    · exact H.fresh _ (.inl rfl)
    · exact H.fresh n (.inr (.inl hn))
    · obtain rfl := Option.some.inj hn; exact g2
    · exact H.fresh n (.inr (.inr (.inr hn)))
  · have h3' : ¬ n = b := fun q => h3 (by rw [q])
    by_cases e : some n = og
    · exact (if_pos e).trans (H.fresh n (.inr (.inr (.inl e)))).symm
    · exact ((get n e).trans (f4 n h1 h3' e)).trans (H.upto n h1 h2 e h4)
open Go.Proofs
set_option linter.unusedVariables false
set_option linter.unusedSimpArgs false
def keep311 : List Nat := [0, 1, 4]
def ib311 : List Nat := []
def mk311 : Marks := fun _ => ([], .nil, [])
theorem TimesN (a b : Int) (ha : Num a) (hb : Num b) : Fn0 Tryz.prog 311 [I a, I b] (I (a * b % 1000003)) := by
  have h1 := num_mul ha hb
  unfold Num at ha hb
  refine fn0F 11 keep311 ib311 mk311 mix Tryz.func311 rfl (by kernel_rfl) (by simp) fun h => ?_
  simp (maxSteps := 1000000) -dsimp -implicitDefEqProofs only [go_sem, ↓reduceIte, keep311, ib311, mk311, Tryz.f311]
  first | refine HFnF.mk (Residue a) ?_ | refine CallSF.mk (Residue a) ?_ | refine HFnF.mkAt (Residue a) ?_ | refine CallSF.mk (FnAt.fn0 (Residue a)) ?_
  simp (maxSteps := 1000000) -dsimp -implicitDefEqProofs only [go_sem, ↓reduceIte, keep311, ib311, mk311, Tryz.f311]
  first | refine HFnF.mk (Residue b) ?_ | refine CallSF.mk (Residue b) ?_ | refine HFnF.mkAt (Residue b) ?_ | refine CallSF.mk (FnAt.fn0 (Residue b)) ?_
  simp (maxSteps := 1000000) -dsimp -implicitDefEqProofs only [go_sem, ↓reduceIte, keep311, ib311, mk311, Tryz.f311]
  rw [Int.emod_eq_of_lt ha.1 (by omega), Int.emod_eq_of_lt hb.1 (by omega), wmod h1.1 (by omega)]
def keep308 : List Nat := [0, 1, 2, 3, 6, 7, 9, 10, 15, 20, 25, 30]
def ib308 : List Nat := [3]
def mk308 : Marks := fun _ => ([], .nil, [])
set_option maxRecDepth 100000 in
theorem operated (x : DInstr) (a b : Int) (ha : Num a) (hb : Num b) (hk : x.fOp = 3 ∨ x.fOp = 4 ∨ x.fOp = 5 ∨ x.fOp = 6 ∨ x.fOp = 7) : Fn0 Tryz.prog 308 [.agg x.c, I a, I b] (.tup [I ((opV x.fOp a b).getD 0), .bool (opV x.fOp a b).isSome]) := by
  rw [DInstr.c_eq]
  have hni : Num (invN b) := num_inv b
  refine fn0F 35 keep308 ib308 mk308 mix Tryz.func308 rfl (by kernel_rfl) (by simp) fun h => ?_
  simp (maxSteps := 1000000) -dsimp -implicitDefEqProofs only [go_sem, ↓reduceIte, keep308, ib308, mk308, Tryz.f308]
  refine ⟨fun q => ?_, fun q => ⟨fun q4 => ?_, fun q4 => ⟨fun q5 => ?_, fun q5 => ⟨fun q7 => ?_, fun q7 => ⟨fun qb => ?_, fun qb => ?_⟩⟩⟩⟩⟩
  · first | refine HFnF.mk (Plus a b) ?_ | refine CallSF.mk (Plus a b) ?_ | refine HFnF.mkAt (Plus a b) ?_ | refine CallSF.mk (FnAt.fn0 (Plus a b)) ?_
    simp (maxSteps := 1000000) -dsimp -implicitDefEqProofs only [go_sem, ↓reduceIte, keep308, ib308, mk308, Tryz.f308]
    unfold opV; rw [if_pos q]; rfl
  · first | refine HFnF.mk (minus a b) ?_ | refine CallSF.mk (minus a b) ?_ | refine HFnF.mkAt (minus a b) ?_ | refine CallSF.mk (FnAt.fn0 (minus a b)) ?_
    simp (maxSteps := 1000000) -dsimp -implicitDefEqProofs only [go_sem, ↓reduceIte, keep308, ib308, mk308, Tryz.f308]
    unfold opV; rw [if_neg q, if_pos q4]; rfl
  · first | refine HFnF.mk (TimesN a b ha hb) ?_ | refine CallSF.mk (TimesN a b ha hb) ?_ | refine HFnF.mkAt (TimesN a b ha hb) ?_ | refine CallSF.mk (FnAt.fn0 (TimesN a b ha hb)) ?_
    simp (maxSteps := 1000000) -dsimp -implicitDefEqProofs only [go_sem, ↓reduceIte, keep308, ib308, mk308, Tryz.f308]
    unfold opV; rw [if_neg q, if_neg q4, if_pos q5]; rfl
  · first | refine HFnF.mk (minus 0 a) ?_ | refine CallSF.mk (minus 0 a) ?_ | refine HFnF.mkAt (minus 0 a) ?_ | refine CallSF.mk (FnAt.fn0 (minus 0 a)) ?_
    simp (maxSteps := 1000000) -dsimp -implicitDefEqProofs only [go_sem, ↓reduceIte, keep308, ib308, mk308, Tryz.f308]
    unfold opV; rw [if_neg q, if_neg q4, if_neg q5, if_pos q7]; rfl
  · unfold opV; rw [if_neg q, if_neg q4, if_neg q5, if_neg q7, if_pos qb]; rfl
  · first | refine HFnF.mk (inverse b) ?_ | refine CallSF.mk (inverse b) ?_ | refine HFnF.mkAt (inverse b) ?_ | refine CallSF.mk (FnAt.fn0 (inverse b)) ?_
    simp (maxSteps := 1000000) -dsimp -implicitDefEqProofs only [go_sem, ↓reduceIte, keep308, ib308, mk308, Tryz.f308]
    first | refine HFnF.mk (TimesN a (invN b) ha hni) ?_ | refine CallSF.mk (TimesN a (invN b) ha hni) ?_ | refine HFnF.mkAt (TimesN a (invN b) ha hni) ?_ | refine CallSF.mk (FnAt.fn0 (TimesN a (invN b) ha hni)) ?_
    simp (maxSteps := 1000000) -dsimp -implicitDefEqProofs only [go_sem, ↓reduceIte, keep308, ib308, mk308, Tryz.f308]
    unfold opV; rw [if_neg q, if_neg q4, if_neg q5, if_neg q7, if_neg qb]; rfl
theorem Good.val {inp : Int} {S : RSt} {t : Nat} (h : Good inp S t) (k : Int) : Num (S.val k) := h.nums.get _
theorem RecG.row {h0 h : Heap} {nb : Nat} {bx : RSt → Option Nat → Option Nat → Option Nat → HObj} {S : RSt} {om og ov : Option Nat} (H : RecG bx h0 nb S om og ov h) {k : Int} (hk : inR S k) : ∃ w, ov = some w ∧ h w = some (.row 1 (rowsOf (fun n => [I n]) S.vals)) ∧ ¬ w = nb := by
  have hv := H.vals
  cases ov with
  | none => have := rowsOf_nil.1 hv; have h2 := hk.1; have h3 := hk.2; rw [this] at h3; simp at h3; omega
  | some w => exact ⟨w, rfl, hv.2, fun e => ((H.apart w).1 e).2.2 rfl⟩
theorem rowsOf_get {S : RSt} {k : Int} (hk : inR S k) : (rowsOf (fun n => [I n]) S.vals)[k.toNat]? = some [.v (I (S.val k))] := by
  have h1 := hk.1
  have h2 := hk.2
  rw [rowsOf, List.getElem?_map, List.getElem?_map, List.getElem?_eq_getElem (by omega), RSt.val, List.getD_eq_getElem?_getD, List.getElem?_eq_getElem (by omega)]; rfl
def keep303 : List Nat := [0, 1, 2, 6, 7, 8, 9, 16, 43]
def ib303 : List Nat := []
def mk303 : Marks := fun id => match id with | 4 => ([0, 4, 6, 8, 12, 14, 16], (.op 1 (.op 2 (.op 3 (.op 5 (.op 9 (.op 10 (.op 11 (.op 13 (.op 0 (.op 4 (.op 6 (.op 7 (.op 8 (.op 12 (.op 14 (.op 15 (.op 16 (.op 17 (.op 18 (.op 19 (.op 20 (.op 21 (.op 22 .nil))))))))))))))))))))))), []) | _ => ([], .nil, [])
set_option maxRecDepth 100000 in
theorem operation_of {h0 h : Heap} {nb : Nat} {p : DProgram} {inp : Int} {S : RSt} {st : Nat} (H : RecIn h0 nb p inp S st 0 h) (hg : Good inp S st) (hst : st ≤ 3000) (k : Int) (vs : List Int) (hk : k = 3 ∨ k = 4 ∨ k = 5 ∨ k = 6 ∨ k = 7) (h1 : 1 ≤ vs.length) (h2 : ¬ k = 7 → 2 ≤ vs.length) (hv : ∀ x ∈ vs, inR S x) (hl : vs.length ≤ 1048576) :
    HFn Tryz.prog 303 [.op nb 8 0 0, I k, ints vs] h fun r h' => ∃ j S' c', r = I j ∧ RecIn h0 nb p inp S' st c' h' ∧ outR (opR k vs S st) (j, S') st c' := by
  obtain ⟨om, og, ov, H⟩ := H
  have at_ : ∀ i, i < vs.length → inR S (vs.getD i 0) := fun i hi => by
    rw [List.getD_eq_getElem?_getD, List.getElem?_eq_getElem hi]
    exact hv _ (List.getElem_mem _)
  have i0 := at_ 0 (by omega)
  have iB : inR S (opB k vs) := by
    unfold opB
    split
    · have a := i0.1; have b := i0.2; exact ⟨Int.le_refl _, by omega⟩
    · exact at_ 1 (h2 (by assumption))
  obtain ⟨w, rfl, hw, dw⟩ := H.row i0
  have hb := H.box
  unfold recBox at hb
  rw [onil_some] at hb
  have g0 : vs[Int.toNat 0]? = some (vs.getD 0 0) := getD_get (by omega)
  have r0 := rowsOf_get i0
  have rB := rowsOf_get iB
  have d_w_nb : ¬ w = nb := dw
  have d_nb_w : ¬ nb = w := Ne.symm d_w_nb
  have e_w_nb : (w = nb) = False := eq_false d_w_nb
  have e_nb_w : (nb = w) = False := eq_false d_nb_w
  have hva := hg.val (vs.getD 0 0)
  have hvb := hg.val (opB k vs)
  have hop := operated ⟨k, vs.getD 0 0, opB k vs, 0⟩ _ _ hva hvb hk
  simp only [DInstr.c_eq] at hop
  have b0 := iB.1
  have b1 := i0.1
  have lw := rowsOf_len (fun n => [I n]) S.vals
  have i0b := i0.2
  have iBb := iB.2
  refine fnKF 51 keep303 ib303 mk303 mix Tryz.func303 rfl (by kernel_rfl) (by simp) ?_
  simp (maxSteps := 1000000) -dsimp -implicitDefEqProofs only [go_sem, ↓reduceIte, keep303, ib303, mk303, Tryz.f303, hb, g0]
  refine ⟨by omega, fun n hn => ⟨fun h7 => ⟨by have := h2 h7; omega, ?_⟩, fun h7 => ?_⟩⟩
  · have d_n_nb : ¬ n = nb := fun e => by rw [e, hb] at hn; cases hn
    have d_nb_n : ¬ nb = n := Ne.symm d_n_nb
    have e_n_nb : (n = nb) = False := eq_false d_n_nb
    have e_nb_n : (nb = n) = False := eq_false d_nb_n
    have d_n_w : ¬ n = w := fun e => by rw [e, hw] at hn; cases hn
    have d_w_n : ¬ w = n := Ne.symm d_n_w
    have e_n_w : (n = w) = False := eq_false d_n_w
    have e_w_n : (w = n) = False := eq_false d_w_n
    have eB : opB k vs = vs.getD 1 0 := if_neg h7
    have g1 : vs[Int.toNat 1]? = some (vs.getD 1 0) := getD_get (h2 h7)
    rw [eB] at rB hop b0 iBb
    simp (maxSteps := 1000000) -dsimp -implicitDefEqProofs only [go_sem, ↓reduceIte, keep303, ib303, mk303, Tryz.f303, g1, hb, hw, r0, rB, e_n_nb, e_n_w, e_nb_n, e_nb_w, e_w_n, e_w_nb, upd_ne]
    refine ⟨b1, i0b, b0, iBb, ?_⟩
    cases hv : opV k (S.val (vs.getD 0 0)) (S.val ((vs.getD 1 0))) with
    | none =>
      rw [hv] at hop
      first | refine HFnF.mk (hop) ?_ | refine CallSF.mk (hop) ?_ | refine HFnF.mkAt (hop) ?_ | refine CallSF.mk (FnAt.fn0 (hop)) ?_
      simp (maxSteps := 1000000) -dsimp -implicitDefEqProofs only [go_sem, ↓reduceIte, keep303, ib303, mk303, Tryz.f303]
      refine ⟨fun _ => ?_, fun q => absurd q (by simp)⟩
      simp (maxSteps := 1000000) -dsimp -implicitDefEqProofs only [go_sem, ↓reduceIte, keep303, ib303, mk303, Tryz.f303, hb, e_n_nb, e_n_w, e_nb_n, e_nb_w, e_w_n, e_w_nb, upd_ne]
      refine ⟨_, _, shift_le (?_ : (upd h nb (recBox p inp S om og (some w) st 6)).le _), 0, S, 6, rfl, ⟨_, _, _, H.set st 6⟩, by unfold opR; rw [eB, hv]; exact outR_err _ _ (by decide)⟩
      unfold recBox
      rw [onil_some]
      exact (leX_nil (by repeat' (first | exact leX_refl _ _ | refine leX_put (by simp only [upd_apply, ↓reduceIte, eq_self, if_true, e_n_nb, e_nb_n]) ?_ | refine leX_strip (by first | exact .inr (by assumption) | exact .inl (by simp)) ?_)))
    | some v =>
      rw [hv] at hop
      first | refine HFnF.mk (hop) ?_ | refine CallSF.mk (hop) ?_ | refine HFnF.mkAt (hop) ?_ | refine CallSF.mk (FnAt.fn0 (hop)) ?_
      simp (maxSteps := 1000000) -dsimp -implicitDefEqProofs only [go_sem, ↓reduceIte, keep303, ib303, mk303, Tryz.f303]
      refine ⟨fun q => absurd q (by simp), fun _ => ?_⟩
      simp only [upd_upd]
      refine HFnF.mkH (put_of (RecInG.over ⟨om, og, some w, H⟩ hn) ⟨k, vs.getD 0 0, (vs.getD 1 0), 0⟩ v hg.len (by have := hg.cap; omega)) ?_
      rintro r h' ⟨rfl, hR⟩
      obtain ⟨g, rfl, hgn, hR⟩ := hR.base (RecInG.none ⟨om, og, some w, H⟩ hn)
      simp (maxSteps := 1000000) -dsimp -implicitDefEqProofs only [go_sem, ↓reduceIte, keep303, ib303, mk303, Tryz.f303]
      exact ⟨_, g, shift_le (Heap.le_upd hgn (Heap.le_refl _)), _, _, 0, rfl, hR, by unfold opR; rw [eB, hv]; exact outR_ok _ _⟩
  · have d_n_nb : ¬ n = nb := fun e => by rw [e, hb] at hn; cases hn
    have d_nb_n : ¬ nb = n := Ne.symm d_n_nb
    have e_n_nb : (n = nb) = False := eq_false d_n_nb
    have e_nb_n : (nb = n) = False := eq_false d_nb_n
    have d_n_w : ¬ n = w := fun e => by rw [e, hw] at hn; cases hn
    have d_w_n : ¬ w = n := Ne.symm d_n_w
    have e_n_w : (n = w) = False := eq_false d_n_w
    have e_w_n : (w = n) = False := eq_false d_w_n
    have eB : opB k vs = 0 := if_pos h7
    rw [eB] at rB hop b0 iBb
    simp (maxSteps := 1000000) -dsimp -implicitDefEqProofs only [go_sem, ↓reduceIte, keep303, ib303, mk303, Tryz.f303, hb, hw, r0, rB, e_n_nb, e_n_w, e_nb_n, e_nb_w, e_w_n, e_w_nb, upd_ne]
    refine ⟨b1, i0b, iBb, ?_⟩
    cases hv : opV k (S.val (vs.getD 0 0)) (S.val (0)) with
    | none =>
      rw [hv] at hop
      first | refine HFnF.mk (hop) ?_ | refine CallSF.mk (hop) ?_ | refine HFnF.mkAt (hop) ?_ | refine CallSF.mk (FnAt.fn0 (hop)) ?_
      simp (maxSteps := 1000000) -dsimp -implicitDefEqProofs only [go_sem, ↓reduceIte, keep303, ib303, mk303, Tryz.f303]
      refine ⟨fun _ => ?_, fun q => absurd q (by simp)⟩
      simp (maxSteps := 1000000) -dsimp -implicitDefEqProofs only [go_sem, ↓reduceIte, keep303, ib303, mk303, Tryz.f303, hb, e_n_nb, e_n_w, e_nb_n, e_nb_w, e_w_n, e_w_nb, upd_ne]
      refine ⟨_, _, shift_le (?_ : (upd h nb (recBox p inp S om og (some w) st 6)).le _), 0, S, 6, rfl, ⟨_, _, _, H.set st 6⟩, by unfold opR; rw [eB, hv]; exact outR_err _ _ (by decide)⟩
      unfold recBox
      rw [onil_some]
      exact (leX_nil (by repeat' (first | exact leX_refl _ _ | refine leX_put (by simp only [upd_apply, ↓reduceIte, eq_self, if_true, e_n_nb, e_nb_n]) ?_ | refine leX_strip (by first | exact .inr (by assumption) | exact .inl (by simp)) ?_)))
    | some v =>
      rw [hv] at hop
      first | refine HFnF.mk (hop) ?_ | refine CallSF.mk (hop) ?_ | refine HFnF.mkAt (hop) ?_ | refine CallSF.mk (FnAt.fn0 (hop)) ?_
      simp (maxSteps := 1000000) -dsimp -implicitDefEqProofs only [go_sem, ↓reduceIte, keep303, ib303, mk303, Tryz.f303]
      refine ⟨fun q => absurd q (by simp), fun _ => ?_⟩
      simp only [upd_upd]
      refine HFnF.mkH (put_of (RecInG.over ⟨om, og, some w, H⟩ hn) ⟨k, vs.getD 0 0, 0, 0⟩ v hg.len (by have := hg.cap; omega)) ?_
      rintro r h' ⟨rfl, hR⟩
      obtain ⟨g, rfl, hgn, hR⟩ := hR.base (RecInG.none ⟨om, og, some w, H⟩ hn)
      simp (maxSteps := 1000000) -dsimp -implicitDefEqProofs only [go_sem, ↓reduceIte, keep303, ib303, mk303, Tryz.f303]
      exact ⟨_, g, shift_le (Heap.le_upd hgn (Heap.le_refl _)), _, _, 0, rfl, hR, by unfold opR; rw [eB, hv]; exact outR_ok _ _⟩
open Go.Proofs
set_option linter.unusedVariables false
set_option linter.unusedSimpArgs false
theorem outR.ok {α : Type} {c : Int} {X : Out α} {v : α} {t : Nat} {c' : Int} (h : outR (runE c X) v t c') (hc : c' = 0) : c = 0 ∧ X = .ok (v, t) := by
  have h0 := h.code0 hc
  subst h0
  rw [runE_zero] at h
  cases X with
  | ok q => obtain ⟨w, u⟩ := q; obtain ⟨_, rfl, rfl⟩ := h; exact ⟨rfl, rfl⟩
  | error d => exact absurd (h.1.symm.trans hc) h.2
def RegQ (h0 : Heap) (nb : Nat) (p : DProgram) (inp : Int) (st : Nat) (c : Int) (X : Out (Int × RSt)) : HVal → Heap → Prop := fun r h' => ∃ k S' t c', r = I k ∧ RecIn h0 nb p inp S' t c' h' ∧ st ≤ t ∧ t ≤ 3000 ∧ outR (runE c X) (k, S') t c'
def RegQL (h0 : Heap) (nb : Nat) (p : DProgram) (inp : Int) (st : Nat) (c : Int) (n : Nat) (X : Out (List Int × RSt)) : HVal → Heap → Prop := fun r h' => ∃ l S' t c', r = ints l ∧ RecIn h0 nb p inp S' t c' h' ∧ l.length = n ∧ st ≤ t ∧ t ≤ 3000 ∧ outR (runE c X) (l, S') t c'
def keep275 : List Nat := [0, 1, 2, 4, 6, 7, 8, 9, 10, 15, 20, 32, 33, 42, 49, 62, 85, 100, 128, 130, 131, 150, 162]
def ib275 : List Nat := [4, 80, 116]
def mk275 : Marks := fun id => match id with | 22 => ([6, 13, 15, 16], (.op 0 (.op 1 (.op 2 (.op 3 (.op 4 (.op 5 (.op 7 (.op 8 (.op 9 (.op 10 (.op 11 (.op 12 (.op 6 (.op 13 (.op 14 (.op 15 (.op 16 (.op 17 .nil)))))))))))))))))), []) | 28 => ([5, 16], (.op 0 (.op 1 (.op 2 (.op 3 (.op 4 (.op 6 (.op 7 (.op 11 (.op 12 (.op 15 (.op 5 (.op 8 (.op 9 (.op 10 (.op 13 (.op 14 (.op 16 (.op 17 .nil)))))))))))))))))), []) | 33 => ([5, 12], (.op 0 (.op 1 (.op 2 (.op 3 (.op 4 (.op 6 (.op 7 (.op 11 (.op 5 (.op 8 (.op 9 (.op 10 (.op 12 (.op 13 .nil)))))))))))))), []) | _ => ([], .nil, [])
def RegAt (p : DProgram) (inp : Int) (n : Nat) : Prop := ∀ (h0 h : Heap) (nb st : Nat) (c : Int) (e : DExpr) (env : List Int) (S : RSt) (funcs : Int), RecIn h0 nb p inp S st c h → st ≤ 3000 → 3001 ≤ n + st → e.ok p funcs env.length → 0 ≤ funcs → funcs ≤ p.fFuncs.length → (c = 0 → Good inp S st ∧ ∀ x ∈ env, inR S x) → env.length ≤ 412 + st →
  HFn Tryz.prog 275 [.op nb 8 0 0, .agg e.c, ints env] h (RegQ h0 nb p inp st c (recE p n st e env S))
theorem seqR_good {p : DProgram} (hp : p.ok) {inp : Int} {n st : Nat} {S : RSt} {l : List DExpr} {env : List Int} {funcs : Int} (hg : Good inp S st) (hst : st ≤ 3000) (henv : ∀ x ∈ env, inR S x) (hok : ∀ e ∈ l, e.ok p funcs env.length) (hf : funcs ≤ p.fFuncs.length) : okQ (RecQL inp S st l.length) (seqR (fun t e S => recE p n t e env S) l st S) :=
  seqR_ok l st S hg hst fun x hx u S' a b c => recE_ok hp n u x env S' funcs (hok x hx) hf a c.2.2.2 fun y hy => (henv y hy).ext b
def keep236 : List Nat := [0, 1, 2, 6, 7, 9, 11, 12, 13, 14]
def ib236 : List Nat := [10, 22]
def mk236 : Marks := fun _ => ([], .nil, [])
set_option maxRecDepth 100000 in
theorem all_reg {p : DProgram} (hp : p.ok) {inp : Int} {n : Nat} (hv : RegAt p inp n) (h0 h : Heap) (nb st : Nat) (c : Int) (l : List DExpr) (env : List Int) (S : RSt) (funcs : Int) (hb : RecIn h0 nb p inp S st c h) (hst : st ≤ 3000) (hn : 3001 ≤ n + st)
    (hl : l.length ≤ 1048576) (hok : ∀ e ∈ l, e.ok p funcs env.length) (hf0 : 0 ≤ funcs) (hf : funcs ≤ p.fFuncs.length) (hgo : c = 0 → Good inp S st ∧ ∀ x ∈ env, inR S x) (hel : env.length ≤ 412 + st) :
    HFn Tryz.prog 236 [.op nb 8 0 0, sls 5 DExpr.c l, ints env] h (RegQL h0 nb p inp st c l.length (seqR (fun t e S => recE p n t e env S) l st S)) := by
  refine fnKF 26 keep236 ib236 mk236 mix Tryz.func236 rfl (by kernel_rfl) (by simp) ?_
  simp (maxSteps := 1000000) -dsimp -implicitDefEqProofs only [go_sem, ↓reduceIte, keep236, ib236, mk236, Tryz.f236]
  refine ⟨Nat.zero_lt_one, fun _ => ?_⟩
  refine loopF (keep := keep236) (ib := ib236) (mk := mk236) mix (by kernel_rfl) (fun x : Nat × List Int × Nat × Int × RSt × Heap × Option Nat => [(0, .op nb 8 0 0), (2, ints env), (7, oval 1 x.2.1.length x.2.2.2.2.2.2), (11, sls 5 DExpr.c l), (12, I l.length), (13, I x.1)]) (fun x => oheap x.2.2.2.2.2.1 (.row 1 ((x.2.1.map fun n => [I n]).map (List.map .v))) x.2.2.2.2.2.2) (fun x => x.1 ≤ l.length ∧ x.2.1.length = x.1 ∧ st ≤ x.2.2.1 ∧ x.2.2.1 ≤ 3000 ∧ outR (runE c (seqR (fun t e S => recE p n t e env S) (l.take x.1) st S)) (x.2.1, x.2.2.2.2.1) x.2.2.1 x.2.2.2.1 ∧ RecIn h0 nb p inp x.2.2.2.2.1 x.2.2.1 x.2.2.2.1 x.2.2.2.2.2.1 ∧ oside x.2.2.2.2.2.1 x.2.1 x.2.2.2.2.2.2) (fun x => l.length - x.1) (0, [], st, c, S, h, none) ⟨by simp [SatL, tget, oval], by simp only [oheap_none]; exact Heap.le_refl _, Nat.zero_le _, rfl, Nat.le_refl _, hst, outR_init _ _ _, hb, rfl⟩ ?_
  rintro ⟨k, vs, t, c', S1, g, o⟩ ⟨hk, hvl, ht0, ht, ho, hR, hos⟩
  simp only at hk hvl ht0 ht ho hR hos ⊢
  rcases Nat.lt_or_ge k l.length with hlt | hge
  · have ek : l[k]? = some l[k] := List.getElem?_eq_getElem hlt
    have hnext : ∀ (j : Int) (S2 : RSt) (t2 : Nat) (c2 : Int), outR (runE c' (recE p n t l[k] env S1)) (j, S2) t2 c2 → outR (runE c (seqR (fun t e S => recE p n t e env S) (l.take (k + 1)) st S)) (vs ++ [j], S2) t2 c2 := fun j S2 t2 c2 h3 => by
      rw [List.take_succ_eq_append_getElem hlt, seqR_snoc]
      exact ho.thenC (h3.thenC (outR_init _ _ _))
    have hgo1 : c' = 0 → Good inp S1 t ∧ ∀ x ∈ env, inR S1 x := fun hc => by
      obtain ⟨e1, e2⟩ := ho.ok hc
      obtain ⟨a1, a2⟩ := hgo e1
      obtain ⟨b1, b2, b3, b4⟩ := seqR_good hp (l := l.take k) a1 hst a2 (fun x hx => hok x (List.mem_of_mem_take hx)) hf _ _ e2
      exact ⟨b1, fun x hx => (a2 x hx).ext b2⟩
    cases o with
    | none =>
      rw [oside_none] at hos
      subst hos
      simp (maxSteps := 1000000) -dsimp -implicitDefEqProofs only [go_sem, ↓reduceIte, keep236, ib236, mk236, Tryz.f236, oval_none, oheap_none, hlt, ek, DExpr.c_eq]
      intro m9 z9
      rw [upd_upd]
      have hvk := hv (upd h0 m9 (.row 5 [l[k].c.map .v])) (upd g m9 (.row 5 [l[k].c.map .v])) nb t c' l[k] env S1 funcs (hR.over z9) ht (by omega) (hok _ (List.getElem_mem _)) hf0 hf hgo1 (by omega)
      rw [DExpr.c_eq] at hvk
      refine HFnF.mkH hvk ?_
      rintro r h' ⟨j, S2, t2, c2, rfl, hR2, h1, h2, h3⟩
      obtain ⟨g2, rfl, hg2, hR2⟩ := hR2.base (hR.none z9)
      simp (maxSteps := 1000000) -dsimp -implicitDefEqProofs only [go_sem, ↓reduceIte, keep236, ib236, mk236, Tryz.f236]
      refine ⟨Nat.zero_lt_one, Nat.zero_lt_one, Nat.zero_lt_one, fun b ⟨hb9, hb2⟩ => ?_⟩
      refine ⟨(k + 1, [j], t2, c2, S2, g2, some b), ⟨rfl, by rw [IntWalk.i64_in _ (by omega)]; rfl⟩, ?_, ⟨by omega, by simp only [List.length_nil] at hvl; subst hvl; rfl, Nat.le_trans ht0 h1, h2, hnext j S2 t2 c2 h3, hR2, hb2⟩, by simp only; omega⟩
      simp only [oheap_some]
      exact (leX_nil (by repeat' (first | exact leX_refl _ _ | refine leX_put (by simp only [upd_apply, ↓reduceIte, eq_self, if_true, hb9, hg2, List.map_cons, List.map_nil]) ?_ | refine leX_strip (by first | exact .inr (by assumption) | exact .inl (by simp)) ?_)))
    | some m =>
      rw [oside_some] at hos
      simp (maxSteps := 1000000) -dsimp -implicitDefEqProofs only [go_sem, ↓reduceIte, keep236, ib236, mk236, Tryz.f236, oval_some, oheap_some, hlt, ek, DExpr.c_eq]
      intro m9 ⟨h9m, z9⟩
      rw [upd_upd]
      have d_m9_m : ¬ m9 = m := h9m
      have d_m_m9 : ¬ m = m9 := Ne.symm d_m9_m
      have e_m9_m : (m9 = m) = False := eq_false d_m9_m
      have e_m_m9 : (m = m9) = False := eq_false d_m_m9
      have z9' : (upd g m (.row 1 ((vs.map fun n => [I n]).map (List.map .v)))) m9 = none := by rw [upd_ne _ _ _ _ d_m9_m]; exact z9
      have hRo := hR.over (o := .row 1 ((vs.map fun n => [I n]).map (List.map .v))) hos
      have hvk := hv _ _ nb t c' l[k] env S1 funcs (hRo.over (o := .row 5 [l[k].c.map .v]) z9') ht (by omega) (hok _ (List.getElem_mem _)) hf0 hf hgo1 (by omega)
      rw [DExpr.c_eq] at hvk
      refine HFnF.mkH hvk ?_
      rintro r h' ⟨j, S2, t2, c2, rfl, hR2, h1, h2, h3⟩
      obtain ⟨g1, rfl, hg1, hR2⟩ := hR2.base (hRo.none z9')
      obtain ⟨g2, rfl, hg2, hR2⟩ := hR2.base (hR.none hos)
      rw [upd_ne _ _ _ _ d_m9_m] at hg1
      simp (maxSteps := 1000000) -dsimp -implicitDefEqProofs only [go_sem, ↓reduceIte, keep236, ib236, mk236, Tryz.f236, upd_ne, e_m_m9, e_m9_m]
      refine ⟨Nat.zero_lt_one, Nat.zero_lt_one, Nat.zero_lt_one, Nat.le_refl _, by omega, by omega, fun b ⟨hb9, hbm, hb2⟩ => ?_⟩
      have d_b_m : ¬ b = m := hbm
      have d_m_b : ¬ m = b := Ne.symm d_b_m
      have e_b_m : (b = m) = False := eq_false d_b_m
      have e_m_b : (m = b) = False := eq_false d_m_b
      have d_b_m9 : ¬ b = m9 := hb9
      have d_m9_b : ¬ m9 = b := Ne.symm d_b_m9
      have e_b_m9 : (b = m9) = False := eq_false d_b_m9
      have e_m9_b : (m9 = b) = False := eq_false d_m9_b
      refine ⟨(k + 1, vs ++ [j], t2, c2, S2, g2, some b), ⟨by rw [oval_some, List.length_append]; rfl, by rw [IntWalk.i64_in _ (by omega)]; rfl⟩, ?_, ⟨by omega, by rw [List.length_append, hvl]; rfl, Nat.le_trans ht0 h1, h2, hnext j S2 t2 c2 h3, hR2, hb2⟩, by simp only; omega⟩
      simp only [oheap_some]
      rw [← grow_row]
      exact (leX_nil (by repeat' (first | exact leX_refl _ _ | refine leX_put (by simp only [upd_apply, ↓reduceIte, eq_self, if_true, e_b_m, e_b_m9, e_m_b, e_m_m9, e_m9_b, e_m9_m]) ?_ | refine leX_strip (by first | exact .inr (by assumption) | exact .inl (by simp)) ?_)))
  · have hk' : k = l.length := by omega
    subst hk'
    rw [List.take_length] at ho
    cases o with
    | none =>
      rw [oside_none] at hos
      subst hos
      simp (maxSteps := 1000000) -dsimp -implicitDefEqProofs only [go_sem, ↓reduceIte, keep236, ib236, mk236, Tryz.f236, oval_none, oheap_none, Nat.lt_irrefl]
      exact ⟨ints [], _, Shift.of (Sub.loose _ _ _) (Heap.le_refl _), [], S1, t, c', rfl, hR, hvl, ht0, ht, ho⟩
    | some m =>
      rw [oside_some] at hos
      simp (maxSteps := 1000000) -dsimp -implicitDefEqProofs only [go_sem, ↓reduceIte, keep236, ib236, mk236, Tryz.f236, oval_some, oheap_some, Nat.lt_irrefl]
      exact ⟨ints vs, g, shift_ints vs hos (Heap.le_refl _) rfl, vs, S1, t, c', rfl, hR, hvl, ht0, ht, ho⟩
end Go.Hl

/-
  Contracts of functions and laws of the layer over the walk.
-/
import Derived.Test.YthcfmnldhokmiaaGreatVvE
import Derived.Test.YthcfmnldhokmiaaGreatVvF
import Derived.Test.YthcfmnldhokmiaaGreatVvD
namespace Go.Hl
open Go.Proofs
set_option linter.unusedVariables false
set_option linter.unusedSimpArgs false
def evNum (X : Out (List (List Int))) : List Int × Int × Int := match X with
  | .ok (vs, t) => (vs.map (·.getD 0 0), t, 0)
  | .error c => ([], 0, c)
theorem evNum_of {X : Out (List (List Int))} {l : List (List Int)} {t : Nat} {c : Int} (h : outR X l t c) : evNum X = if c = 0 then (l.map (·.getD 0 0), (t : Int), 0) else ([], 0, c) := by
  cases X with
  | ok p =>
    obtain ⟨w, u⟩ := p
    obtain ⟨rfl, rfl, rfl⟩ := h
    rfl
  | error d =>
    obtain ⟨rfl, h⟩ := h
    rw [if_neg h]; rfl
def keep130 : List Nat := [0, 1, 4]
def ib130 : List Nat := []
def mk130 : Marks := fun _ => ([], .nil, [])
set_option maxRecDepth 100000 in
theorem l08Args (a b : List Int) (ha : a.length ≤ 1000) (hb : b.length ≤ 1000) : Fn0 Tryz.prog 130 [ints a, ints b] (ints (a ++ b)) := by
  refine fn0S 9 keep130 ib130 mk130 mix Tryz.func130 rfl (by kernel_rfl) (by simp) fun h => ?_
  simp (maxSteps := 1000000) -dsimp -implicitDefEqProofs only [go_sem, ↓reduceIte, keep130, ib130, mk130, Tryz.f130]
  refine HFnF.wn0 (l00Own a (by omega)) ?_
  rintro r l g ⟨y, oy, rfl, rfl⟩ wn
  rcases oy.prim with ⟨rfl, ha0⟩ | ⟨n, rfl⟩
  · subst ha0
    simp (maxSteps := 1000000) -dsimp -implicitDefEqProofs only [go_sem, ↓reduceIte, keep130, ib130, mk130, Tryz.f130, OV.val_nil]
    refine ⟨Nat.zero_lt_one, fun e => ?_, fun _ => ⟨by omega, by omega, fun n hn => (shift_ints b hn (Heap.le_refl _) rfl).trans (shift_le wn.le)⟩⟩
    have : b = [] := by simpa using e
    subst this
    exact Shift.of (Sub.loose _ _ _) wn.le
  · rw [OV.val_prim]
    have gn : g n = some (.row 1 ((a.map fun n => [I n]).map (List.map .v))) := by
      rw [OV.sl_rows] at wn
      rw [← cells_map]
      exact wn.owns (n, _) List.mem_cons_self
    simp (maxSteps := 1000000) -dsimp -implicitDefEqProofs only [go_sem, ↓reduceIte, keep130, ib130, mk130, Tryz.f130, gn]
    refine ⟨Nat.zero_lt_one, Nat.le_refl _, by omega, by omega, fun m hm => ?_⟩
    rw [List.take_of_length_le (by simp), ← List.map_append, ← List.map_append]
    exact shift_ints (a ++ b) (Heap.le_none wn.le hm) (Heap.le_both (Heap.le_upd (wn.fresh n (by rw [OV.sl_rows]; simp [namesOf])) wn.le)) (by rw [List.length_append])
def keep131 : List Nat := [0, 1, 2, 6, 7, 8, 9, 10, 11, 12, 13, 14, 22, 46, 56]
def ib131 : List Nat := [18, 30, 31, 47, 52, 66]
def mk131 : Marks := fun id => match id with | 9 => ([4], (.op 0 (.op 1 (.op 2 (.op 3 (.op 4 (.op 5 (.op 6 (.op 7 .nil)))))))), []) | 15 => ([4], (.op 0 (.op 1 (.op 2 (.op 3 (.op 4 (.op 5 (.op 6 (.op 7 .nil)))))))), []) | _ => ([], .nil, [])
set_option maxRecDepth 100000 in
theorem l02Eval {p : DProgram} (hp : p.ok) (f : Int) (hf : 0 ≤ f ∧ f < p.fFuncs.length) (args : List Int) (na : Nums args) (hal : args.length ≤ 12) (hl : ∀ F, p.fFuncs[f.toNat]? = some F → (args.length : Int) = F.fParams) :
    Fn0 Tryz.prog 131 [.ip 1 [p.c] 0 0, I f, ints args] (.tup [ints (evNum (evF p 1 f (args.map fun n => [n]))).1, I (evNum (evF p 1 f (args.map fun n => [n]))).2.1, I (evNum (evF p 1 f (args.map fun n => [n]))).2.2]) := by
  obtain ⟨F, ef, hF1, hF2, hF3, hF4⟩ := func_ok hp hf
  have hlF := hl F ef
  rw [DProgram.c_eq]
  refine fn0S 73 keep131 ib131 mk131 mix Tryz.func131 rfl (by kernel_rfl) (by simp) fun h => ?_
  simp (maxSteps := 1000000) -dsimp -implicitDefEqProofs only [go_sem, ↓reduceIte, keep131, ib131, mk131, Tryz.f131]
  intro nb zb
  refine ⟨Nat.zero_lt_one, ?_⟩
  have hbd : HObj.row 4 [[Cell.v (.ip 1 [[sls 3 DFunc.c p.fFuncs]] 0 0), Cell.v (I 1), Cell.v (I 0), Cell.v (I 0)]] = rBox p 1 0 0 := rfl
  rw [hbd]
  have hB0 : (upd h nb (rBox p 1 0 0)) nb = some (rBox p 1 0 0) := upd_same _ _ _
  have hBl : h.le (upd h nb (rBox p 1 0 0)) := Heap.le_upd zb (Heap.le_refl _)
  generalize hgB : upd h nb (rBox p 1 0 0) = hB at hB0 hBl ⊢
  refine loopW (keep := keep131) (ib := ib131) (mk := mk131) mix (by kernel_rfl) (fun x : Nat × Option Nat => [(0, .ip 1 [[sls 3 DFunc.c p.fFuncs]] 0 0), (1, I f), (2, ints args), (9, .op nb 4 0 0), (10, oval 1 (args.take x.1).length x.2), (11, I x.1)]) (fun x => oheap hB (.row 1 ((((args.take x.1).map fun n => [n]).map fun s => [ints s]).map (List.map .v))) x.2) (fun x => x.1 ≤ args.length ∧ oside hB (args.take x.1) x.2) (fun x => args.length - x.1) (0, none) ⟨by simp [SatL, tget, oval], by simp only [oheap_none]; exact Heap.wk_of_le (Heap.le_refl _), Nat.zero_le _, by simp [oside]⟩ ?_
  rintro ⟨k, o⟩ ⟨hk, hos⟩
  simp only at hk hos ⊢
  rcases Nat.lt_or_ge k args.length with hlt | hge
  · have ea : args[k]? = some args[k] := List.getElem?_eq_getElem hlt
    have hy : args.take (k + 1) = args.take k ++ [args[k]] := List.take_succ_eq_append_getElem hlt
    have hlk : (args.take k).length = k := by rw [List.length_take]; omega
    cases o with
    | none =>
      rw [oside_none] at hos
      rw [hos] at hy ⊢
      simp (maxSteps := 1000000) -dsimp -implicitDefEqProofs only [go_sem, ↓reduceIte, keep131, ib131, mk131, Tryz.f131, oval_none, oheap_none, hlt, ea]
      intro _
      refine ⟨Nat.zero_lt_one, Nat.zero_lt_one, Nat.zero_lt_one, Nat.zero_lt_one, Nat.zero_lt_one, fun b hb => ⟨(k + 1, some b), ?_⟩⟩
      simp only [hy]
      refine ⟨⟨rfl, by rw [IntWalk.i64_in _ (by omega)]; rfl⟩, wk_last (A := []) (x := .sl 1 [[I args[k]]] true) (y := ints [args[k]]) (upd_same _ _ _) (Sub.loose _ _ _) (by rw [upd_upd]; exact Heap.le_refl _), ⟨by omega, hb⟩, by omega⟩
    | some n =>
      rw [oside_some] at hos
      simp (maxSteps := 1000000) -dsimp -implicitDefEqProofs only [go_sem, ↓reduceIte, keep131, ib131, mk131, Tryz.f131, oval_some, oheap_some, hlt, ea]
      intro _
      refine ⟨Nat.zero_lt_one, Nat.zero_lt_one, Nat.zero_lt_one, Nat.zero_lt_one, Nat.zero_lt_one, Nat.le_refl _, by omega, by omega, fun b hb => ⟨(k + 1, some b), ?_⟩⟩
      simp only [hy, oheap_some, oval_some, oside_some]
      refine ⟨⟨by rw [List.length_append]; rfl, by rw [IntWalk.i64_in _ (by omega)]; rfl⟩, wk_last (x := .sl 1 [[I args[k]]] true) (y := ints [args[k]]) (upd_same _ _ _) (Sub.loose _ _ _) ?_, ⟨by omega, hb.2⟩, by omega⟩
      have hl2 : (args.take k).length = ((args.take k).map fun n => [n]).length := by rw [List.length_map]
      rw [upd_upd, List.map_append, show ((args.take k).map fun n => [n]) ++ [args[k]].map (fun n => [n]) = ((args.take k).map fun n => [n]) ++ [[args[k]]] from rfl, ← grow_row ints, hl2]
      exact le_app hos
  have hk' : k = args.length := by omega
  subst hk'
  rw [List.take_length] at hos ⊢
  have hserA : ∀ s ∈ args.map (fun n => [n]), serOK 1 s := fun s hs => by
    obtain ⟨n, hn, rfl⟩ := List.mem_map.1 hs
    refine ⟨rfl, fun x hx => ?_⟩
    rw [List.mem_singleton.1 hx]
    exact na n hn
  have hlA : ((args.map fun n => [n]).length : Int) = F.fParams := by rw [List.length_map]; exact hlF
  have hnbB : ∀ {m : Nat}, hB m = none → ¬ nb = m := fun hm e => by rw [← e, hB0] at hm; cases hm
  cases o with
  | none =>
    rw [oside_none] at hos
    subst hos
    simp (maxSteps := 1000000) -dsimp -implicitDefEqProofs only [go_sem, ↓reduceIte, keep131, ib131, mk131, Tryz.f131, oval_none, oheap_none, Nat.lt_irrefl, Int.lt_irrefl, ef]
    refine ⟨hf.1, by omega, ?_⟩
    have ho := outs_of (run hp (by decide : 1 ≤ 1 ∧ 1 ≤ 1048576) 3001) hB nb 0 0 F [] f hB0 (by omega) (by omega) (by omega) (by rw [List.length_map] at hlA; rw [show (([] : List (List Int)).length : Int) = F.fParams from hlA]; exact hF4) hf.1 (by omega) (by simp) (by simp)
    refine HFnF.mkH (HFn.sub (.cons (.refl _) (.cons (Sub.ip (by rw [List.getElem?_map, ef]; rfl) (by simp [DFunc.c_eq])) (.cons (Sub.loose _ _ _) .nil))) ho) ?_
    rintro r h' ⟨vs, t, c, rfl, rfl, hvl, hvs, a1, a2, a3⟩
    have hCl : h.le (upd hB nb (rBox p 1 t c)) := Heap.le_upd zb hBl
    have hCn : (upd hB nb (rBox p 1 t c)) nb = some (.row 4 [[.v (.ip 1 [p.c] 0 0), .v (I 1), .v (I t), .v (I c)]]) := upd_same _ _ _
    generalize upd hB nb (rBox p 1 t c) = hC at hCn hCl ⊢
    rw [runE_zero, ← hF3] at a3
    simp (maxSteps := 1000000) -dsimp -implicitDefEqProofs only [go_sem, ↓reduceIte, keep131, ib131, mk131, Tryz.f131, hCn]
    have hev := evNum_of (show outR (evF p 1 f _) vs t c from a3)
    refine ⟨fun hc => ⟨Nat.zero_lt_one, ?_⟩, fun hc => ⟨Nat.zero_lt_one, ?_⟩⟩
    · try simp only [List.map_nil]
      rw [hev, if_neg hc]
      exact Shift.of (Sub.tup (.cons (Sub.loose _ _ _) (.cons (.refl _) (.cons (.refl _) .nil)))) hCl
    subst hc
    rw [if_pos rfl] at hev
    have hcv : (vs.map fun s => s.getD 0 0).length = vs.length := List.length_map _
    refine loopF (keep := keep131) (ib := ib131) (mk := mk131) mix (by kernel_rfl) (fun x : Nat × Option Nat => [(9, .op nb 4 0 0), (12, intss vs), (13, oval 1 ((vs.map fun s => s.getD 0 0).take x.1).length x.2), (14, I x.1)]) (fun x => oheap hC (.row 1 ((((vs.map fun s => s.getD 0 0).take x.1).map fun n => [I n]).map (List.map .v))) x.2) (fun x => x.1 ≤ vs.length ∧ oside hC ((vs.map fun s => s.getD 0 0).take x.1) x.2) (fun x => vs.length - x.1) (0, none) ⟨by simp [SatL, tget, oval], by simp only [oheap_none]; exact Heap.le_refl _, Nat.zero_le _, by simp [oside]⟩ ?_
    rintro ⟨k, o⟩ ⟨hk, hos⟩
    simp only at hk hos ⊢
    rcases Nat.lt_or_ge k vs.length with hlt | hge
    · have ea : vs[k]? = some vs[k] := List.getElem?_eq_getElem hlt
      have h0 := hvs _ (List.getElem_mem hlt)
      have e0 : (vs[k])[Int.toNat 0]? = some (vs[k].getD 0 0) := getD_get (by rw [h0.1]; decide)
      have h0l := h0.1
      have hy : (vs.map fun s => s.getD 0 0).take (k + 1) = (vs.map fun s => s.getD 0 0).take k ++ [(vs.map fun s => s.getD 0 0)[k]'(by omega)] := List.take_succ_eq_append_getElem (by omega)
      have hlk : ((vs.map fun s => s.getD 0 0).take k).length = k := by rw [List.length_take]; omega
      rw [List.getElem_map] at hy
      cases o with
      | none =>
        rw [oside_none] at hos
        rw [hos] at hy ⊢
        simp (maxSteps := 1000000) -dsimp -implicitDefEqProofs only [go_sem, ↓reduceIte, keep131, ib131, mk131, Tryz.f131, oval_none, oheap_none, hlt, ea, e0]
        repeat' (with_reducible first | intro _ | refine And.intro ?_ ?_)
        all_goals try (first | omega | decide)
        rename_i b hb
        refine ⟨(k + 1, some b), ?_⟩
        simp only [hy]
        refine ⟨⟨rfl, ?_⟩, Heap.le_refl _, ⟨by omega, hb⟩, by omega⟩
        rw [IntWalk.i64_in _ (by omega)]; rfl
      | some n =>
        rw [oside_some] at hos
        simp (maxSteps := 1000000) -dsimp -implicitDefEqProofs only [go_sem, ↓reduceIte, keep131, ib131, mk131, Tryz.f131, oval_some, oheap_some, hlt, ea, e0]
        repeat' (with_reducible first | intro _ | refine And.intro ?_ ?_)
        all_goals try (first | omega | decide | exact Nat.le_refl _)
        rename_i b hb
        refine ⟨(k + 1, some b), ?_⟩
        simp only [hy, oheap_some, oval_some, oside_some]
        refine ⟨⟨by rw [List.length_append]; rfl, ?_⟩, ?_, ⟨by omega, hb.2⟩, by omega⟩
        · rw [IntWalk.i64_in _ (by omega)]; rfl
        · rw [← grow_row]; exact le_app hos
    · have hk' : k = vs.length := by omega
      subst hk'
      rw [List.take_of_length_le (by omega)] at hos ⊢
      cases o with
      | none =>
        rw [oside_none] at hos
        simp (maxSteps := 1000000) -dsimp -implicitDefEqProofs only [go_sem, ↓reduceIte, keep131, ib131, mk131, Tryz.f131, oval_none, oheap_none, Nat.lt_irrefl, Int.lt_irrefl, hCn]
        intro _
        try simp only [List.map_nil]
        rw [hev, hos]
        exact Shift.of (Sub.tup (.cons (Sub.loose _ _ _) (.cons (.refl _) (.cons (.refl _) .nil)))) hCl
      | some n =>
        rw [oside_some] at hos
        have d_n_nb : ¬ n = nb := fun e => by rw [e, hCn] at hos; cases hos
        have d_nb_n : ¬ nb = n := Ne.symm d_n_nb
        have e_n_nb : (n = nb) = False := eq_false d_n_nb
        have e_nb_n : (nb = n) = False := eq_false d_nb_n
        simp (maxSteps := 1000000) -dsimp -implicitDefEqProofs only [go_sem, ↓reduceIte, keep131, ib131, mk131, Tryz.f131, oval_some, oheap_some, Nat.lt_irrefl, Int.lt_irrefl, upd_ne, e_n_nb, e_nb_n, hCn]
        intro _
        try simp only [List.map_nil]
        rw [hev]
        refine Shift.trans (shift_seal ((vs.map fun s => s.getD 0 0).map fun n => [I n]) hos (Heap.le_refl _) (by simp [sealOK, sealOKL]) ?_) (shift_le hCl)
        simp [HVal.sealUp, sealL, List.take_of_length_le]
  | some n =>
    rw [oside_some] at hos
    simp (maxSteps := 1000000) -dsimp -implicitDefEqProofs only [go_sem, ↓reduceIte, keep131, ib131, mk131, Tryz.f131, oval_some, oheap_some, Nat.lt_irrefl, Int.lt_irrefl, ef]
    intro _
    refine ⟨hf.1, by omega, ?_⟩
    have hnn := hnbB hos
    refine HFnF.giveX rfl rfl hnn (by rw [List.length_map, List.length_map]) hos ?_
    have ho := outs_of (run hp (by decide : 1 ≤ 1 ∧ 1 ≤ 1048576) 3001) (upd hB n .gone) nb 0 0 F (args.map fun n => [n]) f (by rw [upd_ne _ _ _ _ hnn]; exact hB0) (by omega) (by omega) (by omega) (by rw [hlA]; exact hF4) hf.1 (by omega) hserA (by rw [List.length_map]; omega)
    refine HFn.mono (HFn.sub (.cons (.refl _) (.cons (Sub.ip (by rw [List.getElem?_map, ef]; rfl) (by simp [DFunc.c_eq])) (.cons (.refl _) .nil))) ho) ?_
    rintro r h' ⟨vs, t, c, rfl, rfl, hvl, hvs, a1, a2, a3⟩
    have hhn : h n = none := by rw [← hgB, upd_ne _ _ _ _ (Ne.symm hnn)] at hos; exact hos
    have hCl : h.le (upd (upd hB n .gone) nb (rBox p 1 t c)) := Heap.le_upd zb (Heap.le_upd hhn hBl)
    have hCn : (upd (upd hB n .gone) nb (rBox p 1 t c)) nb = some (.row 4 [[.v (.ip 1 [p.c] 0 0), .v (I 1), .v (I t), .v (I c)]]) := upd_same _ _ _
    generalize upd (upd hB n .gone) nb (rBox p 1 t c) = hC at hCn hCl ⊢
    rw [runE_zero, ← hF3] at a3
    simp (maxSteps := 1000000) -dsimp -implicitDefEqProofs only [go_sem, ↓reduceIte, keep131, ib131, mk131, Tryz.f131, hCn]
    have hev := evNum_of (show outR (evF p 1 f _) vs t c from a3)
    refine ⟨fun hc => ⟨Nat.zero_lt_one, ?_⟩, fun hc => ⟨Nat.zero_lt_one, ?_⟩⟩
    · try simp only [List.map_nil]
      rw [hev, if_neg hc]
      exact Shift.of (Sub.tup (.cons (Sub.loose _ _ _) (.cons (.refl _) (.cons (.refl _) .nil)))) hCl
    subst hc
    rw [if_pos rfl] at hev
    have hcv : (vs.map fun s => s.getD 0 0).length = vs.length := List.length_map _
    refine loopF (keep := keep131) (ib := ib131) (mk := mk131) mix (by kernel_rfl) (fun x : Nat × Option Nat => [(9, .op nb 4 0 0), (12, intss vs), (13, oval 1 ((vs.map fun s => s.getD 0 0).take x.1).length x.2), (14, I x.1)]) (fun x => oheap hC (.row 1 ((((vs.map fun s => s.getD 0 0).take x.1).map fun n => [I n]).map (List.map .v))) x.2) (fun x => x.1 ≤ vs.length ∧ oside hC ((vs.map fun s => s.getD 0 0).take x.1) x.2) (fun x => vs.length - x.1) (0, none) ⟨by simp [SatL, tget, oval], by simp only [oheap_none]; exact Heap.le_refl _, Nat.zero_le _, by simp [oside]⟩ ?_
    rintro ⟨k, o⟩ ⟨hk, hos⟩
    simp only at hk hos ⊢
    rcases Nat.lt_or_ge k vs.length with hlt | hge
    · have ea : vs[k]? = some vs[k] := List.getElem?_eq_getElem hlt
      have h0 := hvs _ (List.getElem_mem hlt)
      have e0 : (vs[k])[Int.toNat 0]? = some (vs[k].getD 0 0) := getD_get (by rw [h0.1]; decide)
      have h0l := h0.1
      have hy : (vs.map fun s => s.getD 0 0).take (k + 1) = (vs.map fun s => s.getD 0 0).take k ++ [(vs.map fun s => s.getD 0 0)[k]'(by omega)] := List.take_succ_eq_append_getElem (by omega)
      have hlk : ((vs.map fun s => s.getD 0 0).take k).length = k := by rw [List.length_take]; omega
      rw [List.getElem_map] at hy
      cases o with
      | none =>
        rw [oside_none] at hos
        rw [hos] at hy ⊢
        simp (maxSteps := 1000000) -dsimp -implicitDefEqProofs only [go_sem, ↓reduceIte, keep131, ib131, mk131, Tryz.f131, oval_none, oheap_none, hlt, ea, e0]
        repeat' (with_reducible first | intro _ | refine And.intro ?_ ?_)
        all_goals try (first | omega | decide)
        rename_i b hb
        refine ⟨(k + 1, some b), ?_⟩
        simp only [hy]
        refine ⟨⟨rfl, ?_⟩, Heap.le_refl _, ⟨by omega, hb⟩, by omega⟩
        rw [IntWalk.i64_in _ (by omega)]; rfl
      | some n =>
        rw [oside_some] at hos
        simp (maxSteps := 1000000) -dsimp -implicitDefEqProofs only [go_sem, ↓reduceIte, keep131, ib131, mk131, Tryz.f131, oval_some, oheap_some, hlt, ea, e0]
        repeat' (with_reducible first | intro _ | refine And.intro ?_ ?_)
        all_goals try (first | omega | decide | exact Nat.le_refl _)
        rename_i b hb
        refine ⟨(k + 1, some b), ?_⟩
        simp only [hy, oheap_some, oval_some, oside_some]
        refine ⟨⟨by rw [List.length_append]; rfl, ?_⟩, ?_, ⟨by omega, hb.2⟩, by omega⟩
        · rw [IntWalk.i64_in _ (by omega)]; rfl
        · rw [← grow_row]; exact le_app hos
    · have hk' : k = vs.length := by omega
      subst hk'
      rw [List.take_of_length_le (by omega)] at hos ⊢
      cases o with
      | none =>
        rw [oside_none] at hos
        simp (maxSteps := 1000000) -dsimp -implicitDefEqProofs only [go_sem, ↓reduceIte, keep131, ib131, mk131, Tryz.f131, oval_none, oheap_none, Nat.lt_irrefl, Int.lt_irrefl, hCn]
        intro _
        try simp only [List.map_nil]
        rw [hev, hos]
        exact Shift.of (Sub.tup (.cons (Sub.loose _ _ _) (.cons (.refl _) (.cons (.refl _) .nil)))) hCl
      | some n =>
        rw [oside_some] at hos
        have d_n_nb : ¬ n = nb := fun e => by rw [e, hCn] at hos; cases hos
        have d_nb_n : ¬ nb = n := Ne.symm d_n_nb
        have e_n_nb : (n = nb) = False := eq_false d_n_nb
        have e_nb_n : (nb = n) = False := eq_false d_nb_n
        simp (maxSteps := 1000000) -dsimp -implicitDefEqProofs only [go_sem, ↓reduceIte, keep131, ib131, mk131, Tryz.f131, oval_some, oheap_some, Nat.lt_irrefl, Int.lt_irrefl, upd_ne, e_n_nb, e_nb_n, hCn]
        intro _
        try simp only [List.map_nil]
        rw [hev]
        refine Shift.trans (shift_seal ((vs.map fun s => s.getD 0 0).map fun n => [I n]) hos (Heap.le_refl _) (by simp [sealOK, sealOKL]) ?_) (shift_le hCl)
        simp [HVal.sealUp, sealL, List.take_of_length_le]
open Go.Proofs
set_option linter.unusedVariables false
set_option linter.unusedSimpArgs false
def specBox (p : DProgram) (inp : Int) (S : RSt) (om og ov : Option Nat) : HObj :=
  .row 6 [[.v (.ip 1 [[sls 3 DFunc.c p.fFuncs]] 0 0), .v (I inp), .v (onil 4 S.code.length om), .v (onil 2 S.guards.length og), .v .nilsl, .v (onil 1 S.vals.length ov)]]
theorem specBox_odd (p : DProgram) (inp : Int) : ∀ S om og ov, ∃ sz cs, specBox p inp S om og ov = .row sz cs ∧ ¬ sz = 1 ∧ ¬ sz = 2 ∧ ¬ sz = 4 := fun S om og ov => ⟨6, _, rfl, by decide, by decide, by decide⟩
def keep158 : List Nat := [0, 1, 2, 4, 6]
def ib158 : List Nat := [4, 14, 25]
def mk158 : Marks := fun id => match id with | 1 => ([5, 8, 12], (.op 0 (.op 1 (.op 2 (.op 3 (.op 4 (.op 6 (.op 7 (.op 5 (.op 8 (.op 9 (.op 10 (.op 11 (.op 12 .nil))))))))))))), []) | _ => ([], .nil, [])
set_option maxRecDepth 100000 in
theorem add_of {h0 h : Heap} {nb : Nat} {p : DProgram} {inp : Int} {S : RSt} (H : RecInG (specBox p inp) h0 nb S h) (x : DInstr) (v : Int) (hl : S.code.length = S.vals.length) (hcap : S.vals.length ≤ 1048576) :
    HFn Tryz.prog 158 [.op nb 6 0 0, .agg x.c, I v] h fun r h' => r = I S.vals.length ∧ RecInG (specBox p inp) h0 nb (S.put x v) h' := by
  obtain ⟨om, og, ov, H⟩ := H
  have hb := H.box
  have hc := H.code
  have hv := H.vals
  unfold specBox at hb
  rw [DInstr.c_eq]
  cases om with
  | none =>
    have hc0 : S.code = [] := rowsOf_nil.1 hc
    cases ov with
    | some v =>
      have hv0 : S.vals = [] := List.eq_nil_of_length_eq_zero (by rw [← hl, hc0]; rfl)
      exact absurd (by rw [hv0]; rfl) hv.1
    | none =>
      have hv0 : S.vals = [] := rowsOf_nil.1 hv
      refine fnKF 36 keep158 ib158 mk158 mix Tryz.func158 rfl (by kernel_rfl) (by simp) ?_
      simp (maxSteps := 1000000) -dsimp -implicitDefEqProofs only [go_sem, ↓reduceIte, keep158, ib158, mk158, Tryz.f158, hb, onil_none]
      refine ⟨by decide, by decide, by decide, fun m hm => ?_⟩
      have d_m_nb : ¬ m = nb := fun e => by rw [e, hb] at hm; cases hm
      have d_nb_m : ¬ nb = m := Ne.symm d_m_nb
      have e_m_nb : (m = nb) = False := eq_false d_m_nb
      have e_nb_m : (nb = m) = False := eq_false d_nb_m
      simp (maxSteps := 1000000) -dsimp -implicitDefEqProofs only [go_sem, ↓reduceIte, keep158, ib158, mk158, Tryz.f158, hb, onil_none, e_m_nb, e_nb_m, upd_ne]
      refine ⟨by decide, by decide, by decide, fun w ⟨hwb, hwm, hw⟩ => ?_⟩
      have d_w_nb : ¬ w = nb := hwb
      have d_nb_w : ¬ nb = w := Ne.symm d_w_nb
      have e_w_nb : (w = nb) = False := eq_false d_w_nb
      have e_nb_w : (nb = w) = False := eq_false d_nb_w
      have d_w_m : ¬ w = m := hwm
      have d_m_w : ¬ m = w := Ne.symm d_w_m
      have e_w_m : (w = m) = False := eq_false d_w_m
      have e_m_w : (m = w) = False := eq_false d_m_w
      try simp (maxSteps := 1000000) -dsimp -implicitDefEqProofs only [go_sem, ↓reduceIte, keep158, ib158, mk158, Tryz.f158, hb, e_m_nb, e_m_w, e_nb_m, e_nb_w, e_w_m, e_w_nb, upd_ne]
      obtain ⟨g, hg, hR⟩ := H.put x v hm hw d_w_m (F := upd (upd (upd h m (.row 4 [x.c.map .v])) w (.row 1 [[.v (I v)]])) nb (specBox p inp (S.put x v) (some m) og (some w))) (upd_same _ _ _)
        (by rw [upd_ne _ _ _ _ d_m_nb, upd_ne _ _ _ _ d_m_w, upd_same, hc0]; rfl) (by rw [upd_ne _ _ _ _ d_w_nb, upd_same, hv0]; rfl) (fun n h1 h2 h3 _ _ => by rw [upd_ne _ _ _ _ h1, upd_ne _ _ _ _ h3, upd_ne _ _ _ _ h2])
      refine ⟨_, g, shift_le (Heap.le_trans hg ?_), by rw [hv0]; rfl, hR⟩
      unfold specBox
      simp only [RSt.put, hc0, hv0, onil_some, DInstr.c_eq, List.nil_append, List.length_singleton, List.map_cons, List.map_nil]
      exact (leX_nil (by repeat' (first | exact leX_refl _ _ | refine leX_put (by simp only [upd_apply, ↓reduceIte, eq_self, if_true, e_m_nb, e_m_w, e_nb_m, e_nb_w, e_w_m, e_w_nb]) ?_ | refine leX_strip (by first | exact .inr (by assumption) | exact .inl (by simp)) ?_)))
  | some m =>
    cases ov with
    | none =>
      have hv0 : S.vals = [] := rowsOf_nil.1 hv
      have hc0 : S.code = [] := List.eq_nil_of_length_eq_zero (by rw [hl, hv0]; rfl)
      exact absurd (by rw [hc0]; rfl) hc.1
    | some w =>
      have hm := hc.2
      have hw := hv.2
      have d_m_nb : ¬ m = nb := fun e => by rw [e, hb] at hm; cases hm
      have d_nb_m : ¬ nb = m := Ne.symm d_m_nb
      have e_m_nb : (m = nb) = False := eq_false d_m_nb
      have e_nb_m : (nb = m) = False := eq_false d_nb_m
      have d_w_nb : ¬ w = nb := fun e => by rw [e, hb] at hw; cases hw
      have d_nb_w : ¬ nb = w := Ne.symm d_w_nb
      have e_w_nb : (w = nb) = False := eq_false d_w_nb
      have e_nb_w : (nb = w) = False := eq_false d_nb_w
      have d_w_m : ¬ w = m := fun e => by rw [e, hm] at hw; cases hw
      have d_m_w : ¬ m = w := Ne.symm d_w_m
      have e_w_m : (w = m) = False := eq_false d_w_m
      have e_m_w : (m = w) = False := eq_false d_m_w
      refine fnKF 36 keep158 ib158 mk158 mix Tryz.func158 rfl (by kernel_rfl) (by simp) ?_
      simp (maxSteps := 1000000) -dsimp -implicitDefEqProofs only [go_sem, ↓reduceIte, keep158, ib158, mk158, Tryz.f158, hb, onil_some, hm, hw, e_m_nb, e_m_w, e_nb_m, e_nb_w, e_w_m, e_w_nb, upd_ne]
      refine ⟨by decide, by decide, by decide, by rw [rowsOf_len]; exact Nat.le_refl _, by omega, by omega, fun b hb1 => ?_⟩
      have d_b_nb : ¬ b = nb := fun e => by rw [e, hb] at hb1; cases hb1
      have d_nb_b : ¬ nb = b := Ne.symm d_b_nb
      have e_b_nb : (b = nb) = False := eq_false d_b_nb
      have e_nb_b : (nb = b) = False := eq_false d_nb_b
      have d_b_m : ¬ b = m := fun e => by rw [e, hm] at hb1; cases hb1
      have d_m_b : ¬ m = b := Ne.symm d_b_m
      have e_b_m : (b = m) = False := eq_false d_b_m
      have e_m_b : (m = b) = False := eq_false d_m_b
      have d_b_w : ¬ b = w := fun e => by rw [e, hw] at hb1; cases hb1
      have d_w_b : ¬ w = b := Ne.symm d_b_w
      have e_b_w : (b = w) = False := eq_false d_b_w
      have e_w_b : (w = b) = False := eq_false d_w_b
      simp (maxSteps := 1000000) -dsimp -implicitDefEqProofs only [go_sem, ↓reduceIte, keep158, ib158, mk158, Tryz.f158, hb, hw, e_m_nb, e_m_w, e_m_b, e_nb_m, e_nb_w, e_nb_b, e_w_m, e_w_nb, e_w_b, e_b_m, e_b_nb, e_b_w, upd_ne]
      rw [onil_some]
      simp (maxSteps := 1000000) -dsimp -implicitDefEqProofs only [go_sem, ↓reduceIte, keep158, ib158, mk158, Tryz.f158, hb, hw, e_m_nb, e_m_w, e_m_b, e_nb_m, e_nb_w, e_nb_b, e_w_m, e_w_nb, e_w_b, e_b_m, e_b_nb, e_b_w, upd_ne]
      refine ⟨by decide, by decide, by decide, by rw [rowsOf_len]; exact Nat.le_refl _, by omega, by omega, fun b2 ⟨hb2n, hb2b, hb2m, hb2⟩ => ?_⟩
      have d_b2_nb : ¬ b2 = nb := hb2n
      have d_nb_b2 : ¬ nb = b2 := Ne.symm d_b2_nb
      have e_b2_nb : (b2 = nb) = False := eq_false d_b2_nb
      have e_nb_b2 : (nb = b2) = False := eq_false d_nb_b2
      have d_b2_m : ¬ b2 = m := hb2m
      have d_m_b2 : ¬ m = b2 := Ne.symm d_b2_m
      have e_b2_m : (b2 = m) = False := eq_false d_b2_m
      have e_m_b2 : (m = b2) = False := eq_false d_m_b2
      have d_b2_w : ¬ b2 = w := fun e => by rw [e, hw] at hb2; cases hb2
      have d_w_b2 : ¬ w = b2 := Ne.symm d_b2_w
      have e_b2_w : (b2 = w) = False := eq_false d_b2_w
      have e_w_b2 : (w = b2) = False := eq_false d_w_b2
      have d_b2_b : ¬ b2 = b := hb2b
      have d_b_b2 : ¬ b = b2 := Ne.symm d_b2_b
      have e_b2_b : (b2 = b) = False := eq_false d_b2_b
      have e_b_b2 : (b = b2) = False := eq_false d_b_b2
      simp (maxSteps := 1000000) -dsimp -implicitDefEqProofs only [go_sem, ↓reduceIte, keep158, ib158, mk158, Tryz.f158, hb, hw, e_m_nb, e_m_w, e_m_b, e_m_b2, e_nb_m, e_nb_w, e_nb_b, e_nb_b2, e_w_m, e_w_nb, e_w_b, e_w_b2, e_b_m, e_b_nb, e_b_w, e_b_b2, e_b2_m, e_b2_nb, e_b2_w, e_b2_b, upd_ne]
      rw [List.take_of_length_le (by rw [rowsOf_len]; exact Nat.le_refl _), List.take_of_length_le (by rw [rowsOf_len]; exact Nat.le_refl _)]
      obtain ⟨g, hg, hR⟩ := H.put x v hb1 hb2 d_b2_b (F := upd (upd (upd (upd (upd h m .gone) b (.row 4 (rowsOf DInstr.c S.code ++ [x.c.map .v]))) w .gone) b2 (.row 1 (rowsOf (fun n => [I n]) S.vals ++ [[.v (I v)]]))) nb (specBox p inp (S.put x v) (some b) og (some b2))) (upd_same _ _ _)
        (by rw [upd_ne _ _ _ _ d_b_nb, upd_ne _ _ _ _ d_b_b2, upd_ne _ _ _ _ d_b_w, upd_same, rowsOf_snoc]) (by rw [upd_ne _ _ _ _ d_b2_nb, upd_same, rowsOf_snoc]; rfl)
        (fun n h1 h2 h3 h4 h5 => by rw [upd_ne _ _ _ _ h1, upd_ne _ _ _ _ h3, upd_ne _ _ _ _ (fun q => h5 (by rw [q])), upd_ne _ _ _ _ h2, upd_ne _ _ _ _ (fun q => h4 (by rw [q]))])
      refine fun _ => ⟨_, g, shift_le (Heap.le_trans hg ?_), ?_, hR⟩
      · unfold specBox
        simp only [RSt.put, onil_some, DInstr.c_eq, List.length_append, List.length_singleton, List.map_cons, List.map_nil]
        exact (leX_nil (by repeat' (first | exact leX_refl _ _ | refine leX_put (by simp only [upd_apply, ↓reduceIte, eq_self, if_true, e_m_nb, e_m_w, e_m_b, e_m_b2, e_nb_m, e_nb_w, e_nb_b, e_nb_b2, e_w_m, e_w_nb, e_w_b, e_w_b2, e_b_m, e_b_nb, e_b_w, e_b_b2, e_b2_m, e_b2_nb, e_b2_w, e_b2_b]) ?_ | refine leX_strip (by first | exact .inr (by assumption) | exact .inl (by simp)) ?_)))
      · rw [IntWalk.i64_in _ (by omega)]
        congr 1
        omega
open Go.Proofs
set_option linter.unusedVariables false
set_option linter.unusedSimpArgs false
def keep215 : List Nat := [0, 2]
def ib215 : List Nat := []
def mk215 : Marks := fun _ => ([], .nil, [])
theorem l01Neg (a : Int) (ha : Num a) : Fn0 Tryz.prog 215 [I a] (I ((0 - a) % 1000003)) := by
  unfold Num at ha
  refine fn0F 6 keep215 ib215 mk215 mix Tryz.func215 rfl (by kernel_rfl) (by simp) fun h => ?_
  simp (maxSteps := 1000000) -dsimp -implicitDefEqProofs only [go_sem, ↓reduceIte, keep215, ib215, mk215, Tryz.f215]
  rw [IntWalk.i64_in _ (by omega)]
  first | refine HFnF.mk (specResidue (0 - a)) ?_ | refine CallSF.mk (specResidue (0 - a)) ?_ | refine HFnF.mkAt (specResidue (0 - a)) ?_ | refine CallSF.mk (FnAt.fn0 (specResidue (0 - a))) ?_
  simp (maxSteps := 1000000) -dsimp -implicitDefEqProofs only [go_sem, ↓reduceIte, keep215, ib215, mk215, Tryz.f215]
def keep278 : List Nat := [0, 2, 3, 4, 6, 8]
def ib278 : List Nat := []
def mk278 : Marks := fun _ => ([], .nil, [])
theorem l04Op (k : Int) (hk : k = 3 ∨ k = 4 ∨ k = 5 ∨ k = 6) : Fn0 Tryz.prog 278 [I k] (I k) := by
  refine fn0F 10 keep278 ib278 mk278 mix Tryz.func278 rfl (by kernel_rfl) (by simp) fun h => ?_
  simp (maxSteps := 1000000) -dsimp -implicitDefEqProofs only [go_sem, ↓reduceIte, keep278, ib278, mk278, Tryz.f278]
  refine ⟨fun q => by rw [q], fun q => ⟨fun q4 => by rw [q4], fun q4 => ⟨fun q5 => by rw [q5], fun q5 => ?_⟩⟩⟩
  rw [show k = 6 by omega]
def keep279 : List Nat := [0, 1, 2, 6, 7, 8, 13, 18]
def ib279 : List Nat := []
def mk279 : Marks := fun _ => ([], .nil, [])
set_option maxRecDepth 100000 in
theorem l04Value (k a b v : Int) (ha : Num a) (hb : Num b) (hk : k = 3 ∨ k = 4 ∨ k = 5 ∨ k = 6) (hv : opV k a b = some v) : Fn0 Tryz.prog 279 [I k, I a, I b] (I v) := by
  have hni : Num (invN b) := num_inv b
  refine fn0F 27 keep279 ib279 mk279 mix Tryz.func279 rfl (by kernel_rfl) (by simp) fun h => ?_
  simp (maxSteps := 1000000) -dsimp -implicitDefEqProofs only [go_sem, ↓reduceIte, keep279, ib279, mk279, Tryz.f279]
  refine ⟨fun q => ?_, fun q => ⟨fun q4 => ?_, fun q4 => ⟨fun q5 => ?_, fun q5 => ?_⟩⟩⟩
  · first | refine HFnF.mk (specPlus a b) ?_ | refine CallSF.mk (specPlus a b) ?_ | refine HFnF.mkAt (specPlus a b) ?_ | refine CallSF.mk (FnAt.fn0 (specPlus a b)) ?_
    simp (maxSteps := 1000000) -dsimp -implicitDefEqProofs only [go_sem, ↓reduceIte, keep279, ib279, mk279, Tryz.f279]
    unfold opV at hv; rw [if_pos q] at hv; rw [Option.some.inj hv]
  · first | refine HFnF.mk (l01Minus a b ha hb) ?_ | refine CallSF.mk (l01Minus a b ha hb) ?_ | refine HFnF.mkAt (l01Minus a b ha hb) ?_ | refine CallSF.mk (FnAt.fn0 (l01Minus a b ha hb)) ?_
    simp (maxSteps := 1000000) -dsimp -implicitDefEqProofs only [go_sem, ↓reduceIte, keep279, ib279, mk279, Tryz.f279]
    unfold opV at hv; rw [if_neg q, if_pos q4] at hv; rw [Option.some.inj hv]
  · first | refine HFnF.mk (specTimes a b ha hb) ?_ | refine CallSF.mk (specTimes a b ha hb) ?_ | refine HFnF.mkAt (specTimes a b ha hb) ?_ | refine CallSF.mk (FnAt.fn0 (specTimes a b ha hb)) ?_
    simp (maxSteps := 1000000) -dsimp -implicitDefEqProofs only [go_sem, ↓reduceIte, keep279, ib279, mk279, Tryz.f279]
    unfold opV at hv; rw [if_neg q, if_neg q4, if_pos q5] at hv; rw [Option.some.inj hv]
  · first | refine HFnF.mk (l01Inv b) ?_ | refine CallSF.mk (l01Inv b) ?_ | refine HFnF.mkAt (l01Inv b) ?_ | refine CallSF.mk (FnAt.fn0 (l01Inv b)) ?_
    simp (maxSteps := 1000000) -dsimp -implicitDefEqProofs only [go_sem, ↓reduceIte, keep279, ib279, mk279, Tryz.f279]
    first | refine HFnF.mk (specTimes a (invN b) ha hni) ?_ | refine CallSF.mk (specTimes a (invN b) ha hni) ?_ | refine HFnF.mkAt (specTimes a (invN b) ha hni) ?_ | refine CallSF.mk (FnAt.fn0 (specTimes a (invN b) ha hni)) ?_
    simp (maxSteps := 1000000) -dsimp -implicitDefEqProofs only [go_sem, ↓reduceIte, keep279, ib279, mk279, Tryz.f279]
    unfold opV at hv
    rw [if_neg q, if_neg q4, if_neg q5, if_neg (by omega)] at hv
    by_cases hz : b = 0
    · rw [if_pos hz] at hv; cases hv
    · rw [if_neg hz] at hv; rw [Option.some.inj hv]
/-- What the spec's recorder makes of an expression whose evaluation has no error. -/
def keep239 : List Nat := [0, 1, 2, 6, 7, 8, 9, 10, 11, 12, 13, 17, 18, 31, 40, 62, 94, 111, 133]
def ib239 : List Nat := [89, 130]
def mk239 : Marks := fun id => match id with | 3 => ([10], (.op 0 (.op 1 (.op 2 (.op 3 (.op 4 (.op 5 (.op 6 (.op 7 (.op 8 (.op 9 (.op 10 (.op 11 .nil)))))))))))), []) | 18 => ([7, 10, 11], (.op 0 (.op 1 (.op 2 (.op 3 (.op 4 (.op 5 (.op 6 (.op 8 (.op 9 (.op 7 (.op 10 (.op 11 (.op 12 .nil))))))))))))), []) | 25 => ([9, 12, 16, 19, 20, 21], (.op 0 (.op 1 (.op 2 (.op 3 (.op 4 (.op 5 (.op 6 (.op 7 (.op 8 (.op 10 (.op 13 (.op 14 (.op 15 (.op 17 (.op 9 (.op 11 (.op 12 (.op 16 (.op 18 (.op 19 (.op 20 (.op 21 (.op 22 .nil))))))))))))))))))))))), []) | _ => ([], .nil, [])
def ExprAt (p : DProgram) (inp : Int) (n : Nat) : Prop := ∀ (h0 h : Heap) (nb st : Nat) (e : DExpr) (env : List Int) (S : RSt) (funcs : Int) (k : Int) (S' : RSt) (t : Nat), RecInG (specBox p inp) h0 nb S h → st ≤ 3000 → e.ok p funcs env.length → 0 ≤ funcs → funcs ≤ p.fFuncs.length → Good inp S st → (∀ x ∈ env, inR S x) → env.length ≤ 412 + st → recE p n st e env S = .ok ((k, S'), t) →
  HFn Tryz.prog 239 [.op nb 6 0 0, .ip 5 [e.c] 0 0, ints env] h fun r h' => r = I k ∧ RecInG (specBox p inp) h0 nb S' h'
theorem andThen_inv {α β : Type} {X : Out α} {F : α → Nat → Out β} {v : β} {t : Nat} (h : X.andThen F = .ok (v, t)) : ∃ w u, X = .ok (w, u) ∧ F w u = .ok (v, t) := by
  cases X with
  | ok q => exact ⟨q.1, q.2, rfl, h⟩
  | error c => cases h
theorem seqR_app (ev : Nat → DExpr → RSt → Out (Int × RSt)) (b : List DExpr) : ∀ (a : List DExpr) (t : Nat) (S : RSt), seqR ev (a ++ b) t S = (seqR ev a t S).andThen fun q t => (seqR ev b t q.2).andThen fun r t => .ok ((q.1 ++ r.1, r.2), t)
  | [], t, S => by
    show seqR ev b t S = (seqR ev b t S).andThen fun r t => .ok (([] ++ r.1, r.2), t)
    cases seqR ev b t S with
    | ok q => rfl
    | error c => rfl
  | x :: a, t, S => by
    simp only [List.cons_append, seqR, seqR_app ev b a, Out.andThen_assoc, Out.andThen_ok]
/-- The next of a list that is evaluated without an error. -/
theorem seqR_next {ev : Nat → DExpr → RSt → Out (Int × RSt)} {l : List DExpr} {st : Nat} {S : RSt} {v : List Int × RSt} {t : Nat} (h : seqR ev l st S = .ok (v, t)) {k : Nat} (hk : k < l.length) {vs : List Int} {S1 : RSt} {t1 : Nat} (h1 : seqR ev (l.take k) st S = .ok ((vs, S1), t1)) :
    ∃ j S2 t2, ev t1 l[k] S1 = .ok ((j, S2), t2) ∧ seqR ev (l.take (k + 1)) st S = .ok ((vs ++ [j], S2), t2) := by
  have e : l = l.take k ++ (l[k] :: l.drop (k + 1)) := by rw [← List.drop_eq_getElem_cons hk, List.take_append_drop]
  rw [e, seqR_app, h1] at h
  have h' : (seqR ev (l[k] :: l.drop (k + 1)) t1 S1).andThen (fun r t => .ok ((vs ++ r.1, r.2), t)) = .ok (v, t) := h
  obtain ⟨w, u, h2, _⟩ := andThen_inv h'
  obtain ⟨r, u2, h3, _⟩ := andThen_inv h2
  refine ⟨r.1, r.2, u2, h3, ?_⟩
  rw [List.take_succ_eq_append_getElem hk, seqR_snoc, h1]
  show (ev t1 l[k] S1).andThen _ = _
  rw [h3]; rfl
open Go.Proofs
set_option linter.unusedVariables false
set_option linter.unusedSimpArgs false
def keep159 : List Nat := [0, 1, 2, 6, 7, 8, 16]
def ib159 : List Nat := [9, 29]
def mk159 : Marks := fun _ => ([], .nil, [])
set_option maxRecDepth 100000 in
theorem souts_of {p : DProgram} (hp : p.ok) {inp : Int} {n : Nat} (hv : ExprAt p inp n) (h0 h : Heap) (nb st : Nat) (f : DFunc) (env : List Int) (S : RSt) (funcs : Int) (l : List Int) (S' : RSt) (t : Nat) (hb : RecInG (specBox p inp) h0 nb S h) (hst : st ≤ 3000)
    (hl : f.fOuts.length ≤ 1048576) (hok : ∀ e ∈ f.fOuts, e.ok p funcs env.length) (hf0 : 0 ≤ funcs) (hf : funcs ≤ p.fFuncs.length) (hg : Good inp S st) (henv : ∀ x ∈ env, inR S x) (hel : env.length ≤ 412 + st) (hr : seqR (fun t e S => recE p n t e env S) f.fOuts st S = .ok ((l, S'), t)) :
    HFn Tryz.prog 159 [.op nb 6 0 0, .ip 3 [f.c] 0 0, ints env] h fun r h' => r = ints l ∧ RecInG (specBox p inp) h0 nb S' h' := by
  rw [DFunc.c_eq]
  refine fnKF 32 keep159 ib159 mk159 mix Tryz.func159 rfl (by kernel_rfl) (by simp) ?_
  simp (maxSteps := 1000000) -dsimp -implicitDefEqProofs only [go_sem, ↓reduceIte, keep159, ib159, mk159, Tryz.f159]
  refine ⟨by decide, ?_⟩
  refine loopF (keep := keep159) (ib := ib159) (mk := mk159) mix (by kernel_rfl) (fun x : Nat × List Int × RSt × Nat × Heap × Option Nat => [(0, .op nb 6 0 0), (1, .ip 3 [f.c] 0 0), (2, ints env), (7, oval 1 x.2.1.length x.2.2.2.2.2), (8, I x.1)]) (fun x => oheap x.2.2.2.2.1 (.row 1 ((x.2.1.map fun n => [I n]).map (List.map .v))) x.2.2.2.2.2) (fun x => x.1 ≤ f.fOuts.length ∧ x.2.1.length = x.1 ∧ seqR (fun t e S => recE p n t e env S) (f.fOuts.take x.1) st S = .ok ((x.2.1, x.2.2.1), x.2.2.2.1) ∧ RecInG (specBox p inp) h0 nb x.2.2.1 x.2.2.2.2.1 ∧ oside x.2.2.2.2.1 x.2.1 x.2.2.2.2.2) (fun x => f.fOuts.length - x.1) (0, [], S, st, h, none) ⟨by simp [SatL, tget, oval, DFunc.c_eq], Heap.le_refl _, Nat.zero_le _, rfl, rfl, hb, rfl⟩ ?_
  rintro ⟨k, vs, S1, t1, g, o⟩ ⟨hk, hvl, hs, hR, hos⟩
  simp only at hk hvl hs hR hos ⊢
  rw [DFunc.c_eq]
  rcases Nat.lt_or_ge k f.fOuts.length with hlt | hge
  · have ek : f.fOuts[k]? = some f.fOuts[k] := List.getElem?_eq_getElem hlt
    obtain ⟨j, S2, t2, hj, hs2⟩ := seqR_next hr hlt hs
    obtain ⟨b1, b2, b3, b4⟩ := seqR_good hp (l := f.fOuts.take k) hg hst henv (fun x hx => hok x (List.mem_of_mem_take hx)) hf _ _ hs
    simp only at b1 b2 b3
    have hsub : SubL [.op nb 6 0 0, .ip 5 (f.fOuts.map DExpr.c) k 0, ints env] [.op nb 6 0 0, .ip 5 [f.fOuts[k].c] 0 0, ints env] := .cons (.refl _) (.cons (Sub.ip (map_get hlt) (by simp)) (.cons (.refl _) .nil))
    cases o with
    | none =>
      rw [oside_none] at hos
      subst hos
      simp (maxSteps := 1000000) -dsimp -implicitDefEqProofs only [go_sem, ↓reduceIte, keep159, ib159, mk159, Tryz.f159, oval_none, oheap_none, hlt, ek]
      refine fun _ => HFnF.mkH (HFn.sub hsub (hv h0 g nb t1 f.fOuts[k] env S1 funcs j S2 t2 hR b4.2.2.2 (hok _ (List.getElem_mem _)) hf0 hf b1 (fun x hx => (henv x hx).ext b2) (by have := b4.2.2.1; omega) hj)) ?_
      rintro r h' ⟨rfl, hR2⟩
      simp (maxSteps := 1000000) -dsimp -implicitDefEqProofs only [go_sem, ↓reduceIte, keep159, ib159, mk159, Tryz.f159]
      refine ⟨Nat.zero_lt_one, Nat.zero_lt_one, Nat.zero_lt_one, fun b hb2 => ?_⟩
      refine ⟨(k + 1, [j], S2, t2, h', some b), ⟨rfl, by rw [IntWalk.i64_in _ (by omega)]; rfl⟩, Heap.le_refl _, ⟨by omega, by simp only [List.length_nil] at hvl; subst hvl; rfl, hs2, hR2, hb2⟩, by simp only; omega⟩
    | some m =>
      rw [oside_some] at hos
      simp (maxSteps := 1000000) -dsimp -implicitDefEqProofs only [go_sem, ↓reduceIte, keep159, ib159, mk159, Tryz.f159, oval_some, oheap_some, hlt, ek]
      refine fun _ => HFnF.mkH (HFn.sub hsub (hv _ _ nb t1 f.fOuts[k] env S1 funcs j S2 t2 (hR.over hos) b4.2.2.2 (hok _ (List.getElem_mem _)) hf0 hf b1 (fun x hx => (henv x hx).ext b2) (by have := b4.2.2.1; omega) hj)) ?_
      rintro r h' ⟨rfl, hR2⟩
      obtain ⟨g2, rfl, hg2, hR2⟩ := hR2.base (hR.none hos)
      simp (maxSteps := 1000000) -dsimp -implicitDefEqProofs only [go_sem, ↓reduceIte, keep159, ib159, mk159, Tryz.f159]
      refine ⟨Nat.zero_lt_one, Nat.zero_lt_one, Nat.zero_lt_one, Nat.le_refl _, by omega, by omega, fun b ⟨hbm, hb2⟩ => ?_⟩
      have d_b_m : ¬ b = m := hbm
      have d_m_b : ¬ m = b := Ne.symm d_b_m
      have e_b_m : (b = m) = False := eq_false d_b_m
      have e_m_b : (m = b) = False := eq_false d_m_b
      refine ⟨(k + 1, vs ++ [j], S2, t2, g2, some b), ⟨by rw [oval_some, List.length_append]; rfl, by rw [IntWalk.i64_in _ (by omega)]; rfl⟩, ?_, ⟨by omega, by rw [List.length_append, hvl]; rfl, hs2, hR2, hb2⟩, by simp only; omega⟩
      simp only [oheap_some]
      rw [← grow_row]
      exact le_app hg2
  · have hk' : k = f.fOuts.length := by omega
    subst hk'
    rw [List.take_length, hr] at hs
    obtain ⟨rfl, rfl⟩ := Prod.mk.inj (Prod.mk.inj (Except.ok.inj hs)).1
    cases o with
    | none =>
      rw [oside_none] at hos
      subst hos
      simp (maxSteps := 1000000) -dsimp -implicitDefEqProofs only [go_sem, ↓reduceIte, keep159, ib159, mk159, Tryz.f159, oval_none, oheap_none, Nat.lt_irrefl, Int.lt_irrefl]
      exact fun _ => ⟨ints [], _, Shift.of (Sub.loose _ _ _) (Heap.le_refl _), rfl, hR⟩
    | some m =>
      rw [oside_some] at hos
      simp (maxSteps := 1000000) -dsimp -implicitDefEqProofs only [go_sem, ↓reduceIte, keep159, ib159, mk159, Tryz.f159, oval_some, oheap_some, Nat.lt_irrefl, Int.lt_irrefl]
      exact fun _ => ⟨ints l, g, shift_ints l hos (Heap.le_refl _) rfl, rfl, hR⟩
open Go.Proofs
set_option linter.unusedVariables false
set_option linter.unusedSimpArgs false
theorem New.single {h g : Heap} {m : Nat} {o : HObj} (w : New h [(m, o)] g) : h m = none ∧ g = upd h m o := by
  refine ⟨w.fresh m (by simp [namesOf]), ?_⟩
  funext q
  by_cases e : q = m
  · subst e; rw [upd_same]; exact w.owns (q, o) (by simp)
  · rw [upd_ne _ _ _ _ e]; exact w.upto q (by simpa [namesOf] using e)
set_option maxRecDepth 100000 in
theorem rexpr_1 {p : DProgram} (hp : p.ok) {inp : Int} {n : Nat} (hv : ExprAt p inp n) {h0 h : Heap} {nb st : Nat} {e : DExpr} {env : List Int} {S : RSt} {funcs : Int} {k : Int} {S' : RSt} {t : Nat} (hR : RecInG (specBox p inp) h0 nb S h) (hst : st < 3000)
    (hok : e.ok p funcs env.length) (hf0 : 0 ≤ funcs) (hf : funcs ≤ p.fFuncs.length) (hg : Good inp S st) (henv : ∀ x ∈ env, inR S x) (hel : env.length ≤ 412 + st) (hr : recE p (n + 1) st e env S = .ok ((k, S'), t)) (hk : e.fKind = 1) :
    HFn Tryz.prog 239 [.op nb 6 0 0, .ip 5 [e.c] 0 0, ints env] h fun r h' => r = I k ∧ RecInG (specBox p inp) h0 nb S' h' := by
  rw [DExpr.c_eq]
  have hnode := (DExpr.ok_iff _ _ _ _).1 hok
  have h3 : ¬ st = 3000 := by omega
  have hcap := hg.cap
  have hgcap := hg.gcap
  have hg1 := hg.later (Nat.le_succ st)
  rw [recE_1 h3 hk] at hr
  cases hr
  refine fnKF 183 keep239 ib239 mk239 mix Tryz.func239 rfl (by kernel_rfl) (by simp) ?_
  simp (maxSteps := 1000000) -dsimp -implicitDefEqProofs only [go_sem, ↓reduceIte, keep239, ib239, mk239, Tryz.f239, hk]
  refine HFnF.mkH (add_of hR ⟨2, 0, 0, e.fNum⟩ e.fNum hg.len (by omega)) ?_
  rintro r h' ⟨rfl, hR2⟩
  simp (maxSteps := 1000000) -dsimp -implicitDefEqProofs only [go_sem, ↓reduceIte, keep239, ib239, mk239, Tryz.f239]
  exact ⟨_, _, shift_self _ _, rfl, hR2⟩
set_option maxRecDepth 100000 in
theorem rexpr_2 {p : DProgram} (hp : p.ok) {inp : Int} {n : Nat} (hv : ExprAt p inp n) {h0 h : Heap} {nb st : Nat} {e : DExpr} {env : List Int} {S : RSt} {funcs : Int} {k : Int} {S' : RSt} {t : Nat} (hR : RecInG (specBox p inp) h0 nb S h) (hst : st < 3000)
    (hok : e.ok p funcs env.length) (hf0 : 0 ≤ funcs) (hf : funcs ≤ p.fFuncs.length) (hg : Good inp S st) (henv : ∀ x ∈ env, inR S x) (hel : env.length ≤ 412 + st) (hr : recE p (n + 1) st e env S = .ok ((k, S'), t)) (hk : e.fKind = 2) :
    HFn Tryz.prog 239 [.op nb 6 0 0, .ip 5 [e.c] 0 0, ints env] h fun r h' => r = I k ∧ RecInG (specBox p inp) h0 nb S' h' := by
  rw [DExpr.c_eq]
  have hnode := (DExpr.ok_iff _ _ _ _).1 hok
  have h3 : ¬ st = 3000 := by omega
  have hcap := hg.cap
  have hgcap := hg.gcap
  have hg1 := hg.later (Nat.le_succ st)
  rw [recE_2 h3 hk] at hr
  cases hr
  have hnum := ((nodeOK_plain (by omega)).1 hnode.1).2.2.2.2.1 hk
  have hlt : e.fNum.toNat < env.length := by omega
  refine fnKF 183 keep239 ib239 mk239 mix Tryz.func239 rfl (by kernel_rfl) (by simp) ?_
  simp (maxSteps := 1000000) -dsimp -implicitDefEqProofs only [go_sem, ↓reduceIte, keep239, ib239, mk239, Tryz.f239, hk, getD_get hlt]
  exact ⟨hnum.1, by omega, _, _, shift_self _ _, rfl, hR⟩
set_option maxRecDepth 100000 in
theorem rexpr_9 {p : DProgram} (hp : p.ok) {inp : Int} {n : Nat} (hv : ExprAt p inp n) {h0 h : Heap} {nb st : Nat} {e : DExpr} {env : List Int} {S : RSt} {funcs : Int} {k : Int} {S' : RSt} {t : Nat} (hR : RecInG (specBox p inp) h0 nb S h) (hst : st < 3000)
    (hok : e.ok p funcs env.length) (hf0 : 0 ≤ funcs) (hf : funcs ≤ p.fFuncs.length) (hg : Good inp S st) (henv : ∀ x ∈ env, inR S x) (hel : env.length ≤ 412 + st) (hr : recE p (n + 1) st e env S = .ok ((k, S'), t)) (hk : e.fKind = 9) :
    HFn Tryz.prog 239 [.op nb 6 0 0, .ip 5 [e.c] 0 0, ints env] h fun r h' => r = I k ∧ RecInG (specBox p inp) h0 nb S' h' := by
  rw [DExpr.c_eq]
  have hnode := (DExpr.ok_iff _ _ _ _).1 hok
  have h3 : ¬ st = 3000 := by omega
  have hcap := hg.cap
  have hgcap := hg.gcap
  have hg1 := hg.later (Nat.le_succ st)
  have hlen := kids_len hok (by omega)
  rw [hk, show kidsN 9 = 2 from rfl] at hlen
  have g0 : e.fKids[Int.toNat 0]? = some (e.kid 0) := DExpr.kid_get (by omega)
  have g1 : e.fKids[Int.toNat 1]? = some (e.kid 1) := DExpr.kid_get (by omega)
  have o0 := DExpr.kid_ok hok (i := 0) (by omega)
  have o1 := DExpr.kid_ok hok (i := 1) (by omega)
  rw [moreV_ne (by omega)] at o0
  rw [hk, show moreV 9 1 (env.length : Int) = env.length + 1 from rfl] at o1
  rw [recE_9 h3 hk] at hr
  obtain ⟨⟨k1, S1⟩, t1, e1, e2⟩ := andThen_inv hr
  obtain ⟨b1, b2, b3, b4⟩ := recE_ok hp n (st + 1) (e.kid 0) env S funcs o0 hf hg1 (by omega) henv _ _ e1
  simp only at b1 b2 b3
  have hsub : ∀ (i : Nat), i < e.fKids.length → SubL [.op nb 6 0 0, .ip 5 (e.fKids.map DExpr.c) i 0, ints env] [.op nb 6 0 0, .ip 5 [(e.kid i).c] 0 0, ints env] := fun i hi => by
    rw [DExpr.kid_eq hi]
    exact .cons (.refl _) (.cons (Sub.ip (map_get hi) (by simp)) (.cons (.refl _) .nil))
  refine fnKF 183 keep239 ib239 mk239 mix Tryz.func239 rfl (by kernel_rfl) (by simp) ?_
  simp (maxSteps := 1000000) -dsimp -implicitDefEqProofs only [go_sem, ↓reduceIte, keep239, ib239, mk239, Tryz.f239, hk]
  refine ⟨by omega, HFnF.mkH (HFn.sub (hsub 0 (by omega)) (hv h0 _ nb (st + 1) (e.kid 0) env S funcs k1 S1 t1 hR (by omega) o0 hf0 hf hg1 henv (by omega) e1)) ?_⟩
  rintro r h' ⟨rfl, hR2⟩
  simp (maxSteps := 1000000) -dsimp -implicitDefEqProofs only [go_sem, ↓reduceIte, keep239, ib239, mk239, Tryz.f239]
  refine ⟨by omega, by decide, by decide, HFnF.wn0 (l00Own env (by omega)) ?_⟩
  rintro r l g ⟨y, oy, rfl, rfl⟩ wn
  have hok2 : ∀ x ∈ env ++ [k1], inR S1 x := fun x hx => by
    rcases List.mem_append.1 hx with hx | hx
    · exact (henv x hx).ext b2
    · rw [List.mem_singleton.1 hx]; exact b3
  have hfin : ∀ {h1 g1 : Heap}, RecInG (specBox p inp) h1 nb S1 g1 → HFn Tryz.prog 239 [.op nb 6 0 0, .ip 5 (e.fKids.map DExpr.c) 1 0, ints (env ++ [k1])] g1 fun r h' => r = I k ∧ RecInG (specBox p inp) h1 nb S' h' := fun hR3 =>
    HFn.sub (.cons (.refl _) (.cons (by rw [DExpr.kid_eq (show 1 < e.fKids.length by omega)]; exact Sub.ip (map_get (by omega)) (by simp)) (.cons (.refl _) .nil))) (hv _ _ nb t1 (e.kid 1) (env ++ [k1]) S1 funcs k S' t hR3 b4.2.2.2 (by rw [List.length_append]; exact o1) hf0 hf b1 hok2 (by rw [List.length_append]; have := b4.2.2.1; show env.length + 1 ≤ _; omega) e2)
  rcases oy.prim with ⟨rfl, rfl⟩ | ⟨m, rfl⟩
  · rw [OV.nil_rows] at wn
    have hgh : g = h' := funext fun q => wn.upto q (by simp [namesOf])
    subst hgh
    simp (maxSteps := 1000000) -dsimp -implicitDefEqProofs only [go_sem, ↓reduceIte, keep239, ib239, mk239, Tryz.f239, OV.val]
    refine ⟨by decide, fun b hb2 => ?_⟩
    have d_nb_b : ¬ nb = b := fun e => by obtain ⟨_, _, _, H2⟩ := hR2; have := H2.box; rw [e, hb2] at this; cases this
    have d_b_nb : ¬ b = nb := Ne.symm d_nb_b
    have e_nb_b : (nb = b) = False := eq_false d_nb_b
    have e_b_nb : (b = nb) = False := eq_false d_b_nb
    refine HFnF.giveX (x := .ip 5 (e.fKids.map DExpr.c) 1 0) (es := [[I k1]]) (len := 1) rfl rfl d_nb_b rfl hb2 ?_
    refine HFn.mono (hfin (hR2.over (o := .gone) hb2)) ?_
    rintro r h2 ⟨rfl, hR3⟩
    obtain ⟨g3, rfl, hg3, hR3⟩ := hR3.base (hR2.none hb2)
    simp (maxSteps := 1000000) -dsimp -implicitDefEqProofs only [go_sem, ↓reduceIte, keep239, ib239, mk239, Tryz.f239]
    exact ⟨_, g3, shift_le (Heap.le_upd hg3 (Heap.le_refl _)), rfl, hR3⟩
  · rw [OV.sl_rows, rows_map, cells_map] at wn
    obtain ⟨hm, rfl⟩ := wn.single
    simp (maxSteps := 1000000) -dsimp -implicitDefEqProofs only [go_sem, ↓reduceIte, keep239, ib239, mk239, Tryz.f239, OV.val]
    refine ⟨by decide, Nat.le_refl _, by omega, by omega, fun b ⟨hbm, hb2⟩ => ?_⟩
    have d_b_m : ¬ b = m := hbm
    have d_m_b : ¬ m = b := Ne.symm d_b_m
    have e_b_m : (b = m) = False := eq_false d_b_m
    have e_m_b : (m = b) = False := eq_false d_m_b
    have d_nb_b : ¬ nb = b := fun e => by obtain ⟨_, _, _, H2⟩ := hR2; have := H2.box; rw [e, hb2] at this; cases this
    have d_b_nb : ¬ b = nb := Ne.symm d_nb_b
    have e_nb_b : (nb = b) = False := eq_false d_nb_b
    have e_b_nb : (b = nb) = False := eq_false d_b_nb
    have hb3 : (upd h' m .gone) b = none := by rw [upd_ne _ _ _ _ hbm]; exact hb2
    rw [upd_upd, List.take_of_length_le (by simp), show (env.map fun x => [I x]).map (List.map Cell.v) ++ [[Cell.v (HVal.int .i64 k1)]] = ((env ++ [k1]).map fun n => [I n]).map (List.map .v) by simp]
    refine HFnF.giveX (x := .ip 5 (e.fKids.map DExpr.c) 1 0) (es := (env ++ [k1]).map fun n => [I n]) (len := env.length + 1) rfl rfl d_nb_b (by simp) hb3 ?_
    refine HFn.mono (hfin ((hR2.over (o := .gone) hm).over (o := .gone) hb3)) ?_
    rintro r h2 ⟨rfl, hR3⟩
    obtain ⟨g3, rfl, hg3, hR3⟩ := hR3.base ((hR2.over (o := .gone) hm).none hb3)
    obtain ⟨g4, rfl, hg4, hR3⟩ := hR3.base (hR2.none hm)
    rw [upd_ne _ _ _ _ hbm] at hg3
    simp (maxSteps := 1000000) -dsimp -implicitDefEqProofs only [go_sem, ↓reduceIte, keep239, ib239, mk239, Tryz.f239]
    exact ⟨_, g4, shift_le (Heap.le_upd hg3 (Heap.le_upd hg4 (Heap.le_refl _))), rfl, hR3⟩
set_option maxRecDepth 100000 in
theorem rexpr_7 {p : DProgram} (hp : p.ok) {inp : Int} {n : Nat} (hv : ExprAt p inp n) {h0 h : Heap} {nb st : Nat} {e : DExpr} {env : List Int} {S : RSt} {funcs : Int} {k : Int} {S' : RSt} {t : Nat} (hR : RecInG (specBox p inp) h0 nb S h) (hst : st < 3000)
    (hok : e.ok p funcs env.length) (hf0 : 0 ≤ funcs) (hf : funcs ≤ p.fFuncs.length) (hg : Good inp S st) (henv : ∀ x ∈ env, inR S x) (hel : env.length ≤ 412 + st) (hr : recE p (n + 1) st e env S = .ok ((k, S'), t)) (hk : e.fKind = 7) :
    HFn Tryz.prog 239 [.op nb 6 0 0, .ip 5 [e.c] 0 0, ints env] h fun r h' => r = I k ∧ RecInG (specBox p inp) h0 nb S' h' := by
  rw [DExpr.c_eq]
  have hnode := (DExpr.ok_iff _ _ _ _).1 hok
  have h3 : ¬ st = 3000 := by omega
  have hcap := hg.cap
  have hgcap := hg.gcap
  have hg1 := hg.later (Nat.le_succ st)
  have hlen := kids_len hok (by omega)
  rw [hk, show kidsN 7 = 1 from rfl] at hlen
  have o0 := kids_ok hok (by omega)
  rw [recE_op h3 (by omega)] at hr
  obtain ⟨⟨vs, S1⟩, t1, e1, e2⟩ := andThen_inv hr
  obtain ⟨b1, b2, b3, b4⟩ := seqR_good hp hg1 (by omega) henv o0 hf _ _ e1
  simp only at b1 b2 b3
  obtain ⟨j, S2, t2, hj, hs2⟩ := seqR_next e1 (k := 0) (by omega) (vs := []) (S1 := S) (t1 := st + 1) rfl
  rw [List.take_of_length_le (by omega), e1] at hs2
  obtain ⟨rfl, rfl⟩ := Prod.mk.inj (Prod.mk.inj (Except.ok.inj hs2)).1
  obtain rfl := (Prod.mk.inj (Except.ok.inj hs2)).2
  have hsub : SubL [.op nb 6 0 0, .ip 5 (e.fKids.map DExpr.c) 0 0, ints env] [.op nb 6 0 0, .ip 5 [e.fKids[0].c] 0 0, ints env] := .cons (.refl _) (.cons (Sub.ip (map_get (by omega)) (by simp)) (.cons (.refl _) .nil))
  have hj0 : inR S1 j := b3.2 j (by simp)
  have hvj := b1.val j
  refine fnKF 183 keep239 ib239 mk239 mix Tryz.func239 rfl (by kernel_rfl) (by simp) ?_
  simp (maxSteps := 1000000) -dsimp -implicitDefEqProofs only [go_sem, ↓reduceIte, keep239, ib239, mk239, Tryz.f239, hk]
  refine ⟨by omega, HFnF.mkH (HFn.sub hsub (hv h0 _ nb (st + 1) e.fKids[0] env S funcs j S1 t1 hR (by omega) (o0 _ (List.getElem_mem _)) hf0 hf hg1 henv (by omega) hj)) ?_⟩
  rintro r h' ⟨rfl, ⟨om, og, ov, H1⟩⟩
  obtain ⟨w, rfl, hw, dw⟩ := H1.row hj0
  have hb1 := H1.box
  unfold specBox at hb1
  rw [onil_some] at hb1
  have rk := rowsOf_get hj0
  have k0 := hj0.1
  have k2 := hj0.2
  have lw := rowsOf_len (fun n => [I n]) S1.vals
  simp (maxSteps := 1000000) -dsimp -implicitDefEqProofs only [go_sem, ↓reduceIte, keep239, ib239, mk239, Tryz.f239, hb1, hw, rk]
  refine ⟨k0, by omega, ?_⟩
  first | refine HFnF.mk (l01Neg (S1.val j) hvj) ?_ | refine CallSF.mk (l01Neg (S1.val j) hvj) ?_ | refine HFnF.mkAt (l01Neg (S1.val j) hvj) ?_ | refine CallSF.mk (FnAt.fn0 (l01Neg (S1.val j) hvj)) ?_
  simp (maxSteps := 1000000) -dsimp -implicitDefEqProofs only [go_sem, ↓reduceIte, keep239, ib239, mk239, Tryz.f239]
  have e3 : opR 7 [j] S1 t1 = .ok (((S1.vals.length : Int), S1.put ⟨7, j, 0, 0⟩ ((0 - S1.val j) % 1000003)), t1) := rfl
  rw [hk] at e2
  have e4 := e3.symm.trans e2
  have e5 := (Prod.mk.inj (Prod.mk.inj (Except.ok.inj e4)).1)
  unfold incR at b4
  simp only at b4
  refine HFnF.mkH (add_of ⟨om, og, some w, H1⟩ ⟨7, j, 0, 0⟩ ((0 - S1.val j) % 1000003) b1.len (by have := b1.cap; omega)) ?_
  rintro r h2 ⟨rfl, hR2⟩
  simp (maxSteps := 1000000) -dsimp -implicitDefEqProofs only [go_sem, ↓reduceIte, keep239, ib239, mk239, Tryz.f239]
  rw [e5.2] at hR2
  exact ⟨_, _, shift_self _ _, by rw [e5.1], hR2⟩
set_option maxRecDepth 100000 in
theorem rexpr_3 {p : DProgram} (hp : p.ok) {inp : Int} {n : Nat} (hv : ExprAt p inp n) {h0 h : Heap} {nb st : Nat} {e : DExpr} {env : List Int} {S : RSt} {funcs : Int} {k : Int} {S' : RSt} {t : Nat} (hR : RecInG (specBox p inp) h0 nb S h) (hst : st < 3000)
    (hok : e.ok p funcs env.length) (hf0 : 0 ≤ funcs) (hf : funcs ≤ p.fFuncs.length) (hg : Good inp S st) (henv : ∀ x ∈ env, inR S x) (hel : env.length ≤ 412 + st) (hr : recE p (n + 1) st e env S = .ok ((k, S'), t)) (hk : e.fKind = 3) :
    HFn Tryz.prog 239 [.op nb 6 0 0, .ip 5 [e.c] 0 0, ints env] h fun r h' => r = I k ∧ RecInG (specBox p inp) h0 nb S' h' := by
  rw [DExpr.c_eq]
  have hnode := (DExpr.ok_iff _ _ _ _).1 hok
  have h3 : ¬ st = 3000 := by omega
  have hcap := hg.cap
  have hgcap := hg.gcap
  have hg1 := hg.later (Nat.le_succ st)
  have hlen := kids_len hok (by omega)
  rw [hk, show kidsN 3 = 2 from rfl] at hlen
  have o0 := kids_ok hok (by omega)
  rw [recE_op h3 (by omega)] at hr
  obtain ⟨⟨vs, S1⟩, t1, e1, e2⟩ := andThen_inv hr
  obtain ⟨b1, b2, b3, b4⟩ := seqR_good hp hg1 (by omega) henv o0 hf _ _ e1
  simp only at b1 b2 b3
  obtain ⟨j0, S0, t0, hj0, hs0⟩ := seqR_next e1 (k := 0) (by omega) (vs := []) (S1 := S) (t1 := st + 1) rfl
  obtain ⟨c1, c2, c3, c4⟩ := recE_ok hp n (st + 1) e.fKids[0] env S funcs (o0 _ (List.getElem_mem _)) hf hg1 (by omega) henv _ _ hj0
  simp only at c1 c2 c3
  obtain ⟨j1, S2, t2, hj1, hs1⟩ := seqR_next e1 (k := 1) (by omega) hs0
  rw [List.take_of_length_le (by omega), e1] at hs1
  obtain ⟨rfl, rfl⟩ := Prod.mk.inj (Prod.mk.inj (Except.ok.inj hs1)).1
  obtain rfl := (Prod.mk.inj (Except.ok.inj hs1)).2
  have hsub : ∀ (i : Nat) (hi : i < e.fKids.length), SubL [.op nb 6 0 0, .ip 5 (e.fKids.map DExpr.c) i 0, ints env] [.op nb 6 0 0, .ip 5 [e.fKids[i].c] 0 0, ints env] := fun i hi => .cons (.refl _) (.cons (Sub.ip (map_get hi) (by simp)) (.cons (.refl _) .nil))
  have i0 : inR S1 j0 := b3.2 j0 (by simp)
  have i1 : inR S1 j1 := b3.2 j1 (by simp)
  have hv0 := b1.val j0
  have hv1 := b1.val j1
  refine fnKF 183 keep239 ib239 mk239 mix Tryz.func239 rfl (by kernel_rfl) (by simp) ?_
  simp (maxSteps := 1000000) -dsimp -implicitDefEqProofs only [go_sem, ↓reduceIte, keep239, ib239, mk239, Tryz.f239, hk]
  refine ⟨by omega, HFnF.mkH (HFn.sub (hsub 0 (by omega)) (hv h0 _ nb (st + 1) e.fKids[0] env S funcs j0 S0 t0 hR (by omega) (o0 _ (List.getElem_mem _)) hf0 hf hg1 henv (by omega) hj0)) ?_⟩
  rintro r h' ⟨rfl, hR1⟩
  simp (maxSteps := 1000000) -dsimp -implicitDefEqProofs only [go_sem, ↓reduceIte, keep239, ib239, mk239, Tryz.f239]
  refine ⟨by omega, HFnF.mkH (HFn.sub (hsub 1 (by omega)) (hv h0 _ nb t0 e.fKids[1] env S0 funcs j1 S1 t1 hR1 c4.2.2.2 (o0 _ (List.getElem_mem _)) hf0 hf c1 (fun x hx => (henv x hx).ext c2) (by have := c4.2.2.1; omega) hj1)) ?_⟩
  rintro r h2 ⟨rfl, ⟨om, og, ov, H1⟩⟩
  obtain ⟨w, rfl, hw, dw⟩ := H1.row i0
  have hb1 := H1.box
  unfold specBox at hb1
  rw [onil_some] at hb1
  have rk0 := rowsOf_get i0
  have rk1 := rowsOf_get i1
  have k0 := i0.1
  have k1 := i0.2
  have k2 := i1.1
  have k3 := i1.2
  have lw := rowsOf_len (fun n => [I n]) S1.vals
  have hop := l04Op 3 (by decide)
  try simp (maxSteps := 1000000) -dsimp -implicitDefEqProofs only [go_sem, ↓reduceIte, keep239, ib239, mk239, Tryz.f239, hk]
  first | refine HFnF.mk (hop) ?_ | refine CallSF.mk (hop) ?_ | refine HFnF.mkAt (hop) ?_ | refine CallSF.mk (FnAt.fn0 (hop)) ?_
  simp (maxSteps := 1000000) -dsimp -implicitDefEqProofs only [go_sem, ↓reduceIte, keep239, ib239, mk239, Tryz.f239]
  try simp (maxSteps := 1000000) -dsimp -implicitDefEqProofs only [go_sem, ↓reduceIte, keep239, ib239, mk239, Tryz.f239, hb1, hw, rk0, rk1]
  refine ⟨k0, by omega, k2, by omega, ?_⟩
  rw [hk] at e2
  cases hv : opV 3 (S1.val j0) (S1.val j1) with
  | none =>
    have e3 : opR 3 [j0, j1] S1 t1 = .error 6 := by
      unfold opR
      rw [show ([j0, j1].getD 0 0) = j0 from rfl, show opB 3 [j0, j1] = j1 from rfl, hv]
    have e4 := e3.symm.trans e2
    cases e4
  | some v =>
    have e3 : opR 3 [j0, j1] S1 t1 = .ok (((S1.vals.length : Int), S1.put ⟨3, j0, j1, 0⟩ v), t1) := by
      unfold opR
      rw [show ([j0, j1].getD 0 0) = j0 from rfl, show opB 3 [j0, j1] = j1 from rfl, hv]
    have e4 := e3.symm.trans e2
    have e5 := (Prod.mk.inj (Prod.mk.inj (Except.ok.inj e4)).1)
    first | refine HFnF.mk (l04Value 3 (S1.val j0) (S1.val j1) v hv0 hv1 (by decide) hv) ?_ | refine CallSF.mk (l04Value 3 (S1.val j0) (S1.val j1) v hv0 hv1 (by decide) hv) ?_ | refine HFnF.mkAt (l04Value 3 (S1.val j0) (S1.val j1) v hv0 hv1 (by decide) hv) ?_ | refine CallSF.mk (FnAt.fn0 (l04Value 3 (S1.val j0) (S1.val j1) v hv0 hv1 (by decide) hv)) ?_
    simp (maxSteps := 1000000) -dsimp -implicitDefEqProofs only [go_sem, ↓reduceIte, keep239, ib239, mk239, Tryz.f239]
    unfold incR at b4
    simp only at b4
    refine HFnF.mkH (add_of ⟨om, og, some w, H1⟩ ⟨3, j0, j1, 0⟩ v b1.len (by have := b1.cap; omega)) ?_
    rintro r h3 ⟨rfl, hR2⟩
    simp (maxSteps := 1000000) -dsimp -implicitDefEqProofs only [go_sem, ↓reduceIte, keep239, ib239, mk239, Tryz.f239]
    rw [e5.2] at hR2
    exact ⟨_, _, shift_self _ _, by rw [e5.1], hR2⟩
set_option maxRecDepth 100000 in
theorem rexpr_4 {p : DProgram} (hp : p.ok) {inp : Int} {n : Nat} (hv : ExprAt p inp n) {h0 h : Heap} {nb st : Nat} {e : DExpr} {env : List Int} {S : RSt} {funcs : Int} {k : Int} {S' : RSt} {t : Nat} (hR : RecInG (specBox p inp) h0 nb S h) (hst : st < 3000)
    (hok : e.ok p funcs env.length) (hf0 : 0 ≤ funcs) (hf : funcs ≤ p.fFuncs.length) (hg : Good inp S st) (henv : ∀ x ∈ env, inR S x) (hel : env.length ≤ 412 + st) (hr : recE p (n + 1) st e env S = .ok ((k, S'), t)) (hk : e.fKind = 4) :
    HFn Tryz.prog 239 [.op nb 6 0 0, .ip 5 [e.c] 0 0, ints env] h fun r h' => r = I k ∧ RecInG (specBox p inp) h0 nb S' h' := by
  rw [DExpr.c_eq]
  have hnode := (DExpr.ok_iff _ _ _ _).1 hok
  have h3 : ¬ st = 3000 := by omega
  have hcap := hg.cap
  have hgcap := hg.gcap
  have hg1 := hg.later (Nat.le_succ st)
  have hlen := kids_len hok (by omega)
  rw [hk, show kidsN 4 = 2 from rfl] at hlen
  have o0 := kids_ok hok (by omega)
  rw [recE_op h3 (by omega)] at hr
  obtain ⟨⟨vs, S1⟩, t1, e1, e2⟩ := andThen_inv hr
  obtain ⟨b1, b2, b3, b4⟩ := seqR_good hp hg1 (by omega) henv o0 hf _ _ e1
  simp only at b1 b2 b3
  obtain ⟨j0, S0, t0, hj0, hs0⟩ := seqR_next e1 (k := 0) (by omega) (vs := []) (S1 := S) (t1 := st + 1) rfl
  obtain ⟨c1, c2, c3, c4⟩ := recE_ok hp n (st + 1) e.fKids[0] env S funcs (o0 _ (List.getElem_mem _)) hf hg1 (by omega) henv _ _ hj0
  simp only at c1 c2 c3
  obtain ⟨j1, S2, t2, hj1, hs1⟩ := seqR_next e1 (k := 1) (by omega) hs0
  rw [List.take_of_length_le (by omega), e1] at hs1
  obtain ⟨rfl, rfl⟩ := Prod.mk.inj (Prod.mk.inj (Except.ok.inj hs1)).1
  obtain rfl := (Prod.mk.inj (Except.ok.inj hs1)).2
  have hsub : ∀ (i : Nat) (hi : i < e.fKids.length), SubL [.op nb 6 0 0, .ip 5 (e.fKids.map DExpr.c) i 0, ints env] [.op nb 6 0 0, .ip 5 [e.fKids[i].c] 0 0, ints env] := fun i hi => .cons (.refl _) (.cons (Sub.ip (map_get hi) (by simp)) (.cons (.refl _) .nil))
  have i0 : inR S1 j0 := b3.2 j0 (by simp)
  have i1 : inR S1 j1 := b3.2 j1 (by simp)
  have hv0 := b1.val j0
  have hv1 := b1.val j1
  refine fnKF 183 keep239 ib239 mk239 mix Tryz.func239 rfl (by kernel_rfl) (by simp) ?_
  simp (maxSteps := 1000000) -dsimp -implicitDefEqProofs only [go_sem, ↓reduceIte, keep239, ib239, mk239, Tryz.f239, hk]
  refine ⟨by omega, HFnF.mkH (HFn.sub (hsub 0 (by omega)) (hv h0 _ nb (st + 1) e.fKids[0] env S funcs j0 S0 t0 hR (by omega) (o0 _ (List.getElem_mem _)) hf0 hf hg1 henv (by omega) hj0)) ?_⟩
  rintro r h' ⟨rfl, hR1⟩
  simp (maxSteps := 1000000) -dsimp -implicitDefEqProofs only [go_sem, ↓reduceIte, keep239, ib239, mk239, Tryz.f239]
  refine ⟨by omega, HFnF.mkH (HFn.sub (hsub 1 (by omega)) (hv h0 _ nb t0 e.fKids[1] env S0 funcs j1 S1 t1 hR1 c4.2.2.2 (o0 _ (List.getElem_mem _)) hf0 hf c1 (fun x hx => (henv x hx).ext c2) (by have := c4.2.2.1; omega) hj1)) ?_⟩
  rintro r h2 ⟨rfl, ⟨om, og, ov, H1⟩⟩
  obtain ⟨w, rfl, hw, dw⟩ := H1.row i0
  have hb1 := H1.box
  unfold specBox at hb1
  rw [onil_some] at hb1
  have rk0 := rowsOf_get i0
  have rk1 := rowsOf_get i1
  have k0 := i0.1
  have k1 := i0.2
  have k2 := i1.1
  have k3 := i1.2
  have lw := rowsOf_len (fun n => [I n]) S1.vals
  have hop := l04Op 4 (by decide)
  try simp (maxSteps := 1000000) -dsimp -implicitDefEqProofs only [go_sem, ↓reduceIte, keep239, ib239, mk239, Tryz.f239, hk]
  first | refine HFnF.mk (hop) ?_ | refine CallSF.mk (hop) ?_ | refine HFnF.mkAt (hop) ?_ | refine CallSF.mk (FnAt.fn0 (hop)) ?_
  simp (maxSteps := 1000000) -dsimp -implicitDefEqProofs only [go_sem, ↓reduceIte, keep239, ib239, mk239, Tryz.f239]
  try simp (maxSteps := 1000000) -dsimp -implicitDefEqProofs only [go_sem, ↓reduceIte, keep239, ib239, mk239, Tryz.f239, hb1, hw, rk0, rk1]
  refine ⟨k0, by omega, k2, by omega, ?_⟩
  rw [hk] at e2
  cases hv : opV 4 (S1.val j0) (S1.val j1) with
  | none =>
    have e3 : opR 4 [j0, j1] S1 t1 = .error 6 := by
      unfold opR
      rw [show ([j0, j1].getD 0 0) = j0 from rfl, show opB 4 [j0, j1] = j1 from rfl, hv]
    have e4 := e3.symm.trans e2
    cases e4
  | some v =>
    have e3 : opR 4 [j0, j1] S1 t1 = .ok (((S1.vals.length : Int), S1.put ⟨4, j0, j1, 0⟩ v), t1) := by
      unfold opR
      rw [show ([j0, j1].getD 0 0) = j0 from rfl, show opB 4 [j0, j1] = j1 from rfl, hv]
    have e4 := e3.symm.trans e2
    have e5 := (Prod.mk.inj (Prod.mk.inj (Except.ok.inj e4)).1)
    first | refine HFnF.mk (l04Value 4 (S1.val j0) (S1.val j1) v hv0 hv1 (by decide) hv) ?_ | refine CallSF.mk (l04Value 4 (S1.val j0) (S1.val j1) v hv0 hv1 (by decide) hv) ?_ | refine HFnF.mkAt (l04Value 4 (S1.val j0) (S1.val j1) v hv0 hv1 (by decide) hv) ?_ | refine CallSF.mk (FnAt.fn0 (l04Value 4 (S1.val j0) (S1.val j1) v hv0 hv1 (by decide) hv)) ?_
    simp (maxSteps := 1000000) -dsimp -implicitDefEqProofs only [go_sem, ↓reduceIte, keep239, ib239, mk239, Tryz.f239]
    unfold incR at b4
    simp only at b4
    refine HFnF.mkH (add_of ⟨om, og, some w, H1⟩ ⟨4, j0, j1, 0⟩ v b1.len (by have := b1.cap; omega)) ?_
    rintro r h3 ⟨rfl, hR2⟩
    simp (maxSteps := 1000000) -dsimp -implicitDefEqProofs only [go_sem, ↓reduceIte, keep239, ib239, mk239, Tryz.f239]
    rw [e5.2] at hR2
    exact ⟨_, _, shift_self _ _, by rw [e5.1], hR2⟩
set_option maxRecDepth 100000 in
theorem rexpr_5 {p : DProgram} (hp : p.ok) {inp : Int} {n : Nat} (hv : ExprAt p inp n) {h0 h : Heap} {nb st : Nat} {e : DExpr} {env : List Int} {S : RSt} {funcs : Int} {k : Int} {S' : RSt} {t : Nat} (hR : RecInG (specBox p inp) h0 nb S h) (hst : st < 3000)
    (hok : e.ok p funcs env.length) (hf0 : 0 ≤ funcs) (hf : funcs ≤ p.fFuncs.length) (hg : Good inp S st) (henv : ∀ x ∈ env, inR S x) (hel : env.length ≤ 412 + st) (hr : recE p (n + 1) st e env S = .ok ((k, S'), t)) (hk : e.fKind = 5) :
    HFn Tryz.prog 239 [.op nb 6 0 0, .ip 5 [e.c] 0 0, ints env] h fun r h' => r = I k ∧ RecInG (specBox p inp) h0 nb S' h' := by
  rw [DExpr.c_eq]
  have hnode := (DExpr.ok_iff _ _ _ _).1 hok
  have h3 : ¬ st = 3000 := by omega
  have hcap := hg.cap
  have hgcap := hg.gcap
  have hg1 := hg.later (Nat.le_succ st)
  have hlen := kids_len hok (by omega)
  rw [hk, show kidsN 5 = 2 from rfl] at hlen
  have o0 := kids_ok hok (by omega)
  rw [recE_op h3 (by omega)] at hr
  obtain ⟨⟨vs, S1⟩, t1, e1, e2⟩ := andThen_inv hr
  obtain ⟨b1, b2, b3, b4⟩ := seqR_good hp hg1 (by omega) henv o0 hf _ _ e1
  simp only at b1 b2 b3
  obtain ⟨j0, S0, t0, hj0, hs0⟩ := seqR_next e1 (k := 0) (by omega) (vs := []) (S1 := S) (t1 := st + 1) rfl
  obtain ⟨c1, c2, c3, c4⟩ := recE_ok hp n (st + 1) e.fKids[0] env S funcs (o0 _ (List.getElem_mem _)) hf hg1 (by omega) henv _ _ hj0
  simp only at c1 c2 c3
  obtain ⟨j1, S2, t2, hj1, hs1⟩ := seqR_next e1 (k := 1) (by omega) hs0
  rw [List.take_of_length_le (by omega), e1] at hs1
  obtain ⟨rfl, rfl⟩ := Prod.mk.inj (Prod.mk.inj (Except.ok.inj hs1)).1
  obtain rfl := (Prod.mk.inj (Except.ok.inj hs1)).2
  have hsub : ∀ (i : Nat) (hi : i < e.fKids.length), SubL [.op nb 6 0 0, .ip 5 (e.fKids.map DExpr.c) i 0, ints env] [.op nb 6 0 0, .ip 5 [e.fKids[i].c] 0 0, ints env] := fun i hi => .cons (.refl _) (.cons (Sub.ip (map_get hi) (by simp)) (.cons (.refl _) .nil))
  have i0 : inR S1 j0 := b3.2 j0 (by simp)
  have i1 : inR S1 j1 := b3.2 j1 (by simp)
  have hv0 := b1.val j0
  have hv1 := b1.val j1
  refine fnKF 183 keep239 ib239 mk239 mix Tryz.func239 rfl (by kernel_rfl) (by simp) ?_
  simp (maxSteps := 1000000) -dsimp -implicitDefEqProofs only [go_sem, ↓reduceIte, keep239, ib239, mk239, Tryz.f239, hk]
  refine ⟨by omega, HFnF.mkH (HFn.sub (hsub 0 (by omega)) (hv h0 _ nb (st + 1) e.fKids[0] env S funcs j0 S0 t0 hR (by omega) (o0 _ (List.getElem_mem _)) hf0 hf hg1 henv (by omega) hj0)) ?_⟩
  rintro r h' ⟨rfl, hR1⟩
  simp (maxSteps := 1000000) -dsimp -implicitDefEqProofs only [go_sem, ↓reduceIte, keep239, ib239, mk239, Tryz.f239]
  refine ⟨by omega, HFnF.mkH (HFn.sub (hsub 1 (by omega)) (hv h0 _ nb t0 e.fKids[1] env S0 funcs j1 S1 t1 hR1 c4.2.2.2 (o0 _ (List.getElem_mem _)) hf0 hf c1 (fun x hx => (henv x hx).ext c2) (by have := c4.2.2.1; omega) hj1)) ?_⟩
  rintro r h2 ⟨rfl, ⟨om, og, ov, H1⟩⟩
  obtain ⟨w, rfl, hw, dw⟩ := H1.row i0
  have hb1 := H1.box
  unfold specBox at hb1
  rw [onil_some] at hb1
  have rk0 := rowsOf_get i0
  have rk1 := rowsOf_get i1
  have k0 := i0.1
  have k1 := i0.2
  have k2 := i1.1
  have k3 := i1.2
  have lw := rowsOf_len (fun n => [I n]) S1.vals
  have hop := l04Op 5 (by decide)
  try simp (maxSteps := 1000000) -dsimp -implicitDefEqProofs only [go_sem, ↓reduceIte, keep239, ib239, mk239, Tryz.f239, hk]
  first | refine HFnF.mk (hop) ?_ | refine CallSF.mk (hop) ?_ | refine HFnF.mkAt (hop) ?_ | refine CallSF.mk (FnAt.fn0 (hop)) ?_
  simp (maxSteps := 1000000) -dsimp -implicitDefEqProofs only [go_sem, ↓reduceIte, keep239, ib239, mk239, Tryz.f239]
  try simp (maxSteps := 1000000) -dsimp -implicitDefEqProofs only [go_sem, ↓reduceIte, keep239, ib239, mk239, Tryz.f239, hb1, hw, rk0, rk1]
  refine ⟨k0, by omega, k2, by omega, ?_⟩
  rw [hk] at e2
  cases hv : opV 5 (S1.val j0) (S1.val j1) with
  | none =>
    have e3 : opR 5 [j0, j1] S1 t1 = .error 6 := by
      unfold opR
      rw [show ([j0, j1].getD 0 0) = j0 from rfl, show opB 5 [j0, j1] = j1 from rfl, hv]
    have e4 := e3.symm.trans e2
    cases e4
  | some v =>
    have e3 : opR 5 [j0, j1] S1 t1 = .ok (((S1.vals.length : Int), S1.put ⟨5, j0, j1, 0⟩ v), t1) := by
      unfold opR
      rw [show ([j0, j1].getD 0 0) = j0 from rfl, show opB 5 [j0, j1] = j1 from rfl, hv]
    have e4 := e3.symm.trans e2
    have e5 := (Prod.mk.inj (Prod.mk.inj (Except.ok.inj e4)).1)
    first | refine HFnF.mk (l04Value 5 (S1.val j0) (S1.val j1) v hv0 hv1 (by decide) hv) ?_ | refine CallSF.mk (l04Value 5 (S1.val j0) (S1.val j1) v hv0 hv1 (by decide) hv) ?_ | refine HFnF.mkAt (l04Value 5 (S1.val j0) (S1.val j1) v hv0 hv1 (by decide) hv) ?_ | refine CallSF.mk (FnAt.fn0 (l04Value 5 (S1.val j0) (S1.val j1) v hv0 hv1 (by decide) hv)) ?_
    simp (maxSteps := 1000000) -dsimp -implicitDefEqProofs only [go_sem, ↓reduceIte, keep239, ib239, mk239, Tryz.f239]
    unfold incR at b4
    simp only at b4
    refine HFnF.mkH (add_of ⟨om, og, some w, H1⟩ ⟨5, j0, j1, 0⟩ v b1.len (by have := b1.cap; omega)) ?_
    rintro r h3 ⟨rfl, hR2⟩
    simp (maxSteps := 1000000) -dsimp -implicitDefEqProofs only [go_sem, ↓reduceIte, keep239, ib239, mk239, Tryz.f239]
    rw [e5.2] at hR2
    exact ⟨_, _, shift_self _ _, by rw [e5.1], hR2⟩
set_option maxRecDepth 100000 in
theorem rexpr_6 {p : DProgram} (hp : p.ok) {inp : Int} {n : Nat} (hv : ExprAt p inp n) {h0 h : Heap} {nb st : Nat} {e : DExpr} {env : List Int} {S : RSt} {funcs : Int} {k : Int} {S' : RSt} {t : Nat} (hR : RecInG (specBox p inp) h0 nb S h) (hst : st < 3000)
    (hok : e.ok p funcs env.length) (hf0 : 0 ≤ funcs) (hf : funcs ≤ p.fFuncs.length) (hg : Good inp S st) (henv : ∀ x ∈ env, inR S x) (hel : env.length ≤ 412 + st) (hr : recE p (n + 1) st e env S = .ok ((k, S'), t)) (hk : e.fKind = 6) :
    HFn Tryz.prog 239 [.op nb 6 0 0, .ip 5 [e.c] 0 0, ints env] h fun r h' => r = I k ∧ RecInG (specBox p inp) h0 nb S' h' := by
  rw [DExpr.c_eq]
  have hnode := (DExpr.ok_iff _ _ _ _).1 hok
  have h3 : ¬ st = 3000 := by omega
  have hcap := hg.cap
  have hgcap := hg.gcap
  have hg1 := hg.later (Nat.le_succ st)
  have hlen := kids_len hok (by omega)
  rw [hk, show kidsN 6 = 2 from rfl] at hlen
  have o0 := kids_ok hok (by omega)
  rw [recE_op h3 (by omega)] at hr
  obtain ⟨⟨vs, S1⟩, t1, e1, e2⟩ := andThen_inv hr
  obtain ⟨b1, b2, b3, b4⟩ := seqR_good hp hg1 (by omega) henv o0 hf _ _ e1
  simp only at b1 b2 b3
  obtain ⟨j0, S0, t0, hj0, hs0⟩ := seqR_next e1 (k := 0) (by omega) (vs := []) (S1 := S) (t1 := st + 1) rfl
  obtain ⟨c1, c2, c3, c4⟩ := recE_ok hp n (st + 1) e.fKids[0] env S funcs (o0 _ (List.getElem_mem _)) hf hg1 (by omega) henv _ _ hj0
  simp only at c1 c2 c3
  obtain ⟨j1, S2, t2, hj1, hs1⟩ := seqR_next e1 (k := 1) (by omega) hs0
  rw [List.take_of_length_le (by omega), e1] at hs1
  obtain ⟨rfl, rfl⟩ := Prod.mk.inj (Prod.mk.inj (Except.ok.inj hs1)).1
  obtain rfl := (Prod.mk.inj (Except.ok.inj hs1)).2
  have hsub : ∀ (i : Nat) (hi : i < e.fKids.length), SubL [.op nb 6 0 0, .ip 5 (e.fKids.map DExpr.c) i 0, ints env] [.op nb 6 0 0, .ip 5 [e.fKids[i].c] 0 0, ints env] := fun i hi => .cons (.refl _) (.cons (Sub.ip (map_get hi) (by simp)) (.cons (.refl _) .nil))
  have i0 : inR S1 j0 := b3.2 j0 (by simp)
  have i1 : inR S1 j1 := b3.2 j1 (by simp)
  have hv0 := b1.val j0
  have hv1 := b1.val j1
  refine fnKF 183 keep239 ib239 mk239 mix Tryz.func239 rfl (by kernel_rfl) (by simp) ?_
  simp (maxSteps := 1000000) -dsimp -implicitDefEqProofs only [go_sem, ↓reduceIte, keep239, ib239, mk239, Tryz.f239, hk]
  refine ⟨by omega, HFnF.mkH (HFn.sub (hsub 0 (by omega)) (hv h0 _ nb (st + 1) e.fKids[0] env S funcs j0 S0 t0 hR (by omega) (o0 _ (List.getElem_mem _)) hf0 hf hg1 henv (by omega) hj0)) ?_⟩
  rintro r h' ⟨rfl, hR1⟩
  simp (maxSteps := 1000000) -dsimp -implicitDefEqProofs only [go_sem, ↓reduceIte, keep239, ib239, mk239, Tryz.f239]
  refine ⟨by omega, HFnF.mkH (HFn.sub (hsub 1 (by omega)) (hv h0 _ nb t0 e.fKids[1] env S0 funcs j1 S1 t1 hR1 c4.2.2.2 (o0 _ (List.getElem_mem _)) hf0 hf c1 (fun x hx => (henv x hx).ext c2) (by have := c4.2.2.1; omega) hj1)) ?_⟩
  rintro r h2 ⟨rfl, ⟨om, og, ov, H1⟩⟩
  obtain ⟨w, rfl, hw, dw⟩ := H1.row i0
  have hb1 := H1.box
  unfold specBox at hb1
  rw [onil_some] at hb1
  have rk0 := rowsOf_get i0
  have rk1 := rowsOf_get i1
  have k0 := i0.1
  have k1 := i0.2
  have k2 := i1.1
  have k3 := i1.2
  have lw := rowsOf_len (fun n => [I n]) S1.vals
  have hop := l04Op 6 (by decide)
  try simp (maxSteps := 1000000) -dsimp -implicitDefEqProofs only [go_sem, ↓reduceIte, keep239, ib239, mk239, Tryz.f239, hk]
  first | refine HFnF.mk (hop) ?_ | refine CallSF.mk (hop) ?_ | refine HFnF.mkAt (hop) ?_ | refine CallSF.mk (FnAt.fn0 (hop)) ?_
  simp (maxSteps := 1000000) -dsimp -implicitDefEqProofs only [go_sem, ↓reduceIte, keep239, ib239, mk239, Tryz.f239]
  try simp (maxSteps := 1000000) -dsimp -implicitDefEqProofs only [go_sem, ↓reduceIte, keep239, ib239, mk239, Tryz.f239, hb1, hw, rk0, rk1]
  refine ⟨k0, by omega, k2, by omega, ?_⟩
  rw [hk] at e2
  cases hv : opV 6 (S1.val j0) (S1.val j1) with
  | none =>
    have e3 : opR 6 [j0, j1] S1 t1 = .error 6 := by
      unfold opR
      rw [show ([j0, j1].getD 0 0) = j0 from rfl, show opB 6 [j0, j1] = j1 from rfl, hv]
    have e4 := e3.symm.trans e2
    cases e4
  | some v =>
    have e3 : opR 6 [j0, j1] S1 t1 = .ok (((S1.vals.length : Int), S1.put ⟨6, j0, j1, 0⟩ v), t1) := by
      unfold opR
      rw [show ([j0, j1].getD 0 0) = j0 from rfl, show opB 6 [j0, j1] = j1 from rfl, hv]
    have e4 := e3.symm.trans e2
    have e5 := (Prod.mk.inj (Prod.mk.inj (Except.ok.inj e4)).1)
    first | refine HFnF.mk (l04Value 6 (S1.val j0) (S1.val j1) v hv0 hv1 (by decide) hv) ?_ | refine CallSF.mk (l04Value 6 (S1.val j0) (S1.val j1) v hv0 hv1 (by decide) hv) ?_ | refine HFnF.mkAt (l04Value 6 (S1.val j0) (S1.val j1) v hv0 hv1 (by decide) hv) ?_ | refine CallSF.mk (FnAt.fn0 (l04Value 6 (S1.val j0) (S1.val j1) v hv0 hv1 (by decide) hv)) ?_
    simp (maxSteps := 1000000) -dsimp -implicitDefEqProofs only [go_sem, ↓reduceIte, keep239, ib239, mk239, Tryz.f239]
    unfold incR at b4
    simp only at b4
    refine HFnF.mkH (add_of ⟨om, og, some w, H1⟩ ⟨6, j0, j1, 0⟩ v b1.len (by have := b1.cap; omega)) ?_
    rintro r h3 ⟨rfl, hR2⟩
    simp (maxSteps := 1000000) -dsimp -implicitDefEqProofs only [go_sem, ↓reduceIte, keep239, ib239, mk239, Tryz.f239]
    rw [e5.2] at hR2
    exact ⟨_, _, shift_self _ _, by rw [e5.1], hR2⟩
open Go.Proofs
set_option linter.unusedVariables false
set_option linter.unusedSimpArgs false
set_option maxRecDepth 100000 in
theorem rexpr_8 {p : DProgram} (hp : p.ok) {inp : Int} {n : Nat} (hv : ExprAt p inp n) {h0 h : Heap} {nb st : Nat} {e : DExpr} {env : List Int} {S : RSt} {funcs : Int} {k : Int} {S' : RSt} {t : Nat} (hR : RecInG (specBox p inp) h0 nb S h) (hst : st < 3000)
    (hok : e.ok p funcs env.length) (hf0 : 0 ≤ funcs) (hf : funcs ≤ p.fFuncs.length) (hg : Good inp S st) (henv : ∀ x ∈ env, inR S x) (hel : env.length ≤ 412 + st) (hr : recE p (n + 1) st e env S = .ok ((k, S'), t)) (hk : e.fKind = 8) :
    HFn Tryz.prog 239 [.op nb 6 0 0, .ip 5 [e.c] 0 0, ints env] h fun r h' => r = I k ∧ RecInG (specBox p inp) h0 nb S' h' := by
  rw [DExpr.c_eq]
  have hnode := (DExpr.ok_iff _ _ _ _).1 hok
  have h3 : ¬ st = 3000 := by omega
  have hcap := hg.cap
  have hgcap := hg.gcap
  have hg1 := hg.later (Nat.le_succ st)
  have hlen := kids_len hok (by omega)
  rw [hk, show kidsN 8 = 3 from rfl] at hlen
  have o0 := kids_ok hok (by omega)
  rw [recE_8 h3 hk] at hr
  obtain ⟨⟨k1, S1⟩, t1, e1, e2⟩ := andThen_inv hr
  rw [DExpr.kid_eq (show 0 < e.fKids.length by omega)] at e1
  obtain ⟨q1, q2, q3, q4⟩ := recE_ok hp n (st + 1) e.fKids[0] env S funcs (o0 _ (List.getElem_mem _)) hf hg1 (by omega) henv _ _ e1
  unfold incR at q4
  simp only at q1 q2 q3 q4 e2
  have hsub : ∀ (i : Nat) (hi : i < e.fKids.length), SubL [.op nb 6 0 0, .ip 5 (e.fKids.map DExpr.c) i 0, ints env] [.op nb 6 0 0, .ip 5 [e.fKids[i].c] 0 0, ints env] := fun i hi => .cons (.refl _) (.cons (Sub.ip (map_get hi) (by simp)) (.cons (.refl _) .nil))
  refine fnKF 183 keep239 ib239 mk239 mix Tryz.func239 rfl (by kernel_rfl) (by simp) ?_
  simp (maxSteps := 1000000) -dsimp -implicitDefEqProofs only [go_sem, ↓reduceIte, keep239, ib239, mk239, Tryz.f239, hk]
  refine ⟨by omega, HFnF.mkH (HFn.sub (hsub 0 (by omega)) (hv h0 _ nb (st + 1) e.fKids[0] env S funcs k1 S1 t1 hR (by omega) (o0 _ (List.getElem_mem _)) hf0 hf hg1 henv (by omega) e1)) ?_⟩
  rintro r h' ⟨rfl, ⟨om1, og1, ov1, H1⟩⟩
  obtain ⟨w, rfl, hw, dw⟩ := H1.row q3
  have hb1 := H1.box
  unfold specBox at hb1
  rw [onil_some] at hb1
  have rk := rowsOf_get q3
  have k0 := q3.1
  have k2 := q3.2
  have lw := rowsOf_len (fun n => [I n]) S1.vals
  have hgc := q1.gcap
  simp (maxSteps := 1000000) -dsimp -implicitDefEqProofs only [go_sem, ↓reduceIte, keep239, ib239, mk239, Tryz.f239, hb1, hw, rk]
  refine ⟨k0, by omega, ?_⟩
  have hgd := H1.gds
  cases og1 with
  | none =>
    have hg0 : S1.guards = [] := rowsOf_nil.1 hgd
    rw [onil_none]
    simp (maxSteps := 1000000) -dsimp -implicitDefEqProofs only [go_sem, ↓reduceIte, keep239, ib239, mk239, Tryz.f239, hb1]
    refine ⟨by decide, by decide, by decide, fun b hb2 => ?_⟩
    have d_b_nb : ¬ b = nb := fun e => by rw [e, hb1] at hb2; cases hb2
    have d_nb_b : ¬ nb = b := Ne.symm d_b_nb
    have e_b_nb : (b = nb) = False := eq_false d_b_nb
    have e_nb_b : (nb = b) = False := eq_false d_nb_b
    simp (maxSteps := 1000000) -dsimp -implicitDefEqProofs only [go_sem, ↓reduceIte, keep239, ib239, mk239, Tryz.f239, hb1, e_b_nb, e_nb_b, upd_ne]
    refine ⟨fun hz => ⟨by omega, ?_⟩, fun hz => ⟨by omega, ?_⟩⟩
    · rw [decide_eq_true hz]
      obtain ⟨g, hgl, hG⟩ := H1.guard ⟨k1, true⟩ hb2 (F := upd (upd h' b (.row 2 [[.v (I k1), .v (.bool true)]])) nb (specBox p inp (S1.guard ⟨k1, true⟩) om1 (some b) (some w))) (upd_same _ _ _) (by rw [upd_ne _ _ _ _ d_b_nb, upd_same, hg0]; rfl) (fun n h1 h2 _ => by rw [upd_ne _ _ _ _ h1, upd_ne _ _ _ _ h2])
      unfold specBox at hgl
      simp only [RSt.guard, hg0, onil_some, List.nil_append, List.length_singleton] at hgl
      refine HFnF.wk (Heap.wk_of_le hgl) ?_
      have hgG := q1.guard (b := true) q3 (by omega)
      have heG := q2.trans (S1.ext_guard ⟨k1, true⟩)
      rw [if_pos hz, DExpr.kid_eq (show 1 < e.fKids.length by omega)] at e2
      refine HFnF.mkH (HFn.sub (hsub 1 (by omega)) (hv h0 g nb t1 e.fKids[1] env (S1.guard ⟨k1, true⟩) funcs k S' t ⟨_, _, _, hG⟩ (by omega) (o0 _ (List.getElem_mem _)) hf0 hf hgG (fun x hx => (henv x hx).ext heG) (by omega) e2)) ?_
      rintro r h2 ⟨rfl, hR3⟩
      simp (maxSteps := 1000000) -dsimp -implicitDefEqProofs only [go_sem, ↓reduceIte, keep239, ib239, mk239, Tryz.f239]
      exact ⟨_, _, shift_self _ _, rfl, hR3⟩
    · rw [decide_eq_false hz]
      obtain ⟨g, hgl, hG⟩ := H1.guard ⟨k1, false⟩ hb2 (F := upd (upd h' b (.row 2 [[.v (I k1), .v (.bool false)]])) nb (specBox p inp (S1.guard ⟨k1, false⟩) om1 (some b) (some w))) (upd_same _ _ _) (by rw [upd_ne _ _ _ _ d_b_nb, upd_same, hg0]; rfl) (fun n h1 h2 _ => by rw [upd_ne _ _ _ _ h1, upd_ne _ _ _ _ h2])
      unfold specBox at hgl
      simp only [RSt.guard, hg0, onil_some, List.nil_append, List.length_singleton] at hgl
      refine HFnF.wk (Heap.wk_of_le hgl) ?_
      have hgG := q1.guard (b := false) q3 (by omega)
      have heG := q2.trans (S1.ext_guard ⟨k1, false⟩)
      rw [if_neg hz, DExpr.kid_eq (show 2 < e.fKids.length by omega)] at e2
      refine HFnF.mkH (HFn.sub (hsub 2 (by omega)) (hv h0 g nb t1 e.fKids[2] env (S1.guard ⟨k1, false⟩) funcs k S' t ⟨_, _, _, hG⟩ (by omega) (o0 _ (List.getElem_mem _)) hf0 hf hgG (fun x hx => (henv x hx).ext heG) (by omega) e2)) ?_
      rintro r h2 ⟨rfl, hR3⟩
      simp (maxSteps := 1000000) -dsimp -implicitDefEqProofs only [go_sem, ↓reduceIte, keep239, ib239, mk239, Tryz.f239]
      exact ⟨_, _, shift_self _ _, rfl, hR3⟩
  | some gm =>
    have hgm := hgd.2
    have d_gm_nb : ¬ gm = nb := fun e => by rw [e, hb1] at hgm; cases hgm
    have d_nb_gm : ¬ nb = gm := Ne.symm d_gm_nb
    have e_gm_nb : (gm = nb) = False := eq_false d_gm_nb
    have e_nb_gm : (nb = gm) = False := eq_false d_nb_gm
    rw [onil_some]
    simp (maxSteps := 1000000) -dsimp -implicitDefEqProofs only [go_sem, ↓reduceIte, keep239, ib239, mk239, Tryz.f239, hb1, hgm, rowsOf_len]
    refine ⟨by decide, by decide, by decide, Nat.le_refl _, by omega, by omega, fun b hb2 => ?_⟩
    have d_b_nb : ¬ b = nb := fun e => by rw [e, hb1] at hb2; cases hb2
    have d_nb_b : ¬ nb = b := Ne.symm d_b_nb
    have e_b_nb : (b = nb) = False := eq_false d_b_nb
    have e_nb_b : (nb = b) = False := eq_false d_nb_b
    have d_b_gm : ¬ b = gm := fun e => by rw [e, hgm] at hb2; cases hb2
    have d_gm_b : ¬ gm = b := Ne.symm d_b_gm
    have e_b_gm : (b = gm) = False := eq_false d_b_gm
    have e_gm_b : (gm = b) = False := eq_false d_gm_b
    simp (maxSteps := 1000000) -dsimp -implicitDefEqProofs only [go_sem, ↓reduceIte, keep239, ib239, mk239, Tryz.f239, hb1, e_b_nb, e_b_gm, e_nb_b, e_nb_gm, e_gm_b, e_gm_nb, upd_ne]
    refine ⟨fun hz => ⟨by omega, ?_⟩, fun hz => ⟨by omega, ?_⟩⟩
    · rw [decide_eq_true hz, List.take_of_length_le (by rw [rowsOf_len]; exact Nat.le_refl _)]
      obtain ⟨g, hgl, hG⟩ := H1.guard ⟨k1, true⟩ hb2 (F := upd (upd (upd h' gm .gone) b (.row 2 (rowsOf DGuard.c S1.guards ++ [[.v (I k1), .v (.bool true)]]))) nb (specBox p inp (S1.guard ⟨k1, true⟩) om1 (some b) (some w))) (upd_same _ _ _) (by rw [upd_ne _ _ _ _ d_b_nb, upd_same, rowsOf_snoc]; rfl) (fun n h1 h2 h3 => by rw [upd_ne _ _ _ _ h1, upd_ne _ _ _ _ h2, upd_ne _ _ _ _ (fun q => h3 (by rw [q]))])
      unfold specBox at hgl
      simp only [RSt.guard, onil_some, List.length_append, List.length_singleton] at hgl
      refine HFnF.wk (Heap.wk_of_le hgl) ?_
      have hgG := q1.guard (b := true) q3 (by omega)
      have heG := q2.trans (S1.ext_guard ⟨k1, true⟩)
      rw [if_pos hz, DExpr.kid_eq (show 1 < e.fKids.length by omega)] at e2
      refine HFnF.mkH (HFn.sub (hsub 1 (by omega)) (hv h0 g nb t1 e.fKids[1] env (S1.guard ⟨k1, true⟩) funcs k S' t ⟨_, _, _, hG⟩ (by omega) (o0 _ (List.getElem_mem _)) hf0 hf hgG (fun x hx => (henv x hx).ext heG) (by omega) e2)) ?_
      rintro r h2 ⟨rfl, hR3⟩
      simp (maxSteps := 1000000) -dsimp -implicitDefEqProofs only [go_sem, ↓reduceIte, keep239, ib239, mk239, Tryz.f239]
      exact ⟨_, _, shift_self _ _, rfl, hR3⟩
    · rw [decide_eq_false hz, List.take_of_length_le (by rw [rowsOf_len]; exact Nat.le_refl _)]
      obtain ⟨g, hgl, hG⟩ := H1.guard ⟨k1, false⟩ hb2 (F := upd (upd (upd h' gm .gone) b (.row 2 (rowsOf DGuard.c S1.guards ++ [[.v (I k1), .v (.bool false)]]))) nb (specBox p inp (S1.guard ⟨k1, false⟩) om1 (some b) (some w))) (upd_same _ _ _) (by rw [upd_ne _ _ _ _ d_b_nb, upd_same, rowsOf_snoc]; rfl) (fun n h1 h2 h3 => by rw [upd_ne _ _ _ _ h1, upd_ne _ _ _ _ h2, upd_ne _ _ _ _ (fun q => h3 (by rw [q]))])
      unfold specBox at hgl
      simp only [RSt.guard, onil_some, List.length_append, List.length_singleton] at hgl
      refine HFnF.wk (Heap.wk_of_le hgl) ?_
      have hgG := q1.guard (b := false) q3 (by omega)
      have heG := q2.trans (S1.ext_guard ⟨k1, false⟩)
      rw [if_neg hz, DExpr.kid_eq (show 2 < e.fKids.length by omega)] at e2
      refine HFnF.mkH (HFn.sub (hsub 2 (by omega)) (hv h0 g nb t1 e.fKids[2] env (S1.guard ⟨k1, false⟩) funcs k S' t ⟨_, _, _, hG⟩ (by omega) (o0 _ (List.getElem_mem _)) hf0 hf hgG (fun x hx => (henv x hx).ext heG) (by omega) e2)) ?_
      rintro r h2 ⟨rfl, hR3⟩
      simp (maxSteps := 1000000) -dsimp -implicitDefEqProofs only [go_sem, ↓reduceIte, keep239, ib239, mk239, Tryz.f239]
      exact ⟨_, _, shift_self _ _, rfl, hR3⟩
open Go.Proofs
set_option linter.unusedVariables false
set_option linter.unusedSimpArgs false
def keep277 : List Nat := [0, 1, 2, 6, 7, 8, 9, 10, 18, 49, 67]
def ib277 : List Nat := [11, 31]
def mk277 : Marks := fun id => match id with | 6 => ([3], (.op 0 (.op 1 (.op 2 (.op 7 (.op 8 (.op 9 (.op 10 (.op 3 (.op 4 (.op 5 (.op 6 (.op 11 (.op 12 .nil))))))))))))), []) | 8 => ([11], (.op 0 (.op 1 (.op 2 (.op 3 (.op 4 (.op 5 (.op 6 (.op 7 (.op 8 (.op 9 (.op 10 (.op 11 (.op 12 .nil))))))))))))), []) | _ => ([], .nil, [])
def aval (l : List Int) : Option Nat → HVal
  | none => ints l
  | some m => .os m 1 0 l.length
theorem aval_none (l : List Int) : aval l none = ints l := rfl
theorem aval_some (l : List Int) (m : Nat) : aval l (some m) = .os m 1 0 l.length := rfl
theorem iterR_next {f : List Int → Nat → RSt → Out (List Int × RSt)} {N : Nat} {vs : List Int} {t : Nat} {S : RSt} {v : List Int × RSt} {u : Nat} (h : iterR f N vs t S = .ok (v, u)) {k : Nat} (hk : k < N) {us : List Int} {S1 : RSt} {t1 : Nat} (h1 : iterR f k vs t S = .ok ((us, S1), t1)) :
    ∃ l S2 t2, f us t1 S1 = .ok ((l, S2), t2) ∧ iterR f (k + 1) vs t S = .ok ((l, S2), t2) := by
  have h2 := iterR_snoc f k vs t S
  rw [h1] at h2
  have h3 : iterR f (k + 1) vs t S = f us t1 S1 := h2
  cases hf : f us t1 S1 with
  | ok q => exact ⟨q.1.1, q.1.2, q.2, rfl, h3.trans hf⟩
  | error c =>
    have := iterR_err f (k + 1) (n := N) hk (h3.trans hf)
    rw [h] at this; cases this
set_option maxRecDepth 100000 in
theorem scall_of {p : DProgram} (hp : p.ok) {inp : Int} {n : Nat} (hv : ExprAt p inp n) {h0 h : Heap} {nb st : Nat} {e : DExpr} {env : List Int} {S : RSt} {funcs : Int} {k : Int} {S' : RSt} {t : Nat} (hR : RecInG (specBox p inp) h0 nb S h) (hst : st < 3000)
    (hok : e.ok p funcs env.length) (hf0 : 0 ≤ funcs) (hf : funcs ≤ p.fFuncs.length) (hg : Good inp S st) (henv : ∀ x ∈ env, inR S x) (hel : env.length ≤ 412 + st) (hr : recE p (n + 1) st e env S = .ok ((k, S'), t)) (hk : e.fKind = 10 ∨ e.fKind = 11) :
    HFn Tryz.prog 277 [.op nb 6 0 0, .ip 5 [e.c] 0 0, ints env] h fun r h' => r = I k ∧ RecInG (specBox p inp) h0 nb S' h' := by
  have h3 : ¬ st = 3000 := by omega
  have hg1 := hg.later (Nat.le_succ st)
  obtain ⟨f, F⟩ := callsOf hp hok hf hk
  have hkl : e.fKids.length ≤ 1048576 := by have := F.kids; have := F.params; omega
  have f1 := F.lo
  have f2 := F.hi
  have f3 := F.pk
  have f4 := F.pk2
  have f5 := F.kids
  have f6 := F.params
  have f8 := F.outs
  have o0 := kids_ok hok (by omega)
  have hseq : ∃ vs S1 t1, seqR (fun t e S => recE p n t e env S) e.fKids (st + 1) S = .ok ((vs, S1), t1) := by
    rcases hk with hk | hk
    · rw [recE_10 h3 hk] at hr
      obtain ⟨w, u, h1, _⟩ := andThen_inv hr
      exact ⟨w.1, w.2, u, h1⟩
    · rw [recE_11 h3 hk] at hr
      obtain ⟨w, u, h1, _⟩ := andThen_inv hr
      exact ⟨w.1, w.2, u, h1⟩
  obtain ⟨ws, Sw, tw, hs0⟩ := hseq
  obtain ⟨q1, q2, q3, q4⟩ := seqR_good hp hg1 (by omega) henv o0 hf _ _ hs0
  simp only at q1 q2 q3
  have q5 := q4.2.2.1
  have q6 := q4.2.2.2
  rw [DExpr.c_eq]
  refine fnKF 81 keep277 ib277 mk277 mix Tryz.func277 rfl (by kernel_rfl) (by simp) ?_
  simp (maxSteps := 1000000) -dsimp -implicitDefEqProofs only [go_sem, ↓reduceIte, keep277, ib277, mk277, Tryz.f277]
  refine ⟨by decide, ?_⟩
  refine loopF (keep := keep277) (ib := ib277) (mk := mk277) mix (by kernel_rfl) (fun x : Nat × List Int × RSt × Nat × Heap × Option Nat => [(0, .op nb 6 0 0), (1, .ip 5 [e.c] 0 0), (2, ints env), (7, oval 1 x.2.1.length x.2.2.2.2.2), (8, I x.1)]) (fun x => oheap x.2.2.2.2.1 (.row 1 ((x.2.1.map fun n => [I n]).map (List.map .v))) x.2.2.2.2.2) (fun x => x.1 ≤ e.fKids.length ∧ x.2.1.length = x.1 ∧ seqR (fun t e S => recE p n t e env S) (e.fKids.take x.1) (st + 1) S = .ok ((x.2.1, x.2.2.1), x.2.2.2.1) ∧ RecInG (specBox p inp) h0 nb x.2.2.1 x.2.2.2.2.1 ∧ oside x.2.2.2.2.1 x.2.1 x.2.2.2.2.2) (fun x => e.fKids.length - x.1) (0, [], S, st + 1, h, none) ⟨by simp [SatL, tget, oval, DExpr.c_eq], Heap.le_refl _, Nat.zero_le _, rfl, rfl, hR, rfl⟩ ?_
  rintro ⟨i, vs, S1, t1, g, o⟩ ⟨hi, hvl, hs, hR, hos⟩
  simp only at hi hvl hs hR hos ⊢
  rw [DExpr.c_eq]
  rcases Nat.lt_or_ge i e.fKids.length with hlt | hge
  · have ek : e.fKids[i]? = some e.fKids[i] := List.getElem?_eq_getElem hlt
    obtain ⟨j, S2, t2, hj, hs2⟩ := seqR_next hs0 hlt hs
    obtain ⟨b1, b2, b3, b4⟩ := seqR_good hp (l := e.fKids.take i) hg1 (by omega) henv (fun x hx => o0 x (List.mem_of_mem_take hx)) hf _ _ hs
    simp only at b1 b2 b3
    have hsub : SubL [.op nb 6 0 0, .ip 5 (e.fKids.map DExpr.c) i 0, ints env] [.op nb 6 0 0, .ip 5 [e.fKids[i].c] 0 0, ints env] := .cons (.refl _) (.cons (Sub.ip (map_get hlt) (by simp)) (.cons (.refl _) .nil))
    cases o with
    | none =>
      rw [oside_none] at hos
      subst hos
      simp (maxSteps := 1000000) -dsimp -implicitDefEqProofs only [go_sem, ↓reduceIte, keep277, ib277, mk277, Tryz.f277, oval_none, oheap_none, hlt, ek]
      refine fun _ => HFnF.mkH (HFn.sub hsub (hv h0 g nb t1 e.fKids[i] env S1 funcs j S2 t2 hR b4.2.2.2 (o0 _ (List.getElem_mem _)) hf0 hf b1 (fun x hx => (henv x hx).ext b2) (by have := b4.2.2.1; omega) hj)) ?_
      rintro r h' ⟨rfl, hR2⟩
      simp (maxSteps := 1000000) -dsimp -implicitDefEqProofs only [go_sem, ↓reduceIte, keep277, ib277, mk277, Tryz.f277]
      refine ⟨Nat.zero_lt_one, Nat.zero_lt_one, Nat.zero_lt_one, fun b hb2 => ?_⟩
      refine ⟨(i + 1, [j], S2, t2, h', some b), ⟨rfl, by rw [IntWalk.i64_in _ (by omega)]; rfl⟩, Heap.le_refl _, ⟨by omega, by simp only [List.length_nil] at hvl; subst hvl; rfl, hs2, hR2, hb2⟩, by simp only; omega⟩
    | some m =>
      rw [oside_some] at hos
      simp (maxSteps := 1000000) -dsimp -implicitDefEqProofs only [go_sem, ↓reduceIte, keep277, ib277, mk277, Tryz.f277, oval_some, oheap_some, hlt, ek]
      refine fun _ => HFnF.mkH (HFn.sub hsub (hv _ _ nb t1 e.fKids[i] env S1 funcs j S2 t2 (hR.over hos) b4.2.2.2 (o0 _ (List.getElem_mem _)) hf0 hf b1 (fun x hx => (henv x hx).ext b2) (by have := b4.2.2.1; omega) hj)) ?_
      rintro r h' ⟨rfl, hR2⟩
      obtain ⟨g2, rfl, hg2, hR2⟩ := hR2.base (hR.none hos)
      simp (maxSteps := 1000000) -dsimp -implicitDefEqProofs only [go_sem, ↓reduceIte, keep277, ib277, mk277, Tryz.f277]
      refine ⟨Nat.zero_lt_one, Nat.zero_lt_one, Nat.zero_lt_one, Nat.le_refl _, by omega, by omega, fun b ⟨hbm, hb2⟩ => ?_⟩
      have d_b_m : ¬ b = m := hbm
      have d_m_b : ¬ m = b := Ne.symm d_b_m
      have e_b_m : (b = m) = False := eq_false d_b_m
      have e_m_b : (m = b) = False := eq_false d_m_b
      refine ⟨(i + 1, vs ++ [j], S2, t2, g2, some b), ⟨by rw [oval_some, List.length_append]; rfl, by rw [IntWalk.i64_in _ (by omega)]; rfl⟩, ?_, ⟨by omega, by rw [List.length_append, hvl]; rfl, hs2, hR2, hb2⟩, by simp only; omega⟩
      simp only [oheap_some]
      rw [← grow_row]
      exact le_app hg2
  · have hi' : i = e.fKids.length := by omega
    subst hi'
    rw [List.take_length, hs0] at hs
    obtain ⟨rfl, rfl⟩ := Prod.mk.inj (Prod.mk.inj (Except.ok.inj hs)).1
    obtain rfl := (Prod.mk.inj (Except.ok.inj hs)).2
    obtain ⟨om, og, ov, H⟩ := hR
    have hb := H.box
    unfold specBox at hb
    have hR : RecInG (specBox p inp) h0 nb Sw g := ⟨om, og, ov, H⟩
    have hsubp : ∀ x, SubL [.op nb 6 0 0, .ip 5 (f.fOuts.map DExpr.c) e.fPick.toNat 0, x] [.op nb 6 0 0, .ip 5 [(p.out e.fNum e.fPick).c] 0 0, x] := fun x => .cons (.refl _) (.cons (Sub.ip (by rw [List.getElem?_map, F.out]; rfl) (by simp)) (.cons (.refl _) .nil))
    rcases hk with hk | hk
    · rw [recE_10 h3 hk, hs0] at hr
      have hr' : recE p n tw (p.out e.fNum e.fPick) ws Sw = .ok ((k, S'), t) := hr
      have hfin : ∀ {h1 g1 : Heap}, RecInG (specBox p inp) h1 nb Sw g1 → HFn Tryz.prog 239 [.op nb 6 0 0, .ip 5 (f.fOuts.map DExpr.c) e.fPick.toNat 0, ints ws] g1 fun r h' => r = I k ∧ RecInG (specBox p inp) h1 nb S' h' := fun hR3 =>
        HFn.sub (hsubp _) (hv _ _ nb tw (p.out e.fNum e.fPick) ws Sw e.fNum k S' t hR3 (by omega) (by rw [hvl, f5]; exact F.oks _ (List.mem_of_getElem? F.out)) f1 (by omega) q1 q3.2 (by omega) hr')
      cases o with
      | none =>
        rw [oside_none] at hos
        subst hos
        simp (maxSteps := 1000000) -dsimp -implicitDefEqProofs only [go_sem, ↓reduceIte, keep277, ib277, mk277, Tryz.f277, oval_none, oheap_none, Nat.lt_irrefl, Int.lt_irrefl, hb, F.get, DFunc.c_eq, hk]
        refine fun _ => ⟨f1, f2, f3, by omega, ?_⟩
        refine HFnF.mkH (HFn.sub (.cons (.refl _) (.cons (.refl _) (.cons (Sub.loose _ _ _) .nil))) (hfin hR)) ?_
        rintro r h' ⟨rfl, hR2⟩
        simp (maxSteps := 1000000) -dsimp -implicitDefEqProofs only [go_sem, ↓reduceIte, keep277, ib277, mk277, Tryz.f277]
        exact ⟨_, _, shift_self _ _, rfl, hR2⟩
      | some m =>
        rw [oside_some] at hos
        have d_nb_m : ¬ nb = m := fun q => by rw [q, hos] at hb; cases hb
        have d_m_nb : ¬ m = nb := Ne.symm d_nb_m
        have e_nb_m : (nb = m) = False := eq_false d_nb_m
        have e_m_nb : (m = nb) = False := eq_false d_m_nb
        simp (maxSteps := 1000000) -dsimp -implicitDefEqProofs only [go_sem, ↓reduceIte, keep277, ib277, mk277, Tryz.f277, oval_some, oheap_some, Nat.lt_irrefl, Int.lt_irrefl, hb, e_nb_m, e_m_nb, upd_ne, F.get, DFunc.c_eq, hk]
        refine fun _ => ⟨f1, f2, f3, by omega, ?_⟩
        refine HFnF.giveX (es := ws.map fun n => [I n]) rfl rfl d_nb_m (by simp) hos ?_
        refine HFn.mono (hfin (hR.over (o := .gone) hos)) ?_
        rintro r h2 ⟨rfl, hR3⟩
        obtain ⟨g3, rfl, hg3, hR3⟩ := hR3.base (hR.none hos)
        simp (maxSteps := 1000000) -dsimp -implicitDefEqProofs only [go_sem, ↓reduceIte, keep277, ib277, mk277, Tryz.f277]
        exact ⟨_, g3, shift_le (Heap.le_upd hg3 (Heap.le_refl _)), rfl, hR3⟩
    · have f7 := F.loop hk
      rw [recE_11 h3 hk, hs0] at hr
      obtain ⟨w0, u0, h9, hr⟩ := andThen_inv hr
      cases h9
      obtain ⟨w, u, hit, hr2⟩ := andThen_inv hr
      obtain ⟨e1, rfl⟩ := Prod.mk.inj (Except.ok.inj hr2)
      obtain ⟨rfl, rfl⟩ := Prod.mk.inj e1
      obtain ⟨us0, S'⟩ := w
      simp only at hit hr2 e1 ⊢
      have hfl : ∀ us t S2, Good inp S2 t → (us.length = f.fOuts.length ∧ ∀ x ∈ us, inR S2 x) → t ≤ 3000 → okQ (RecQL inp S2 t f.fOuts.length) (seqR (fun t e S => recE p n t e us S) (p.outs e.fNum) t S2) := fun us w S2 hg' hv' hw => by
        rw [F.eq]
        exact seqR_good hp hg' hw hv'.2 (funcs := e.fNum) (fun x hx => by rw [hv'.1, f7.2.2]; exact F.oks x hx) (by omega)
      obtain ⟨m, rfl⟩ : ∃ m, o = some m := by
        cases o with
        | none => rw [oside_none] at hos; rw [hos] at hvl; simp at hvl; omega
        | some m => exact ⟨m, rfl⟩
      rw [oside_some] at hos
      have d_nb_m : ¬ nb = m := fun q => by rw [q, hos] at hb; cases hb
      have d_m_nb : ¬ m = nb := Ne.symm d_nb_m
      have e_nb_m : (nb = m) = False := eq_false d_nb_m
      have e_m_nb : (m = nb) = False := eq_false d_m_nb
      simp (maxSteps := 1000000) -dsimp -implicitDefEqProofs only [go_sem, ↓reduceIte, keep277, ib277, mk277, Tryz.f277, oval_some, oheap_some, Nat.lt_irrefl, Int.lt_irrefl, hb, e_nb_m, e_m_nb, upd_ne, F.get, DFunc.c_eq, hk]
      refine fun _ => ⟨f1, f2, ?_⟩
      refine loopF (keep := keep277) (ib := ib277) (mk := mk277) mix (by kernel_rfl) (fun x : Nat × List Int × RSt × Nat × Heap × Option Nat => [(0, .op nb 6 0 0), (1, .ip 5 [e.c] 0 0), (7, aval x.2.1 x.2.2.2.2.2), (9, .ip 3 (p.fFuncs.map DFunc.c) e.fNum.toNat 0), (10, I x.1)]) (fun x => oheap x.2.2.2.2.1 (.row 1 ((x.2.1.map fun n => [I n]).map (List.map .v))) x.2.2.2.2.2) (fun x => x.1 ≤ e.fCount.toNat ∧ x.2.1.length = f.fOuts.length ∧ iterR (fun vs t S => seqR (fun t e S => recE p n t e vs S) (p.outs e.fNum) t S) x.1 ws tw Sw = .ok ((x.2.1, x.2.2.1), x.2.2.2.1) ∧ RecInG (specBox p inp) h0 nb x.2.2.1 x.2.2.2.2.1 ∧ ∀ q, x.2.2.2.2.2 = some q → x.2.2.2.2.1 q = none) (fun x => e.fCount.toNat - x.1) (0, ws, Sw, tw, g, some m) ⟨by simp [SatL, tget, aval, DExpr.c_eq, hvl, hk], Heap.le_refl _, Nat.zero_le _, by simp only; omega, rfl, hR, fun q e => by cases e; exact hos⟩ ?_
      clear hR hos H hb
      rintro ⟨i, us, S2, t2, g, o⟩ ⟨hi, hul, hs, hR, hos⟩
      simp only at hi hul hs hR hos ⊢
      obtain ⟨w1, w2, w3, w4⟩ := iterR_ok hfl i ws tw Sw q1 ⟨by omega, q3.2⟩ q6 _ _ hs
      simp only at w1 w2 w3
      rw [DExpr.c_eq]
      rcases Nat.lt_or_ge i e.fCount.toNat with hlt | hge
      · obtain ⟨l2, S3, t3, hf3, hs3⟩ := iterR_next hit hlt hs
        rw [F.eq] at hf3
        have hou : ∀ {h1 g1 : Heap}, RecInG (specBox p inp) h1 nb S2 g1 → HFn Tryz.prog 159 [.op nb 6 0 0, .ip 3 (p.fFuncs.map DFunc.c) e.fNum.toNat 0, ints us] g1 fun r h' => r = ints l2 ∧ RecInG (specBox p inp) h1 nb S3 h' := fun hR3 =>
          HFn.sub (.cons (.refl _) (.cons (Sub.ip (by rw [List.getElem?_map, F.get]; rfl) (by simp)) (.cons (.refl _) .nil))) (souts_of hp hv _ _ nb t2 f us S2 e.fNum l2 S3 t3 hR3 w4.2.2.2 (by omega) (by rw [hul, f7.2.2]; exact F.oks) f1 (by omega) w1 w3.2 (by omega) hf3)
        obtain ⟨v1, v2, v3, v4⟩ := hfl us t2 S2 w1 w3 w4.2.2.2 (l2, S3) t3 (by rw [F.eq]; exact hf3)
        simp only at v3
        cases o with
        | none =>
          simp (maxSteps := 1000000) -dsimp -implicitDefEqProofs only [go_sem, ↓reduceIte, keep277, ib277, mk277, Tryz.f277, aval_none, oheap_none]
          refine ⟨fun hq => HFnF.mkH (hou hR) ?_, fun hq => by omega⟩
          rintro r h' ⟨rfl, hR2⟩
          simp (maxSteps := 1000000) -dsimp -implicitDefEqProofs only [go_sem, ↓reduceIte, keep277, ib277, mk277, Tryz.f277]
          exact ⟨(i + 1, l2, S3, t3, h', none), ⟨rfl, by rw [IntWalk.i64_in _ (by omega)]; rfl⟩, Heap.le_refl _, ⟨by omega, v3.1, hs3, hR2, fun q e => by cases e⟩, by simp only; omega⟩
        | some b =>
          have hb2 := hos b rfl
          have d_nb_b : ¬ nb = b := fun q => by obtain ⟨_, _, _, H2⟩ := hR; have := H2.box; rw [q, hb2] at this; cases this
          have d_b_nb : ¬ b = nb := Ne.symm d_nb_b
          have e_nb_b : (nb = b) = False := eq_false d_nb_b
          have e_b_nb : (b = nb) = False := eq_false d_b_nb
          simp (maxSteps := 1000000) -dsimp -implicitDefEqProofs only [go_sem, ↓reduceIte, keep277, ib277, mk277, Tryz.f277, aval_some, oheap_some]
          refine ⟨fun hq => HFnF.giveX (es := us.map fun n => [I n]) rfl rfl d_nb_b (by simp) hb2 ?_, fun hq => by omega⟩
          refine HFn.mono (hou (hR.over (o := .gone) hb2)) ?_
          rintro r h2 ⟨rfl, hR3⟩
          obtain ⟨g3, rfl, hg3, hR3⟩ := hR3.base (hR.none hb2)
          simp (maxSteps := 1000000) -dsimp -implicitDefEqProofs only [go_sem, ↓reduceIte, keep277, ib277, mk277, Tryz.f277]
          exact ⟨(i + 1, l2, S3, t3, g3, none), ⟨rfl, by rw [IntWalk.i64_in _ (by omega)]; rfl⟩, Heap.le_upd hg3 (Heap.le_refl _), ⟨by omega, v3.1, hs3, hR3, fun q e => by cases e⟩, by simp only; omega⟩
      · have hi' : i = e.fCount.toNat := by omega
        subst hi'
        rw [hit] at hs
        obtain ⟨rfl, rfl⟩ := Prod.mk.inj (Prod.mk.inj (Except.ok.inj hs)).1
        have gp : us0[e.fPick.toNat]? = some (us0.getD e.fPick.toNat 0) := getD_get (by omega)
        cases o with
        | none =>
          simp (maxSteps := 1000000) -dsimp -implicitDefEqProofs only [go_sem, ↓reduceIte, keep277, ib277, mk277, Tryz.f277, aval_none, oheap_none, gp]
          exact ⟨fun q => by omega, fun _ => ⟨f3, by omega, _, _, shift_self _ _, rfl, hR⟩⟩
        | some b =>
          have hb2 := hos b rfl
          simp (maxSteps := 1000000) -dsimp -implicitDefEqProofs only [go_sem, ↓reduceIte, keep277, ib277, mk277, Tryz.f277, aval_some, oheap_some, gp]
          exact ⟨fun q => by omega, fun _ => ⟨f3, by omega, _, _, shift_le (Heap.le_upd hb2 (Heap.le_refl _)), rfl, hR⟩⟩
open Go.Proofs
set_option linter.unusedVariables false
set_option linter.unusedSimpArgs false
set_option maxRecDepth 100000 in
theorem rexpr_10 {p : DProgram} (hp : p.ok) {inp : Int} {n : Nat} (hv : ExprAt p inp n) {h0 h : Heap} {nb st : Nat} {e : DExpr} {env : List Int} {S : RSt} {funcs : Int} {k : Int} {S' : RSt} {t : Nat} (hR : RecInG (specBox p inp) h0 nb S h) (hst : st < 3000)
    (hok : e.ok p funcs env.length) (hf0 : 0 ≤ funcs) (hf : funcs ≤ p.fFuncs.length) (hg : Good inp S st) (henv : ∀ x ∈ env, inR S x) (hel : env.length ≤ 412 + st) (hr : recE p (n + 1) st e env S = .ok ((k, S'), t)) (hk : e.fKind = 10) :
    HFn Tryz.prog 239 [.op nb 6 0 0, .ip 5 [e.c] 0 0, ints env] h fun r h' => r = I k ∧ RecInG (specBox p inp) h0 nb S' h' := by
  rw [DExpr.c_eq]
  have hnode := (DExpr.ok_iff _ _ _ _).1 hok
  have h3 : ¬ st = 3000 := by omega
  have hcap := hg.cap
  have hgcap := hg.gcap
  have hg1 := hg.later (Nat.le_succ st)
  have hc := scall_of hp hv hR hst hok hf0 hf hg henv hel hr (Or.inl hk)
  rw [DExpr.c_eq, hk] at hc
  refine fnKF 183 keep239 ib239 mk239 mix Tryz.func239 rfl (by kernel_rfl) (by simp) ?_
  simp (maxSteps := 1000000) -dsimp -implicitDefEqProofs only [go_sem, ↓reduceIte, keep239, ib239, mk239, Tryz.f239, hk]
  refine HFnF.mkH hc ?_
  rintro r h' ⟨rfl, hR2⟩
  simp (maxSteps := 1000000) -dsimp -implicitDefEqProofs only [go_sem, ↓reduceIte, keep239, ib239, mk239, Tryz.f239]
  exact ⟨_, _, shift_self _ _, rfl, hR2⟩
set_option maxRecDepth 100000 in
theorem rexpr_11 {p : DProgram} (hp : p.ok) {inp : Int} {n : Nat} (hv : ExprAt p inp n) {h0 h : Heap} {nb st : Nat} {e : DExpr} {env : List Int} {S : RSt} {funcs : Int} {k : Int} {S' : RSt} {t : Nat} (hR : RecInG (specBox p inp) h0 nb S h) (hst : st < 3000)
    (hok : e.ok p funcs env.length) (hf0 : 0 ≤ funcs) (hf : funcs ≤ p.fFuncs.length) (hg : Good inp S st) (henv : ∀ x ∈ env, inR S x) (hel : env.length ≤ 412 + st) (hr : recE p (n + 1) st e env S = .ok ((k, S'), t)) (hk : e.fKind = 11) :
    HFn Tryz.prog 239 [.op nb 6 0 0, .ip 5 [e.c] 0 0, ints env] h fun r h' => r = I k ∧ RecInG (specBox p inp) h0 nb S' h' := by
  rw [DExpr.c_eq]
  have hnode := (DExpr.ok_iff _ _ _ _).1 hok
  have h3 : ¬ st = 3000 := by omega
  have hcap := hg.cap
  have hgcap := hg.gcap
  have hg1 := hg.later (Nat.le_succ st)
  have hc := scall_of hp hv hR hst hok hf0 hf hg henv hel hr (Or.inr hk)
  rw [DExpr.c_eq, hk] at hc
  refine fnKF 183 keep239 ib239 mk239 mix Tryz.func239 rfl (by kernel_rfl) (by simp) ?_
  simp (maxSteps := 1000000) -dsimp -implicitDefEqProofs only [go_sem, ↓reduceIte, keep239, ib239, mk239, Tryz.f239, hk]
  refine HFnF.mkH hc ?_
  rintro r h' ⟨rfl, hR2⟩
  simp (maxSteps := 1000000) -dsimp -implicitDefEqProofs only [go_sem, ↓reduceIte, keep239, ib239, mk239, Tryz.f239]
  exact ⟨_, _, shift_self _ _, rfl, hR2⟩
theorem rexpr {p : DProgram} (hp : p.ok) {inp : Int} : ∀ n, ExprAt p inp n
  | 0 => fun h0 h nb st e env S funcs k S' t hR hst hok hf0 hf hg henv hel hr => by rw [recE] at hr; cases hr
  | n + 1 => fun h0 h nb st e env S funcs k S' t hR hst hok hf0 hf hg henv hel hr => by
    have hv := rexpr hp (inp := inp) n
    by_cases h3 : st = 3000
    · rw [recE, if_pos h3] at hr; cases hr
    have h3' : st < 3000 := by omega
    rcases node_kind ((DExpr.ok_iff _ _ _ _).1 hok).1 with hk | hk | hk | hk | hk | hk | hk | hk | hk | hk | hk
    · exact rexpr_1 hp hv hR h3' hok hf0 hf hg henv hel hr hk
    · exact rexpr_2 hp hv hR h3' hok hf0 hf hg henv hel hr hk
    · exact rexpr_3 hp hv hR h3' hok hf0 hf hg henv hel hr hk
    · exact rexpr_4 hp hv hR h3' hok hf0 hf hg henv hel hr hk
    · exact rexpr_5 hp hv hR h3' hok hf0 hf hg henv hel hr hk
    · exact rexpr_6 hp hv hR h3' hok hf0 hf hg henv hel hr hk
    · exact rexpr_7 hp hv hR h3' hok hf0 hf hg henv hel hr hk
    · exact rexpr_8 hp hv hR h3' hok hf0 hf hg henv hel hr hk
    · exact rexpr_9 hp hv hR h3' hok hf0 hf hg henv hel hr hk
    · exact rexpr_10 hp hv hR h3' hok hf0 hf hg henv hel hr hk
    · exact rexpr_11 hp hv hR h3' hok hf0 hf hg henv hel hr hk
open Go.Proofs
set_option linter.unusedVariables false
set_option linter.unusedSimpArgs false
theorem RecG.seal1 {bx : RSt → Option Nat → Option Nat → Option Nat → HObj} {h0 h F hh : Heap} {nb : Nat} {inp : Int} {S : RSt} {om og ov : Option Nat} (H : RecG bx h0 nb S om og ov h) (l : List Int)
    (hF : ∀ n, some n = om ∨ some n = og → F n = h n) (hl : hh.le F) (hn : ∀ n, some n = om ∨ some n = og → hh n = none) :
    Shift (.agg [I inp, onil 4 S.code.length om, onil 2 S.guards.length og, ints l]) F (.agg [I inp, sls 4 DInstr.c S.code, sls 2 DGuard.c S.guards, ints l]) hh := by
  have hc := H.code
  have hg := H.gds
  have ap := H.apart
  cases om with
  | none =>
    have hc0 : S.code = [] := rowsOf_nil.1 hc
    cases og with
    | none =>
      have hg0 : S.guards = [] := rowsOf_nil.1 hg
      rw [hc0, hg0]
      exact Shift.of (Sub.agg (.cons (.refl _) (.cons (Sub.nil _ _) (.cons (Sub.nil _ _) (.cons (.refl _) .nil))))) hl
    | some g =>
      have hgF := (hF g (.inr rfl)).trans hg.2
      rw [hc0]
      refine Shift.trans (Shift.of (Sub.agg (.cons (.refl _) (.cons (Sub.nil 4 false) (.cons (.refl _) (.cons (.refl _) .nil))))) (Heap.le_refl F)) ?_
      refine shift_seal (n := g) (sz := 2) (S.guards.map DGuard.c) (hn g (.inr rfl)) ?_ (by simp [sealOK, sealOKL, onil]) ?_
      · intro q
        by_cases e : q = g
        · subst e; right; rw [upd_same]; exact hgF.symm
        · rw [upd_ne _ _ _ _ e]; exact hl q
      · simp [HVal.sealUp, sealL, onil, List.take_of_length_le]
  | some m =>
    have hmF := (hF m (.inl rfl)).trans hc.2
    cases og with
    | none =>
      have hg0 : S.guards = [] := rowsOf_nil.1 hg
      rw [hg0]
      refine Shift.trans (Shift.of (Sub.agg (.cons (.refl _) (.cons (.refl _) (.cons (Sub.nil 2 false) (.cons (.refl _) .nil))))) (Heap.le_refl F)) ?_
      refine shift_seal (n := m) (sz := 4) (S.code.map DInstr.c) (hn m (.inl rfl)) ?_ (by simp [sealOK, sealOKL, onil]) ?_
      · intro q
        by_cases e : q = m
        · subst e; right; rw [upd_same]; exact hmF.symm
        · rw [upd_ne _ _ _ _ e]; exact hl q
      · simp [HVal.sealUp, sealL, onil, List.take_of_length_le]
    | some g =>
      have hgF := (hF g (.inr rfl)).trans hg.2
      have hne : ¬ g = m := fun e => ((ap g).2.1 (by rw [e])).1 rfl
      refine Shift.trans (b := .agg [I inp, onil 4 S.code.length (some m), sls 2 DGuard.c S.guards, ints l]) (h2 := upd hh m (.row 4 (rowsOf DInstr.c S.code))) ?_ ?_
      · refine shift_seal (n := g) (sz := 2) (S.guards.map DGuard.c) (by rw [upd_ne _ _ _ _ hne]; exact hn g (.inr rfl)) ?_ (by simp [sealOK, sealOKL, onil]; exact fun e => hne e.symm) ?_
        · intro q
          by_cases e : q = g
          · subst e; right; rw [upd_same]; exact hgF.symm
          · rw [upd_ne _ _ _ _ e]
            by_cases e2 : q = m
            · subst e2; right; rw [upd_same]; exact hmF.symm
            · rw [upd_ne _ _ _ _ e2]; exact hl q
        · have hne' : ¬ m = g := fun e => hne e.symm
          simp [HVal.sealUp, sealL, onil, List.take_of_length_le, hne']
      · refine shift_seal (n := m) (sz := 4) (S.code.map DInstr.c) (hn m (.inl rfl)) (Heap.le_refl _) (by simp [sealOK, sealOKL, onil]) ?_
        simp [HVal.sealUp, sealL, onil, List.take_of_length_le]
def keep79 : List Nat := [0, 1, 2, 6, 7, 8, 9, 23]
def ib79 : List Nat := [19, 35]
def mk79 : Marks := fun _ => ([], .nil, [])
theorem specIn_init {h0 : Heap} {nb : Nat} (p : DProgram) (inp : Int) (hn : h0 nb = none) : RecInG (specBox p inp) h0 nb ⟨[], [], []⟩ (upd h0 nb (specBox p inp ⟨[], [], []⟩ none none none)) :=
  ⟨none, none, none, upd_same _ _ _, specBox_odd _ _, rfl, rfl, rfl, fun n h => (by rcases h with rfl | h | h | h; exact hn; cases h; cases h; cases h), fun n h1 _ _ _ => upd_ne _ _ _ _ h1⟩
set_option maxRecDepth 100000 in
theorem l04Record {p : DProgram} (hp : p.ok) (f : Int) (hf : 0 ≤ f ∧ f < p.fFuncs.length) (args : List Int) (ha : Nums args) (hl12 : args.length ≤ 12) (hl : ∀ F, p.fFuncs[f.toNat]? = some F → (args.length : Int) = F.fParams) {l : List Int} {S' : RSt} {t : Nat} (hr : recF p f args = .ok ((l, S'), t)) :
    Fn0 Tryz.prog 79 [.ip 1 [p.c] 0 0, I f, ints args] (.agg (DTape.c ⟨args.length, S'.code, S'.guards, l⟩)) := by
  obtain ⟨F, ef, hF1, hF2, hF3, hF4⟩ := func_ok hp hf
  have hla := hl F ef
  simp only [DProgram.c_eq]
  refine fn0S 54 keep79 ib79 mk79 mix Tryz.func79 rfl (by kernel_rfl) (by simp) fun h => ?_
  simp (maxSteps := 1000000) -dsimp -implicitDefEqProofs only [go_sem, ↓reduceIte, keep79, ib79, mk79, Tryz.f79, ef, DFunc.c_eq]
  intro n6 z6
  try simp (maxSteps := 1000000) -dsimp -implicitDefEqProofs only [go_sem, ↓reduceIte, keep79, ib79, mk79, Tryz.f79, ef, DFunc.c_eq]
  refine fun nb ⟨hb6, zb⟩ _ => ⟨by decide, ?_⟩
  have d_nb_n6 : ¬ nb = n6 := hb6
  have d_n6_nb : ¬ n6 = nb := Ne.symm d_nb_n6
  have e_nb_n6 : (nb = n6) = False := eq_false d_nb_n6
  have e_n6_nb : (n6 = nb) = False := eq_false d_n6_nb
  rw [upd_upd]
  generalize hh6 : upd h n6 (.row 4 [[.v (.int .i64 0), .v .nilsl, .v .nilsl, .v .nilsl]]) = h6
  have zb6 : h6 nb = none := by rw [← hh6, upd_ne _ _ _ _ d_nb_n6]; exact zb
  have hin := specIn_init (h0 := h6) p args.length zb6
  refine loopF (keep := keep79) (ib := ib79) (mk := mk79) mix (by kernel_rfl) (fun x : Nat × Heap × Option Nat => [(0, .ip 1 [[sls 3 DFunc.c p.fFuncs]] 0 0), (1, I f), (2, ints args), (6, .op n6 4 0 0), (7, .op nb 6 0 0), (8, oval 1 x.1 x.2.2), (9, I x.1)]) (fun x => oheap x.2.1 (.row 1 (((inEk x.1).map fun n => [I n]).map (List.map .v))) x.2.2) (fun x => x.1 ≤ args.length ∧ RecInG (specBox p args.length) h6 nb (inSk args x.1) x.2.1 ∧ oside x.2.1 (inEk x.1) x.2.2) (fun x => args.length - x.1) (0, upd h6 nb (specBox p args.length ⟨[], [], []⟩ none none none), none) ⟨by simp [SatL, tget, oval], Heap.le_refl _, Nat.zero_le _, hin, rfl⟩ ?_
  rintro ⟨k, g, o⟩ ⟨hk, hR, hos⟩
  simp only at hk hR hos ⊢
  have hel : (inEk k).length = k := by simp [inEk]
  rcases Nat.lt_or_ge k args.length with hlt | hge
  · have ek : args[k]? = some args[k] := List.getElem?_eq_getElem hlt
    have hsl : (inSk args k).code.length = (inSk args k).vals.length := by simp [inSk]; omega
    have hvl : (inSk args k).vals.length = k := by simp [inSk]; omega
    have hy := inEk_succ k
    cases o with
    | none =>
      rw [oside_none] at hos
      have k0 : k = 0 := by rw [← hel, hos]; rfl
      subst k0
      simp (maxSteps := 1000000) -dsimp -implicitDefEqProofs only [go_sem, ↓reduceIte, keep79, ib79, mk79, Tryz.f79, oval_none, oheap_none, hlt, ek]
      refine fun _ => HFnF.mkH (add_of hR ⟨1, 0, 0, ((0 : Nat) : Int)⟩ args[0] hsl (by omega)) ?_
      rintro r h' ⟨rfl, hR2⟩
      simp (maxSteps := 1000000) -dsimp -implicitDefEqProofs only [go_sem, ↓reduceIte, keep79, ib79, mk79, Tryz.f79]
      refine ⟨Nat.zero_lt_one, Nat.zero_lt_one, Nat.zero_lt_one, fun b hb2 => ⟨(1, h', some b), ⟨rfl, by rw [IntWalk.i64_in _ (by omega)]; rfl⟩, ?_, ⟨hlt, by rw [inSk_succ hlt]; exact hR2, hb2⟩, by simp only; omega⟩⟩
      rw [hvl]
      exact Heap.le_refl _
    | some m =>
      rw [oside_some] at hos
      simp (maxSteps := 1000000) -dsimp -implicitDefEqProofs only [go_sem, ↓reduceIte, keep79, ib79, mk79, Tryz.f79, oval_some, oheap_some, hlt, ek]
      refine fun _ => HFnF.mkH (add_of (hR.over hos) ⟨1, 0, 0, (k : Int)⟩ args[k] hsl (by omega)) ?_
      rintro r h' ⟨rfl, hR2⟩
      obtain ⟨g2, rfl, hg2, hR2⟩ := hR2.base (hR.none hos)
      simp (maxSteps := 1000000) -dsimp -implicitDefEqProofs only [go_sem, ↓reduceIte, keep79, ib79, mk79, Tryz.f79]
      refine ⟨Nat.zero_lt_one, Nat.zero_lt_one, Nat.zero_lt_one, Nat.le_of_eq hel.symm, by omega, by omega, fun b ⟨hbm, hb2⟩ => ⟨(k + 1, g2, some b), ⟨rfl, by rw [IntWalk.i64_in _ (by omega)]; rfl⟩, ?_, ⟨hlt, by rw [inSk_succ hlt]; exact hR2, hb2⟩, by simp only; omega⟩⟩
      simp only [oheap_some]
      rw [hvl, hy, ← grow_row (fun n => I n), hel]
      exact le_app hg2
  · have hk' : k = args.length := by omega
    subst hk'
    rw [inSk_all] at hR
    have hg0 := inS_good args ha hl12
    have hie : inEk args.length = inE args := rfl
    have hr' : seqR (fun t e S => recE p 3001 t e (inE args) S) F.fOuts 0 (inS args) = .ok ((l, S'), t) := by rw [← hF3]; exact hr
    have hall : ∀ {h0 g : Heap}, RecInG (specBox p args.length) h0 nb (inS args) g → HFn Tryz.prog 159 [.op nb 6 0 0, .ip 3 (p.fFuncs.map DFunc.c) f.toNat 0, ints (inE args)] g (fun r h' => r = ints l ∧ RecInG (specBox p args.length) h0 nb S' h') := fun hR =>
      HFn.sub (.cons (.refl _) (.cons (Sub.ip (by rw [List.getElem?_map, ef]; rfl) (by simp)) (.cons (.refl _) .nil))) (souts_of hp (rexpr hp 3001) _ _ nb 0 F (inE args) (inS args) f l S' t hR (by omega) (by omega) (fun x hx => by rw [← hie, hel, hla]; exact hF4 x hx) hf.1 (by omega) hg0 (inE_in args) (by rw [← hie, hel]; omega) hr')
    cases o with
    | none =>
      rw [oside_none, hie] at hos
      simp (maxSteps := 1000000) -dsimp -implicitDefEqProofs only [go_sem, ↓reduceIte, keep79, ib79, mk79, Tryz.f79, oval_none, oheap_none, Nat.lt_irrefl, Int.lt_irrefl, ef, DFunc.c_eq]
      refine fun _ => ⟨hf.1, hf.2, HFnF.mkH (HFn.sub (.cons (.refl _) (.cons (.refl _) (.cons (by rw [hos]; exact Sub.loose _ _ _) .nil))) (hall hR)) ?_⟩
      rintro r h2 ⟨rfl, om, og, ov, H2⟩
      have hb2 := H2.box
      unfold specBox at hb2
      have hz := H2.keep (n := n6) (by rw [← hh6, upd_same])
      have hz1 := hz.1
      simp (maxSteps := 1000000) -dsimp -implicitDefEqProofs only [go_sem, ↓reduceIte, keep79, ib79, mk79, Tryz.f79, hb2, hz1, e_nb_n6, e_n6_nb, upd_ne]
      generalize hE : h2 = h2H at *
      have hle : h.le h2H := by
        have h1 := H2.le
        rw [← hh6] at h1
        intro q
        by_cases e : q = n6
        · subst e; exact .inl z6
        · have := h1 q
          rwa [upd_ne _ _ _ _ e] at this
      have hfr : ∀ n, some n = om ∨ some n = og → h n = none ∧ ¬ n = n6 ∧ ¬ n = nb := fun n hn => by
        have h1 := H2.fresh n (by rcases hn with hn | hn; exact .inr (.inl hn); exact .inr (.inr (.inl hn)))
        have h3 : ¬ n = n6 := fun e => by rw [← hh6, e, upd_same] at h1; cases h1
        refine ⟨by rwa [← hh6, upd_ne _ _ _ _ h3] at h1, h3, fun e => ?_⟩
        rcases hn with hn | hn
        · exact ((H2.apart n).1 e).1 hn
        · exact ((H2.apart n).1 e).2.1 hn
      refine ⟨by rw [onil_flat, onil_flat]; rfl, ?_⟩
      rw [DTape.c_eq]
      refine H2.seal1 l (fun n hn => ?_) (Heap.le_upd z6 (Heap.le_upd zb (hle))) (fun n hn => (hfr n hn).1)
      obtain ⟨v1, v2, v3⟩ := hfr n hn
      rw [upd_ne _ _ _ _ v2, upd_ne _ _ _ _ v3]
    | some m =>
      rw [oside_some] at hos
      simp (maxSteps := 1000000) -dsimp -implicitDefEqProofs only [go_sem, ↓reduceIte, keep79, ib79, mk79, Tryz.f79, oval_some, oheap_some, Nat.lt_irrefl, Int.lt_irrefl, ef, DFunc.c_eq]
      have d_nb_m : ¬ nb = m := fun e => by obtain ⟨_, _, _, H1⟩ := hR; have := H1.box; rw [e, hos] at this; cases this
      have d_m_nb : ¬ m = nb := Ne.symm d_nb_m
      have e_nb_m : (nb = m) = False := eq_false d_nb_m
      have e_m_nb : (m = nb) = False := eq_false d_m_nb
      refine fun _ => ⟨hf.1, hf.2, HFnF.giveX rfl rfl d_nb_m (by rw [List.length_map]; exact hel.symm) hos ?_⟩
      refine HFn.mono (hall (hR.over (o := .gone) hos)) ?_
      rintro r h2 ⟨rfl, hR2⟩
      obtain ⟨g3, rfl, hg3, ⟨om, og, ov, H2⟩⟩ := hR2.base (hR.none hos)
      have hb2 := H2.box
      unfold specBox at hb2
      have hz := H2.keep (n := n6) (by rw [← hh6, upd_same])
      have hz1 := hz.1
      have d_n6_m : ¬ n6 = m := fun e => by rw [e, hg3] at hz1; cases hz1
      have d_m_n6 : ¬ m = n6 := Ne.symm d_n6_m
      have e_n6_m : (n6 = m) = False := eq_false d_n6_m
      have e_m_n6 : (m = n6) = False := eq_false d_m_n6
      simp (maxSteps := 1000000) -dsimp -implicitDefEqProofs only [go_sem, ↓reduceIte, keep79, ib79, mk79, Tryz.f79, hb2, hz1, e_nb_n6, e_nb_m, e_n6_nb, e_n6_m, e_m_nb, e_m_n6, upd_ne]
      have hgo : ∀ n, some n = om ∨ some n = og → ¬ n = m := fun n hn e => by
        have := (H2.apart n).2.2.2 (by rw [e]; exact hg3)
        rcases hn with hn | hn
        · exact this.2.1 hn
        · exact this.2.2.1 hn
      have hhm : h m = none := by
        have h1 := hR.none hos
        rw [← hh6, upd_ne _ _ _ _ (fun e => d_n6_m e.symm)] at h1
        exact h1
      generalize hE : g3 = h2H at *
      have hle : h.le h2H := by
        have h1 := H2.le
        rw [← hh6] at h1
        intro q
        by_cases e : q = n6
        · subst e; exact .inl z6
        · have := h1 q
          rwa [upd_ne _ _ _ _ e] at this
      have hfr : ∀ n, some n = om ∨ some n = og → h n = none ∧ ¬ n = n6 ∧ ¬ n = nb := fun n hn => by
        have h1 := H2.fresh n (by rcases hn with hn | hn; exact .inr (.inl hn); exact .inr (.inr (.inl hn)))
        have h3 : ¬ n = n6 := fun e => by rw [← hh6, e, upd_same] at h1; cases h1
        refine ⟨by rwa [← hh6, upd_ne _ _ _ _ h3] at h1, h3, fun e => ?_⟩
        rcases hn with hn | hn
        · exact ((H2.apart n).1 e).1 hn
        · exact ((H2.apart n).1 e).2.1 hn
      refine ⟨by rw [onil_flat, onil_flat]; rfl, ?_⟩
      rw [DTape.c_eq]
      refine H2.seal1 l (fun n hn => ?_) (Heap.le_upd z6 (Heap.le_upd zb (Heap.le_upd hhm hle))) (fun n hn => (hfr n hn).1)
      obtain ⟨v1, v2, v3⟩ := hfr n hn
      rw [upd_ne _ _ _ _ v2, upd_ne _ _ _ _ v3, upd_ne _ _ _ _ (hgo n hn)]
end Go.Hl

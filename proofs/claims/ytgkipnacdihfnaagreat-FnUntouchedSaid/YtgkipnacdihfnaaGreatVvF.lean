/-
  Contracts of functions and laws of the layer over the walk.
-/
import Derived.Test.YtgkipnacdihfnaaGreatVvE
import Derived.Test.YtgkipnacdihfnaaGreatVvD
namespace Go.Hl
set_option maxRecDepth 100000
open Go.Proofs
set_option linter.unusedVariables false
set_option linter.unusedSimpArgs false
def aAV (code : List bC) : List Int := (code.filter fun c => c.lU = 6).map bC.fB
def pE (x : Int) (l : List eC) : List Int := [x] ++ l.map eC.aDO
def kW (t : oD) : List Int := pE (t.aW.getD 0 0) t.zK ++ aAV t.b7
theorem aQ0 (x : Int) (l : List eC) (g : eC) : pE x (l ++ [g]) = pE x l ++ [g.aDO] := by simp [pE]
theorem aJN (x : Int) (l : List eC) : (pE x l).length = l.length + 1 := by simp [pE]
theorem aJO (l : List bC) (c : bC) : aAV (l ++ [c]) = if c.lU = 6 then aAV l ++ [c.fB] else aAV l := by
 rw [aAV, List.filter_append, List.map_append]
 by_cases h : c.lU = 6
 ·rw [if_pos h]; simp [aAV, h]
 ·rw [if_neg h]; simp [aAV, h]
theorem aO3 (l : List bC) : (aAV l).length ≤ l.length := by rw [aAV, List.length_map]; exact List.length_filter_le _ _
def rX (t : oD) (sh : Int) (a b : List Int) (r : Nat) : Prop := (qC t.b7 (kW t))[r]? = some true ∧ ∃ c, t.b7[r]? = some c ∧ c.lU = 1 ∧ c.aX < sh ∧ ¬ a.getD c.aX.toNat 0 = b.getD c.aX.toNat 0
def aYC (l : List Int) : Option Nat → aD
 |none => .sl 1 (l.map fun n => [I n]) true
 |some m => .os m 1 0 l.length
theorem aDW (l : List Int) : aYC l none = .sl 1 (l.map fun n => [I n]) true := rfl
theorem qP (l : List Int) (m : Nat) : aYC l (some m) = .os m 1 0 l.length := rfl
def aYD (h : aA) (o : Option Nat) : Prop := ∀ m, o = some m → h m = none
def aDX (j : eU) (k : Nat) (point : List Int) : Prop := (jW j.aU j.cO (bJ j k)).2 = 0 ∧ ¬ ∃ r, rX (jW j.aU j.cO (bJ j k)).1 j.bK j.cJ point r
noncomputable instance (j : eU) (k : Nat) (point : List Int) : Decidable (aDX j k point) := Classical.propDecidable _
theorem aB7 (l : List Int) (x : Int) : ((l ++ [x]).map fun n => [I n]).map (List.map Cell.v) = ((l.map fun n => [I n]).map (List.map .v)) ++ [[.v (I x)]] := by simp
@[go_sem] def aDY : List Nat := [0, 1, 2, 3, 6, 7, 8, 9, 11, 13, 14, 15, 16, 29, 36, 37, 38, 39, 49, 50, 51, 52, 57, 66, 67, 68, 69, 104]
@[go_sem] def aUV : List Nat := [3, 34, 45, 61]
@[go_sem] def aUW : Marks := fun id => match id with | 1 => ([11, 12], (.op 0 (.op 1 (.op 2 (.op 3 (.op 4 (.op 5 (.op 6 (.op 7 (.op 8 (.op 9 (.op 10 (.op 11 (.op 12 (.op 13 .nil)))))))))))))), []) | 20 => ([3, 8, 17, 22], (.op 0 (.op 1 (.op 2 (.op 3 (.op 4 (.op 5 (.op 6 (.op 7 (.op 9 (.op 10 (.op 8 (.op 11 (.op 12 (.op 13 (.op 14 (.op 15 (.op 16 (.op 20 (.op 21 (.op 17 (.op 18 (.op 19 (.op 22 (.op 23 (.op 24 (.op 25 (.op 26 .nil))))))))))))))))))))))))))), []) | _ => ([], .nil, [])
theorem aQ1 {j : eU} (hj : j.ok) (hps : j.aU.s ≤ 4194304) {k : Nat} (hk : k < j.cP.length) (point : List Int) (hpt : (point.length : Int) = j.bK) : gV Tryz.prog 27 [.agg j.c, I k, ints point] (.bool (decide (aDX j k point))) := by
 obtain ⟨t1, t2, t3, t4, t5, t6, t7, t8⟩ := oX hj hk
 obtain ⟨F, eF, hf, hF, ok⟩ := qN hj
 obtain ⟨F2, eF2, hO1, hO2, hO3, hO4⟩ := nN hj.1 hf
 have hargs := a5Z hj hk
 have hrec := a83 hj.1 hps j.cO hf (bJ j k) t2 (by have := t3 F2 eF2; omega) t3
 have hok := (uC hj.1 j.cO hf (bJ j k) t2 t3).1
 rw [aE.aR] at hrec
 simp only [eU.aR] at hargs ⊢
 have hsim := (uC hj.1 j.cO hf (bJ j k) t2 t3).2
 have herr := aBS j.aU 1 j.cO ((bJ j k).map fun n => [n])
 cases hX : aDQ j.aU j.cO (bJ j k) with
 |error c =>
  have hR : jW j.aU j.cO (bJ j k) = (⟨0, [], [], []⟩, c) := by rw [jW, hX]
  have hc : ¬ c = 0 := fun e => by
   rw [hX] at hsim
   cases hY : xW j.aU 1 j.cO ((bJ j k).map fun n => [n]) with
   |ok q => rw [hY] at hsim; exact hsim.elim
   |error d =>
    rw [hY] at hsim
    have h1 : c = d := hsim
    rcases herr d hY with h2 | h2 <;> omega
  rw [hR] at hrec
  simp only [oD.aR] at hrec
  refine gD 106 aDY aUV aUW mix Tryz.func27 rfl (by kernel_rfl) (by simp) fun h => ?_
  simp -dsimp -implicitDefEqProofs only [go_sem, ↓reduceIte, Tryz.f27]
  first | refine aH.mk (hargs) ?_ | refine aF.mk (hargs) ?_ | refine aH.bY (hargs) ?_ | refine aF.mk (bQ.fJ (hargs)) ?_
  simp -dsimp -implicitDefEqProofs only [go_sem, ↓reduceIte, Tryz.f27]
  first | refine aH.mk (hrec) ?_ | refine aF.mk (hrec) ?_ | refine aH.bY (hrec) ?_ | refine aF.mk (bQ.fJ (hrec)) ?_
  simp -dsimp -implicitDefEqProofs only [go_sem, ↓reduceIte, Tryz.f27]
  intro n hn
  refine ⟨fun _ => ⟨(decide_eq_false fun z => hc (by have := z.1; rw [hR] at this; exact this)).symm, aA.aP hn (aA.aP hn (aA.le_refl _))⟩, fun q => absurd q hc⟩
 |ok q =>
  obtain ⟨⟨l, S⟩, t⟩ := q
  obtain ⟨g1, g2, ⟨g3, g4⟩, g5⟩ := hok _ _ hX
  simp only at g1 g2 g3 g4 g5
  unfold l5 at g5
  have g6 := g1.cap
  have g7 := g1.oY
  have g8 := g1.len
  have hR : jW j.aU j.cO (bJ j k) = (⟨(bJ j k).length, S.code, S.guards, l⟩, 0) := by rw [jW, hX]
  have hu : aDX j k point ↔ ¬ ∃ r, rX ⟨(bJ j k).length, S.code, S.guards, l⟩ j.bK j.cJ point r := by rw [aDX, hR]; simp
  rw [hR] at hrec
  simp only [oD.aR] at hrec
  have l0 : l[Int.toNat 0]? = some (l.getD 0 0) := cX (by rw [g3, hO3]; omega)
  refine gD 106 aDY aUV aUW mix Tryz.func27 rfl (by kernel_rfl) (by simp) fun h => ?_
  simp -dsimp -implicitDefEqProofs only [go_sem, ↓reduceIte, Tryz.f27]
  first | refine aH.mk (hargs) ?_ | refine aF.mk (hargs) ?_ | refine aH.bY (hargs) ?_ | refine aF.mk (bQ.fJ (hargs)) ?_
  simp -dsimp -implicitDefEqProofs only [go_sem, ↓reduceIte, Tryz.f27]
  first | refine aH.mk (hrec) ?_ | refine aF.mk (hrec) ?_ | refine aH.bY (hrec) ?_ | refine aF.mk (bQ.fJ (hrec)) ?_
  simp -dsimp -implicitDefEqProofs only [go_sem, ↓reduceIte, Tryz.f27]
  intro n hn
  try simp -dsimp -implicitDefEqProofs only [go_sem, ↓reduceIte, Tryz.f27, aM, l0]
  refine ⟨by rw [g3, hO3]; omega, by decide, by decide, fun _ => ?_⟩
  generalize hh7 : aT h n (.row 4 [[.v (I (bJ j k).length), .v (eI 4 bC.c S.code), .v (eI 2 eC.c S.guards), .v (ints l)]]) = h7
  have h7n : h7 n = some (.row 4 [[.v (I (bJ j k).length), .v (eI 4 bC.c S.code), .v (eI 2 eC.c S.guards), .v (ints l)]]) := by rw [← hh7, aG]
  have aDZ : h.le h7 := by rw [← hh7]; exact aA.aP hn (aA.le_refl _)
  refine dA (keep := aDY) (ib := aUV) (mk := aUW) mix (by kernel_rfl) (fun x : Nat × List Int × Option Nat => [(2, ints point), (3, .ip 5 [[eI 3 aS.c j.aU.aI, I j.cO, I j.bK, eI 1 (fun n => [I n]) j.cJ, eI 1 (fun x => [eI 1 (fun n => [I n]) x]) j.cP]] 0 0), (7, .op n 4 0 0), (9, aYC x.2.1 x.2.2), (36, eI 2 eC.c S.guards), (37, I S.guards.length), (38, I x.1)]) (fun x => cQ h7 (.row 1 ((x.2.1.map fun n => [I n]).map (List.map .v))) x.2.2) (fun x => x.1 ≤ S.guards.length ∧ x.2.1 = pE (l.getD 0 0) (S.guards.take x.1) ∧ aYD h7 x.2.2) (fun x => S.guards.length - x.1) (0, [l.getD 0 0], none) ⟨by simp [dF, b6, aYC], aA.le_refl _, Nat.zero_le _, rfl, fun m e => by cases e⟩ ?_
  rintro ⟨i, L, o⟩ ⟨hi, hL, ho⟩
  simp only at hi hL ho ⊢
  rcases Nat.lt_or_ge i S.guards.length with hlt | hge
  ·have ei : S.guards[i]? = some S.guards[i] := List.getElem?_eq_getElem hlt
   have hy : L ++ [S.guards[i].aDO] = pE (l.getD 0 0) (S.guards.take (i + 1)) := by
    rw [List.take_succ_eq_append_getElem hlt, aQ0, hL]
   have hLl : L.length ≤ i + 1 := by rw [hL, aJN, List.length_take]; omega
   cases o with
   |none =>
    simp -dsimp -implicitDefEqProofs only [go_sem, ↓reduceIte, Tryz.f27, aDW, aQ, hlt, ei, eC.aR]
    intro m9 z9
    refine ⟨by decide, by decide, by decide, by omega, by omega, fun b ⟨hb9, _, hb7⟩ => ⟨(i + 1, L ++ [S.guards[i].aDO], some b), ⟨by rw [qP, List.length_append]; rfl, by rw [IntWalk.i64_in _ (by omega)]; rfl⟩, ?_, ⟨by omega, hy, fun q e => by cases e; exact hb7⟩, by simp only; omega⟩⟩
    simp only [aJ]
    rw [aB7]
    simp only [List.map_append, List.map_cons, List.map_nil] at *
    exact (iD (by repeat' (first | exact fS _ _ | refine iE (by simp only [dP, ↓reduceIte, eq_self, if_true, hb9, z9]) ?_ | refine eY (by first | exact .inr (by assumption) | exact .inl (by simp)) ?_)))
   |some m =>
    have hm := ho m rfl
    simp -dsimp -implicitDefEqProofs only [go_sem, ↓reduceIte, Tryz.f27, qP, aJ, hlt, ei, eC.aR]
    intro m9 ⟨h9m, z9⟩
    have pP : ¬ m9 = m := h9m
    have aDL : ¬ m = m9 := Ne.symm pP
    have rP : (m9 = m) = False := eq_false pP
    have rQ : (m = m9) = False := eq_false aDL
    simp -dsimp -implicitDefEqProofs only [go_sem, ↓reduceIte, Tryz.f27, rQ, rP, aC]
    refine ⟨by decide, by decide, by decide, Nat.le_refl _, by omega, by omega, fun b ⟨hb9, _, hbm, hb7⟩ => ⟨(i + 1, L ++ [S.guards[i].aDO], some b), ⟨by rw [qP, List.length_append]; rfl, by rw [IntWalk.i64_in _ (by omega)]; rfl⟩, ?_, ⟨by omega, hy, fun q e => by cases e; exact hb7⟩, by simp only; omega⟩⟩
    simp only [aJ]
    rw [aB7, List.take_of_length_le (by simp)]
    exact (iD (by repeat' (first | exact fS _ _ | refine iE (by simp only [dP, ↓reduceIte, eq_self, if_true, hb9, z9, hbm, rQ, rP]) ?_ | refine eY (by first | exact .inr (by assumption) | exact .inl (by simp)) ?_)))
  ·have hi' : i = S.guards.length := by omega
   subst hi'
   rw [List.take_length] at hL
   have hgl := aJN (l.getD 0 0) S.guards
   have hon : ∀ (R : cB) (o : Option Nat), aYD h7 o → cQ h7 R o n = some (.row 4 [[.v (I (bJ j k).length), .v (eI 4 bC.c S.code), .v (eI 2 eC.c S.guards), .v (ints l)]]) := fun R o ho => by
    cases o with
    |none => exact h7n
    |some m => rw [aJ, aC _ _ _ _ (fun e => by have := ho m rfl; rw [← e, h7n] at this; cases this)]; exact h7n
   have hn1 := hon (.row 1 ((L.map fun n => [I n]).map (List.map .v))) o ho
   simp -dsimp -implicitDefEqProofs only [go_sem, ↓reduceIte, Tryz.f27, hn1, Nat.lt_irrefl, Int.lt_irrefl]
   intro _
   clear hi hn1
   refine dA (keep := aDY) (ib := aUV) (mk := aUW) mix (by kernel_rfl) (fun x : Nat × List Int × Option Nat => [(2, ints point), (3, .ip 5 [[eI 3 aS.c j.aU.aI, I j.cO, I j.bK, eI 1 (fun n => [I n]) j.cJ, eI 1 (fun x => [eI 1 (fun n => [I n]) x]) j.cP]] 0 0), (7, .op n 4 0 0), (9, aYC x.2.1 x.2.2), (49, eI 4 bC.c S.code), (50, I S.code.length), (51, I x.1)]) (fun x => cQ h7 (.row 1 ((x.2.1.map fun n => [I n]).map (List.map .v))) x.2.2) (fun x => x.1 ≤ S.code.length ∧ x.2.1 = pE (l.getD 0 0) S.guards ++ aAV (S.code.take x.1) ∧ aYD h7 x.2.2) (fun x => S.code.length - x.1) (0, L, o) ⟨by simp [dF, b6], aA.le_refl _, Nat.zero_le _, by simp only [List.take_zero]; rw [hL]; simp [aAV], ho⟩ ?_
   rintro ⟨i, L, o⟩ ⟨hi, hL, ho⟩
   simp only at hi hL ho ⊢
   rcases Nat.lt_or_ge i S.code.length with hlt | hge
   ·have ei : S.code[i]? = some S.code[i] := List.getElem?_eq_getElem hlt
    have hdl := aO3 (S.code.take i)
    have hLl : L.length ≤ i + S.guards.length + 1 := by rw [hL, List.length_append, hgl]; rw [List.length_take] at hdl; omega
    have hy6 : S.code[i].lU = 6 → L ++ [S.code[i].fB] = pE (l.getD 0 0) S.guards ++ aAV (S.code.take (i + 1)) := fun h6 => by
     rw [List.take_succ_eq_append_getElem hlt, aJO, if_pos h6, hL, List.append_assoc]
    have hn6 : ¬ S.code[i].lU = 6 → L = pE (l.getD 0 0) S.guards ++ aAV (S.code.take (i + 1)) := fun h6 => by
     rw [List.take_succ_eq_append_getElem hlt, aJO, if_neg h6, hL]
    cases o with
    |none =>
     simp -dsimp -implicitDefEqProofs only [go_sem, ↓reduceIte, Tryz.f27, aDW, aQ, hlt, ei, bC.aR]
     intro m9 z9
     refine ⟨fun h6 => ?_, fun h6 => ?_⟩
     ·have hy := hy6 h6
      refine ⟨by decide, by decide, by decide, by omega, by omega, fun b ⟨hb9, _, hb7⟩ => ⟨(i + 1, L ++ [S.code[i].fB], some b), ⟨by rw [qP, List.length_append]; rfl, by rw [IntWalk.i64_in _ (by omega)]; rfl⟩, ?_, ⟨by omega, hy, fun q e => by cases e; exact hb7⟩, by simp only; omega⟩⟩
      simp only [aJ]
      rw [aB7]
      simp only [List.map_append, List.map_cons, List.map_nil] at *
      exact (iD (by repeat' (first | exact fS _ _ | refine iE (by simp only [dP, ↓reduceIte, eq_self, if_true, hb9, z9]) ?_ | refine eY (by first | exact .inr (by assumption) | exact .inl (by simp)) ?_)))
     ·exact ⟨(i + 1, L, none), ⟨rfl, by rw [IntWalk.i64_in _ (by omega)]; rfl⟩, aA.aP z9 (aA.aP z9 (aA.le_refl _)), ⟨by omega, hn6 h6, fun q e => by cases e⟩, by simp only; omega⟩
    |some m =>
     have hm := ho m rfl
     simp -dsimp -implicitDefEqProofs only [go_sem, ↓reduceIte, Tryz.f27, qP, aJ, hlt, ei, bC.aR]
     intro m9 ⟨h9m, z9⟩
     have pP : ¬ m9 = m := h9m
     have aDL : ¬ m = m9 := Ne.symm pP
     have rP : (m9 = m) = False := eq_false pP
     have rQ : (m = m9) = False := eq_false aDL
     simp -dsimp -implicitDefEqProofs only [go_sem, ↓reduceIte, Tryz.f27, rQ, rP, aC]
     refine ⟨fun h6 => ?_, fun h6 => ?_⟩
     ·have hy := hy6 h6
      refine ⟨by decide, by decide, by decide, Nat.le_refl _, by omega, by omega, fun b ⟨hb9, _, hbm, hb7⟩ => ⟨(i + 1, L ++ [S.code[i].fB], some b), ⟨by rw [qP, List.length_append]; rfl, by rw [IntWalk.i64_in _ (by omega)]; rfl⟩, ?_, ⟨by omega, hy, fun q e => by cases e; exact hb7⟩, by simp only; omega⟩⟩
      simp only [aJ]
      rw [aB7, List.take_of_length_le (by simp)]
      exact (iD (by repeat' (first | exact fS _ _ | refine iE (by simp only [dP, ↓reduceIte, eq_self, if_true, hb9, z9, hbm, rQ, rP]) ?_ | refine eY (by first | exact .inr (by assumption) | exact .inl (by simp)) ?_)))
     ·exact ⟨(i + 1, L, some m), ⟨rfl, by rw [IntWalk.i64_in _ (by omega)]; rfl⟩, (iD (by repeat' (first | exact fS _ _ | refine iE (by simp only [dP, ↓reduceIte, eq_self, if_true, z9, rQ, rP]) ?_ | refine eY (by first | exact .inr (by assumption) | exact .inl (by simp)) ?_))), ⟨by omega, hn6 h6, ho⟩, by simp only; omega⟩
   ·have hi' : i = S.code.length := by omega
    subst hi'
    rw [List.take_length] at hL
    have hdl := aO3 S.code
    have hLl : L.length ≤ S.code.length + S.guards.length + 1 := by rw [hL, List.length_append, hgl]; omega
    have hrange : ∀ x ∈ L, 0 ≤ x ∧ x < (S.code.length : Int) := fun x hx => by
     rw [hL, pE] at hx
     rcases List.mem_append.1 hx with hx | hx
     ·rcases List.mem_append.1 hx with hx | hx
      ·rw [List.mem_singleton.1 hx, List.getD_eq_getElem?_getD, List.getElem?_eq_getElem (by rw [g3, hO3]; omega)]
       have := g4 _ (List.getElem_mem (h := (by rw [g3, hO3]; omega : 0 < l.length)))
       unfold lG at this
       rw [g8]; exact this
      ·obtain ⟨gg, hgg, rfl⟩ := List.mem_map.1 hx
       rw [g8]; exact g1.gds gg hgg
     ·obtain ⟨cc, hcc, rfl⟩ := List.mem_map.1 hx
      obtain ⟨h1, h2⟩ := List.mem_filter.1 hcc
      obtain ⟨q, hq, rfl⟩ := List.mem_iff_getElem.1 h1
      have h3 := g1.ins q _ (List.getElem?_eq_getElem hq)
      have h4 : S.code[q].lU = 6 := by simpa using h2
      unfold eJ at h3
      omega
    have hneed := needed ⟨(bJ j k).length, S.code, S.guards, l⟩ L (by simp only; omega) (by omega) hrange g1.ins
    have hends : L = kW ⟨(bJ j k).length, S.code, S.guards, l⟩ := hL
    rw [hends] at hneed
    rw [← hends] at hneed
    simp only [oD.aR] at hneed
    have hnl : (qC S.code L).length = S.code.length := aJM _ _
    have hn1 := hon (.row 1 ((L.map fun n => [I n]).map (List.map .v))) o ho
    simp -dsimp -implicitDefEqProofs only [go_sem, ↓reduceIte, Tryz.f27, hn1, Nat.lt_irrefl, Int.lt_irrefl]
    cases o with
    |none =>
     rw [aDW, aQ]
     refine aH.mk (hneed.sub (.cons (.refl _) (.cons (Sub.loose _ _ _) .nil))) ?_
     simp -dsimp -implicitDefEqProofs only [go_sem, ↓reduceIte, Tryz.f27, h7n]
     intro _
     have h9n := h7n
     have aQ2 := aDZ
     generalize h7 = H9 at *
     have hz9 : ∀ {q : Nat}, H9 q = none → h q = none := fun {q} e => by
      rcases aQ2 q with h1 | h1
      ·exact h1
      ·rw [h1, e]
     refine dA (keep := aDY) (ib := aUV) (mk := aUW) mix (by kernel_rfl) (fun i : Nat => [(2, ints point), (3, .ip 5 [[eI 3 aS.c j.aU.aI, I j.cO, I j.bK, eI 1 (fun n => [I n]) j.cJ, eI 1 (fun x => [eI 1 (fun n => [I n]) x]) j.cP]] 0 0), (7, .op n 4 0 0), (66, eI 1 (fun b => [.bool b]) (qC S.code L)), (67, I (qC S.code L).length), (68, I i)]) (fun _ => H9) (fun i => i ≤ S.code.length ∧ ∀ r, r < i → ¬ rX ⟨(bJ j k).length, S.code, S.guards, l⟩ j.bK j.cJ point r) (fun i => S.code.length - i) 0 ⟨by simp [dF, b6], aA.le_refl _, Nat.zero_le _, fun r q => absurd q (Nat.not_lt_zero r)⟩ ?_
     rintro i ⟨hi, hbad⟩
     rcases Nat.lt_or_ge i S.code.length with hlt | hge
     ·have ei : S.code[i]? = some S.code[i] := List.getElem?_eq_getElem hlt
      have en := aLU (b := qC S.code L) (k := i) (by omega)
      have hins := g1.ins i _ ei
      have nx : ¬ rX ⟨(bJ j k).length, S.code, S.guards, l⟩ j.bK j.cJ point i → ∀ r, r < i + 1 → ¬ rX ⟨(bJ j k).length, S.code, S.guards, l⟩ j.bK j.cJ point r := fun q r hr => by
       rcases Nat.lt_succ_iff_lt_or_eq.1 hr with hr | rfl
       ·exact hbad r hr
       ·exact q
      have bi : rX ⟨(bJ j k).length, S.code, S.guards, l⟩ j.bK j.cJ point i ↔ ((qC S.code L).getD i false = true ∧ S.code[i].lU = 1 ∧ S.code[i].aX < j.bK ∧ ¬ j.cJ.getD S.code[i].aX.toNat 0 = point.getD S.code[i].aX.toNat 0) := by
       rw [rX]
       simp only
       rw [← hends, en, ei]
       simp
      by_cases hq : S.code[i].lU = 1 ∧ S.code[i].aX < j.bK
      ·have hnum : 0 ≤ S.code[i].aX := by unfold eJ at hins; omega
       have hpl : (j.cJ.length : Int) = j.bK := ok.2.1.1
       have pj : j.cJ[S.code[i].aX.toNat]? = some (j.cJ.getD S.code[i].aX.toNat 0) := cX (by omega)
       have pp : point[S.code[i].aX.toNat]? = some (point.getD S.code[i].aX.toNat 0) := cX (by omega)
       simp -dsimp -implicitDefEqProofs only [go_sem, ↓reduceIte, Tryz.f27, hnl, hlt, ei, en, h9n, bC.aR, pj, pp]
       intro m9 z9
       refine ⟨fun hb => ⟨fun h1 => ⟨fun hs => ⟨hnum, by omega, hnum, by omega, fun hd => ⟨(decide_eq_false fun z => ?_).symm, aA.aP (hz9 z9) (aA.aP (hz9 z9) aQ2)⟩, fun hd => ?_⟩, fun hs => absurd hq.2 hs⟩, fun h1 => absurd hq.1 h1⟩, fun hb => ?_⟩
       ·exact (hu.1 z) ⟨i, bi.2 ⟨hb, h1, hs, hd⟩⟩
       ·exact ⟨i + 1, by rw [IntWalk.i64_in _ (by omega)]; rfl, aA.aP z9 (aA.aP z9 (aA.le_refl _)), ⟨hlt, nx fun z => (bi.1 z).2.2.2 hd⟩, by omega⟩
       ·exact ⟨i + 1, by rw [IntWalk.i64_in _ (by omega)]; rfl, aA.aP z9 (aA.aP z9 (aA.le_refl _)), ⟨hlt, nx fun z => by have := (bi.1 z).1; rw [hb] at this; cases this⟩, by omega⟩
      ·simp -dsimp -implicitDefEqProofs only [go_sem, ↓reduceIte, Tryz.f27, hnl, hlt, ei, en, h9n, bC.aR]
       intro m9 z9
       have hno : ¬ rX ⟨(bJ j k).length, S.code, S.guards, l⟩ j.bK j.cJ point i := fun z => hq ⟨(bi.1 z).2.1, (bi.1 z).2.2.1⟩
       refine ⟨fun hb => ⟨fun h1 => ⟨fun hs => absurd ⟨h1, hs⟩ hq, fun hs => ?_⟩, fun h1 => ?_⟩, fun hb => ?_⟩
       all_goals exact ⟨i + 1, by rw [IntWalk.i64_in _ (by omega)]; rfl, aA.aP z9 (aA.aP z9 (aA.le_refl _)), ⟨hlt, nx hno⟩, by omega⟩
     ·have hi' : i = S.code.length := by omega
      subst hi'
      simp -dsimp -implicitDefEqProofs only [go_sem, ↓reduceIte, Tryz.f27, hnl, Nat.lt_irrefl, Int.lt_irrefl]
      refine ⟨(decide_eq_true (hu.2 fun ⟨r, hr⟩ => ?_)).symm, aQ2⟩
      obtain ⟨_, c, hc, _⟩ := hr
      exact hbad r (List.getElem?_eq_some_iff.1 hc).1 ⟨by assumption, c, hc, by assumption⟩
    |some m =>
     have hm := ho m rfl
     rw [qP, aJ]
     refine aH.a5W (es := L.map fun n => [I n]) hneed (by simp [gB, gA]) (by simp [lM, aD.fK, List.take_of_length_le]) ?_
     simp -dsimp -implicitDefEqProofs only [go_sem, ↓reduceIte, Tryz.f27, h7n]
     intro _
     have dnm : ¬ n = m := fun e => by rw [← e, h7n] at hm; cases hm
     have h9n : (aT h7 m .gone) n = some (.row 4 [[.v (I (bJ j k).length), .v (eI 4 bC.c S.code), .v (eI 2 eC.c S.guards), .v (ints l)]]) := by rw [aC _ _ _ _ dnm]; exact h7n
     have hmh : h m = none := by
      have := aDZ m
      rcases this with e | e
      ·exact e
      ·rw [hm] at e; exact e
     have aQ2 : h.le (aT h7 m .gone) := aA.aP hmh aDZ
     generalize aT h7 m .gone = H9 at *
     have hz9 : ∀ {q : Nat}, H9 q = none → h q = none := fun {q} e => by
      rcases aQ2 q with h1 | h1
      ·exact h1
      ·rw [h1, e]
     refine dA (keep := aDY) (ib := aUV) (mk := aUW) mix (by kernel_rfl) (fun i : Nat => [(2, ints point), (3, .ip 5 [[eI 3 aS.c j.aU.aI, I j.cO, I j.bK, eI 1 (fun n => [I n]) j.cJ, eI 1 (fun x => [eI 1 (fun n => [I n]) x]) j.cP]] 0 0), (7, .op n 4 0 0), (66, eI 1 (fun b => [.bool b]) (qC S.code L)), (67, I (qC S.code L).length), (68, I i)]) (fun _ => H9) (fun i => i ≤ S.code.length ∧ ∀ r, r < i → ¬ rX ⟨(bJ j k).length, S.code, S.guards, l⟩ j.bK j.cJ point r) (fun i => S.code.length - i) 0 ⟨by simp [dF, b6], aA.le_refl _, Nat.zero_le _, fun r q => absurd q (Nat.not_lt_zero r)⟩ ?_
     rintro i ⟨hi, hbad⟩
     rcases Nat.lt_or_ge i S.code.length with hlt | hge
     ·have ei : S.code[i]? = some S.code[i] := List.getElem?_eq_getElem hlt
      have en := aLU (b := qC S.code L) (k := i) (by omega)
      have hins := g1.ins i _ ei
      have nx : ¬ rX ⟨(bJ j k).length, S.code, S.guards, l⟩ j.bK j.cJ point i → ∀ r, r < i + 1 → ¬ rX ⟨(bJ j k).length, S.code, S.guards, l⟩ j.bK j.cJ point r := fun q r hr => by
       rcases Nat.lt_succ_iff_lt_or_eq.1 hr with hr | rfl
       ·exact hbad r hr
       ·exact q
      have bi : rX ⟨(bJ j k).length, S.code, S.guards, l⟩ j.bK j.cJ point i ↔ ((qC S.code L).getD i false = true ∧ S.code[i].lU = 1 ∧ S.code[i].aX < j.bK ∧ ¬ j.cJ.getD S.code[i].aX.toNat 0 = point.getD S.code[i].aX.toNat 0) := by
       rw [rX]
       simp only
       rw [← hends, en, ei]
       simp
      by_cases hq : S.code[i].lU = 1 ∧ S.code[i].aX < j.bK
      ·have hnum : 0 ≤ S.code[i].aX := by unfold eJ at hins; omega
       have hpl : (j.cJ.length : Int) = j.bK := ok.2.1.1
       have pj : j.cJ[S.code[i].aX.toNat]? = some (j.cJ.getD S.code[i].aX.toNat 0) := cX (by omega)
       have pp : point[S.code[i].aX.toNat]? = some (point.getD S.code[i].aX.toNat 0) := cX (by omega)
       simp -dsimp -implicitDefEqProofs only [go_sem, ↓reduceIte, Tryz.f27, hnl, hlt, ei, en, h9n, bC.aR, pj, pp]
       intro m9 z9
       refine ⟨fun hb => ⟨fun h1 => ⟨fun hs => ⟨hnum, by omega, hnum, by omega, fun hd => ⟨(decide_eq_false fun z => ?_).symm, aA.aP (hz9 z9) (aA.aP (hz9 z9) aQ2)⟩, fun hd => ?_⟩, fun hs => absurd hq.2 hs⟩, fun h1 => absurd hq.1 h1⟩, fun hb => ?_⟩
       ·exact (hu.1 z) ⟨i, bi.2 ⟨hb, h1, hs, hd⟩⟩
       ·exact ⟨i + 1, by rw [IntWalk.i64_in _ (by omega)]; rfl, aA.aP z9 (aA.aP z9 (aA.le_refl _)), ⟨hlt, nx fun z => (bi.1 z).2.2.2 hd⟩, by omega⟩
       ·exact ⟨i + 1, by rw [IntWalk.i64_in _ (by omega)]; rfl, aA.aP z9 (aA.aP z9 (aA.le_refl _)), ⟨hlt, nx fun z => by have := (bi.1 z).1; rw [hb] at this; cases this⟩, by omega⟩
      ·simp -dsimp -implicitDefEqProofs only [go_sem, ↓reduceIte, Tryz.f27, hnl, hlt, ei, en, h9n, bC.aR]
       intro m9 z9
       have hno : ¬ rX ⟨(bJ j k).length, S.code, S.guards, l⟩ j.bK j.cJ point i := fun z => hq ⟨(bi.1 z).2.1, (bi.1 z).2.2.1⟩
       refine ⟨fun hb => ⟨fun h1 => ⟨fun hs => absurd ⟨h1, hs⟩ hq, fun hs => ?_⟩, fun h1 => ?_⟩, fun hb => ?_⟩
       all_goals exact ⟨i + 1, by rw [IntWalk.i64_in _ (by omega)]; rfl, aA.aP z9 (aA.aP z9 (aA.le_refl _)), ⟨hlt, nx hno⟩, by omega⟩
     ·have hi' : i = S.code.length := by omega
      subst hi'
      simp -dsimp -implicitDefEqProofs only [go_sem, ↓reduceIte, Tryz.f27, hnl, Nat.lt_irrefl, Int.lt_irrefl]
      refine ⟨(decide_eq_true (hu.2 fun ⟨r, hr⟩ => ?_)).symm, aQ2⟩
      obtain ⟨_, c, hc, _⟩ := hr
      exact hbad r (List.getElem?_eq_some_iff.1 hc).1 ⟨by assumption, c, hc, by assumption⟩
set_option maxRecDepth 100000
open Go.Proofs
set_option linter.unusedVariables false
set_option linter.unusedSimpArgs false
noncomputable def wY (j : eU) (k : Int) (point : List Int) : Bool × Int := if j.ok then if uW j k ∧ (point.length : Int) = j.bK ∧ fG point then (decide (aDX j k.toNat point), 0) else (false, 2) else (false, 1)
theorem aO4 {j : eU} {k : Int} {point : List Int} (h : ¬ j.ok) : wY j k point = (false, 1) := if_neg h
theorem yW {j : eU} {k : Int} {point : List Int} (h : j.ok) (h2 : ¬ (uW j k ∧ (point.length : Int) = j.bK ∧ fG point)) : wY j k point = (false, 2) := by rw [wY, if_pos h, if_neg h2]
theorem vS {j : eU} {k : Int} {point : List Int} (h : j.ok) (h2 : uW j k ∧ (point.length : Int) = j.bK ∧ fG point) : wY j k point = (decide (aDX j k.toNat point), 0) := by rw [wY, if_pos h, if_pos h2]
@[go_sem] def bGF : List Nat := [0, 1, 2, 3, 6, 7, 8, 12]
@[go_sem] def ib9 : List Nat := [3]
@[go_sem] def mk9 : Marks := fun _ => ([], .nil, [])
theorem aUX (j : eU) (k : Int) (point : List Int) (hs : j.s ≤ 1048576) : gV Tryz.prog 9 [.agg j.c, I k, ints point] (.kL [.bool (wY j k point).1, I (wY j k point).2]) := by
 have hs' := j.tA
 simp only [lC] at hs'
 have hok := aOH j (by omega)
 have hhas := has j k (by omega)
 have han := lE point j.bK
 simp only [eU.aR] at hok hhas ⊢
 refine gD 28 bGF ib9 mk9 mix Tryz.func9 rfl (by kernel_rfl) (by simp) fun h => ?_
 simp -dsimp -implicitDefEqProofs only [go_sem, ↓reduceIte, Tryz.f9]
 first | refine aH.mk (hok) ?_ | refine aF.mk (hok) ?_ | refine aH.bY (hok) ?_ | refine aF.mk (bQ.fJ (hok)) ?_
 simp -dsimp -implicitDefEqProofs only [go_sem, ↓reduceIte, Tryz.f9]
 refine ⟨fun hn => by rw [aO4 hn], fun hj => ?_⟩
 first | refine aH.mk (hhas) ?_ | refine aF.mk (hhas) ?_ | refine aH.bY (hhas) ?_ | refine aF.mk (bQ.fJ (hhas)) ?_
 simp -dsimp -implicitDefEqProofs only [go_sem, ↓reduceIte, Tryz.f9]
 refine ⟨fun ht => ?_, fun ht => ?_⟩
 all_goals try (rw [yW hj (fun z => ht z.1)]; done)
 first | refine aH.mk (han) ?_ | refine aF.mk (han) ?_ | refine aH.bY (han) ?_ | refine aF.mk (bQ.fJ (han)) ?_
 simp -dsimp -implicitDefEqProofs only [go_sem, ↓reduceIte, Tryz.f9]
 refine ⟨fun hp => ?_, fun hp => ?_⟩
 all_goals try (rw [yW hj (fun z => hp z.2)]; done)
 have k1 := ht.1
 have k2 := ht.2
 have hkl : k.toNat < j.cP.length := by omega
 have hu := aQ1 hj (by omega) hkl point hp.1
 rw [show ((k.toNat : Nat) : Int) = k by omega] at hu
 simp only [eU.aR] at hu
 first | refine aH.mk (hu) ?_ | refine aF.mk (hu) ?_ | refine aH.bY (hu) ?_ | refine aF.mk (bQ.fJ (hu)) ?_
 simp -dsimp -implicitDefEqProofs only [go_sem, ↓reduceIte, Tryz.f9]
 rw [vS hj ⟨ht, hp⟩]
set_option maxRecDepth 100000
open Go.Proofs
set_option linter.unusedVariables false
set_option linter.unusedSimpArgs false
def aJP (X : Out (List (List Int))) : List Int × Int × Int := match X with
 | .ok (vs, t) => (vs.map (·.getD 0 0), t, 0)
 | .error c => ([], 0, c)
theorem aO5 {X : Out (List (List Int))} {l : List (List Int)} {t : Nat} {c : Int} (h : jB X l t c) : aJP X = if c = 0 then (l.map (·.getD 0 0), (t : Int), 0) else ([], 0, c) := by
 cases X with
 |ok p =>
  obtain ⟨w, u⟩ := p
  obtain ⟨rfl, rfl, rfl⟩ := h
  rfl
 |error d =>
  obtain ⟨rfl, h⟩ := h
  rw [if_neg h]; rfl
@[go_sem] def a88 : List Nat := [0, 1, 4]
@[go_sem] def bL6 : List Nat := []
@[go_sem] def bL7 : Marks := fun _ => ([], .nil, [])
theorem a2P (a b : List Int) (ha : a.length ≤ 1000) (hb : b.length ≤ 1000) : gV Tryz.prog 60 [ints a, ints b] (ints (a ++ b)) := by
 refine uU 9 a88 bL6 bL7 mix Tryz.func60 rfl (by kernel_rfl) (by simp) fun h => ?_
 simp -dsimp -implicitDefEqProofs only [go_sem, ↓reduceIte, Tryz.f60]
 refine aH.wn0 (aQJ a (by omega)) ?_
 rintro r l g ⟨y, oy, rfl, rfl⟩ wn
 rcases oy.aQE with ⟨rfl, ha0⟩ | ⟨n, rfl⟩
 ·subst ha0
  simp -dsimp -implicitDefEqProofs only [go_sem, ↓reduceIte, Tryz.f60, OV.aKM]
  refine ⟨Nat.zero_lt_one, fun e => ?_, fun _ => ⟨by omega, by omega, fun n hn => (fQ b hn (aA.le_refl _) rfl).trans (cI wn.le)⟩⟩
  have : b = [] := by simpa using e
  subst this
  exact Shift.of (Sub.loose _ _ _) wn.le
 ·rw [OV.aN9]
  have gn : g n = some (.row 1 ((a.map fun n => [I n]).map (List.map .v))) := by
   rw [OV.jF] at wn
   rw [← qI]
   exact wn.pN (n, _) List.mem_cons_self
  simp -dsimp -implicitDefEqProofs only [go_sem, ↓reduceIte, Tryz.f60, gn]
  refine ⟨Nat.zero_lt_one, Nat.le_refl _, by omega, by omega, fun m hm => ?_⟩
  rw [List.take_of_length_le (by simp), ← List.map_append, ← List.map_append]
  exact fQ (a ++ b) (aA.le_none wn.le hm) (aA.kD (aA.aP (wn.fresh n (by rw [OV.jF]; simp [bP])) wn.le)) (by rw [List.length_append])
@[go_sem] def aLW : List Nat := [0, 1, 2, 6, 7, 8, 9, 10, 11, 12, 13, 14, 22, 46, 56]
@[go_sem] def a2Q : List Nat := [18, 30, 31, 47, 52, 66]
@[go_sem] def a2R : Marks := fun id => match id with | 9 => ([4], (.op 0 (.op 1 (.op 2 (.op 3 (.op 4 (.op 5 (.op 6 (.op 7 .nil)))))))), []) | 15 => ([4], (.op 0 (.op 1 (.op 2 (.op 3 (.op 4 (.op 5 (.op 6 (.op 7 .nil)))))))), []) | _ => ([], .nil, [])
theorem a2S {p : aE} (hp : p.ok) (f : Int) (hf : 0 ≤ f ∧ f < p.aI.length) (args : List Int) (na : fG args) (hal : args.length ≤ 12) (hl : ∀ F, p.aI[f.toNat]? = some F → (args.length : Int) = F.aZ) :
  gV Tryz.prog 61 [.ip 1 [p.c] 0 0, I f, ints args] (.kL [ints (aJP (xW p 1 f (args.map fun n => [n]))).1, I (aJP (xW p 1 f (args.map fun n => [n]))).2.1, I (aJP (xW p 1 f (args.map fun n => [n]))).2.2]) := by
 obtain ⟨F, ef, hF1, hF2, hF3, hF4⟩ := nN hp hf
 have hlF := hl F ef
 rw [aE.aR]
 refine uU 73 aLW a2Q a2R mix Tryz.func61 rfl (by kernel_rfl) (by simp) fun h => ?_
 simp -dsimp -implicitDefEqProofs only [go_sem, ↓reduceIte, Tryz.f61]
 intro nb zb
 refine ⟨Nat.zero_lt_one, ?_⟩
 have hbd : cB.row 4 [[Cell.v (.ip 1 [[eI 3 aS.c p.aI]] 0 0), Cell.v (I 1), Cell.v (I 0), Cell.v (I 0)]] = eN p 1 0 0 := rfl
 rw [hbd]
 have hB0 : (aT h nb (eN p 1 0 0)) nb = some (eN p 1 0 0) := aG _ _ _
 have hBl : h.le (aT h nb (eN p 1 0 0)) := aA.aP zb (aA.le_refl _)
 generalize hgB : aT h nb (eN p 1 0 0) = hB at hB0 hBl ⊢
 refine aN7 (keep := aLW) (ib := a2Q) (mk := a2R) mix (by kernel_rfl) (fun x : Nat × Option Nat => [(0, .ip 1 [[eI 3 aS.c p.aI]] 0 0), (1, I f), (2, ints args), (9, .op nb 4 0 0), (10, jM 1 (args.take x.1).length x.2), (11, I x.1)]) (fun x => cQ hB (.row 1 ((((args.take x.1).map fun n => [n]).map fun s => [ints s]).map (List.map .v))) x.2) (fun x => x.1 ≤ args.length ∧ gX hB (args.take x.1) x.2) (fun x => args.length - x.1) (0, none) ⟨by simp [dF, b6, jM], by simp only [aQ]; exact aA.j7 (aA.le_refl _), Nat.zero_le _, by simp [gX]⟩ ?_
 rintro ⟨k, o⟩ ⟨hk, hos⟩
 simp only at hk hos ⊢
 rcases Nat.lt_or_ge k args.length with hlt | hge
 ·have ea : args[k]? = some args[k] := List.getElem?_eq_getElem hlt
  have hy : args.take (k + 1) = args.take k ++ [args[k]] := List.take_succ_eq_append_getElem hlt
  have hlk : (args.take k).length = k := by rw [List.length_take]; omega
  cases o with
  |none =>
   rw [bH] at hos
   rw [hos] at hy ⊢
   simp -dsimp -implicitDefEqProofs only [go_sem, ↓reduceIte, Tryz.f61, bU, aQ, hlt, ea]
   intro _
   refine ⟨Nat.zero_lt_one, Nat.zero_lt_one, Nat.zero_lt_one, Nat.zero_lt_one, Nat.zero_lt_one, fun b hb => ⟨(k + 1, some b), ?_⟩⟩
   simp only [hy]
   refine ⟨⟨rfl, by rw [IntWalk.i64_in _ (by omega)]; rfl⟩, aFG (A := []) (x := .sl 1 [[I args[k]]] true) (y := ints [args[k]]) (aG _ _ _) (Sub.loose _ _ _) (by rw [aM]; exact aA.le_refl _), ⟨by omega, hb⟩, by omega⟩
  |some n =>
   rw [aV] at hos
   simp -dsimp -implicitDefEqProofs only [go_sem, ↓reduceIte, Tryz.f61, aY, aJ, hlt, ea]
   intro _
   refine ⟨Nat.zero_lt_one, Nat.zero_lt_one, Nat.zero_lt_one, Nat.zero_lt_one, Nat.zero_lt_one, Nat.le_refl _, by omega, by omega, fun b hb => ⟨(k + 1, some b), ?_⟩⟩
   simp only [hy, aJ, aY, aV]
   refine ⟨⟨by rw [List.length_append]; rfl, by rw [IntWalk.i64_in _ (by omega)]; rfl⟩, aFG (x := .sl 1 [[I args[k]]] true) (y := ints [args[k]]) (aG _ _ _) (Sub.loose _ _ _) ?_, ⟨by omega, hb.2⟩, by omega⟩
   have hl2 : (args.take k).length = ((args.take k).map fun n => [n]).length := by rw [List.length_map]
   rw [aM, List.map_append, show ((args.take k).map fun n => [n]) ++ [args[k]].map (fun n => [n]) = ((args.take k).map fun n => [n]) ++ [[args[k]]] from rfl, ← fO ints, hl2]
   exact lN hos
 have hk' : k = args.length := by omega
 subst hk'
 rw [List.take_length] at hos ⊢
 have hserA : ∀ s ∈ args.map (fun n => [n]), cV 1 s := fun s hs => by
  obtain ⟨n, hn, rfl⟩ := List.mem_map.1 hs
  refine ⟨rfl, fun x hx => ?_⟩
  rw [List.mem_singleton.1 hx]
  exact na n hn
 have hlA : ((args.map fun n => [n]).length : Int) = F.aZ := by rw [List.length_map]; exact hlF
 have hnbB : ∀ {m : Nat}, hB m = none → ¬ nb = m := fun hm e => by rw [← e, hB0] at hm; cases hm
 cases o with
 |none =>
  rw [bH] at hos
  subst hos
  simp -dsimp -implicitDefEqProofs only [go_sem, ↓reduceIte, Tryz.f61, bU, aQ, Nat.lt_irrefl, Int.lt_irrefl, ef]
  refine ⟨hf.1, by omega, ?_⟩
  have ho := aLB (run hp (by decide : 1 ≤ 1 ∧ 1 ≤ 1048576) 3001) hB nb 0 0 F [] f hB0 (by omega) (by omega) (by omega) (by rw [List.length_map] at hlA; rw [show (([] : List (List Int)).length : Int) = F.aZ from hlA]; exact hF4) hf.1 (by omega) (by simp) (by simp)
  refine aH.eM (fF.sub (.cons (.refl _) (.cons (Sub.ip (by rw [List.getElem?_map, ef]; rfl) (by simp [aS.aR])) (.cons (Sub.loose _ _ _) .nil))) ho) ?_
  rintro r h' ⟨vs, t, c, rfl, rfl, hvl, hvs, a1, a2, a3⟩
  have hCl : h.le (aT hB nb (eN p 1 t c)) := aA.aP zb hBl
  have hCn : (aT hB nb (eN p 1 t c)) nb = some (.row 4 [[.v (.ip 1 [p.c] 0 0), .v (I 1), .v (I t), .v (I c)]]) := aG _ _ _
  generalize aT hB nb (eN p 1 t c) = hC at hCn hCl ⊢
  rw [dC, ← hF3] at a3
  simp -dsimp -implicitDefEqProofs only [go_sem, ↓reduceIte, Tryz.f61, hCn]
  have vC := aO5 (show jB (xW p 1 f _) vs t c from a3)
  refine ⟨fun hc => ⟨Nat.zero_lt_one, ?_⟩, fun hc => ⟨Nat.zero_lt_one, ?_⟩⟩
  ·try simp only [List.map_nil]
   rw [vC, if_neg hc]
   exact Shift.of (Sub.kL (.cons (Sub.loose _ _ _) (.cons (.refl _) (.cons (.refl _) .nil)))) hCl
  subst hc
  rw [if_pos rfl] at vC
  have hcv : (vs.map fun s => s.getD 0 0).length = vs.length := List.length_map _
  refine dA (keep := aLW) (ib := a2Q) (mk := a2R) mix (by kernel_rfl) (fun x : Nat × Option Nat => [(9, .op nb 4 0 0), (12, fE vs), (13, jM 1 ((vs.map fun s => s.getD 0 0).take x.1).length x.2), (14, I x.1)]) (fun x => cQ hC (.row 1 ((((vs.map fun s => s.getD 0 0).take x.1).map fun n => [I n]).map (List.map .v))) x.2) (fun x => x.1 ≤ vs.length ∧ gX hC ((vs.map fun s => s.getD 0 0).take x.1) x.2) (fun x => vs.length - x.1) (0, none) ⟨by simp [dF, b6, jM], by simp only [aQ]; exact aA.le_refl _, Nat.zero_le _, by simp [gX]⟩ ?_
  rintro ⟨k, o⟩ ⟨hk, hos⟩
  simp only at hk hos ⊢
  rcases Nat.lt_or_ge k vs.length with hlt | hge
  ·have ea : vs[k]? = some vs[k] := List.getElem?_eq_getElem hlt
   have h0 := hvs _ (List.getElem_mem hlt)
   have e0 : (vs[k])[Int.toNat 0]? = some (vs[k].getD 0 0) := cX (by rw [h0.1]; decide)
   have h0l := h0.1
   have hy : (vs.map fun s => s.getD 0 0).take (k + 1) = (vs.map fun s => s.getD 0 0).take k ++ [(vs.map fun s => s.getD 0 0)[k]'(by omega)] := List.take_succ_eq_append_getElem (by omega)
   have hlk : ((vs.map fun s => s.getD 0 0).take k).length = k := by rw [List.length_take]; omega
   rw [List.getElem_map] at hy
   cases o with
   |none =>
    rw [bH] at hos
    rw [hos] at hy ⊢
    simp -dsimp -implicitDefEqProofs only [go_sem, ↓reduceIte, Tryz.f61, bU, aQ, hlt, ea, e0]
    repeat' (with_reducible first | intro _ | refine And.intro ?_ ?_)
    all_goals try (first | omega | decide)
    rename_i b hb
    refine ⟨(k + 1, some b), ?_⟩
    simp only [hy]
    refine ⟨⟨rfl, ?_⟩, aA.le_refl _, ⟨by omega, hb⟩, by omega⟩
    rw [IntWalk.i64_in _ (by omega)]; rfl
   |some n =>
    rw [aV] at hos
    simp -dsimp -implicitDefEqProofs only [go_sem, ↓reduceIte, Tryz.f61, aY, aJ, hlt, ea, e0]
    repeat' (with_reducible first | intro _ | refine And.intro ?_ ?_)
    all_goals try (first | omega | decide | exact Nat.le_refl _)
    rename_i b hb
    refine ⟨(k + 1, some b), ?_⟩
    simp only [hy, aJ, aY, aV]
    refine ⟨⟨by rw [List.length_append]; rfl, ?_⟩, ?_, ⟨by omega, hb.2⟩, by omega⟩
    ·rw [IntWalk.i64_in _ (by omega)]; rfl
    ·rw [← fO]; exact lN hos
  ·have hk' : k = vs.length := by omega
   subst hk'
   rw [List.take_of_length_le (by omega)] at hos ⊢
   cases o with
   |none =>
    rw [bH] at hos
    simp -dsimp -implicitDefEqProofs only [go_sem, ↓reduceIte, Tryz.f61, bU, aQ, Nat.lt_irrefl, Int.lt_irrefl, hCn]
    intro _
    try simp only [List.map_nil]
    rw [vC, hos]
    exact Shift.of (Sub.kL (.cons (Sub.loose _ _ _) (.cons (.refl _) (.cons (.refl _) .nil)))) hCl
   |some n =>
    rw [aV] at hos
    have pR : ¬ n = nb := fun e => by rw [e, hCn] at hos; cases hos
    have wO : ¬ nb = n := Ne.symm pR
    have qL : (n = nb) = False := eq_false pR
    have qM : (nb = n) = False := eq_false wO
    simp -dsimp -implicitDefEqProofs only [go_sem, ↓reduceIte, Tryz.f61, aY, aJ, Nat.lt_irrefl, Int.lt_irrefl, aC, qL, qM, hCn]
    intro _
    try simp only [List.map_nil]
    rw [vC]
    refine Shift.trans (jP ((vs.map fun s => s.getD 0 0).map fun n => [I n]) hos (aA.le_refl _) (by simp [gA, gB]) ?_) (cI hCl)
    simp [aD.fK, lM, List.take_of_length_le]
 |some n =>
  rw [aV] at hos
  simp -dsimp -implicitDefEqProofs only [go_sem, ↓reduceIte, Tryz.f61, aY, aJ, Nat.lt_irrefl, Int.lt_irrefl, ef]
  intro _
  refine ⟨hf.1, by omega, ?_⟩
  have hnn := hnbB hos
  refine aH.aEP rfl rfl hnn (by rw [List.length_map, List.length_map]) hos ?_
  have ho := aLB (run hp (by decide : 1 ≤ 1 ∧ 1 ≤ 1048576) 3001) (aT hB n .gone) nb 0 0 F (args.map fun n => [n]) f (by rw [aC _ _ _ _ hnn]; exact hB0) (by omega) (by omega) (by omega) (by rw [hlA]; exact hF4) hf.1 (by omega) hserA (by rw [List.length_map]; omega)
  refine fF.mono (fF.sub (.cons (.refl _) (.cons (Sub.ip (by rw [List.getElem?_map, ef]; rfl) (by simp [aS.aR])) (.cons (.refl _) .nil))) ho) ?_
  rintro r h' ⟨vs, t, c, rfl, rfl, hvl, hvs, a1, a2, a3⟩
  have hhn : h n = none := by rw [← hgB, aC _ _ _ _ (Ne.symm hnn)] at hos; exact hos
  have hCl : h.le (aT (aT hB n .gone) nb (eN p 1 t c)) := aA.aP zb (aA.aP hhn hBl)
  have hCn : (aT (aT hB n .gone) nb (eN p 1 t c)) nb = some (.row 4 [[.v (.ip 1 [p.c] 0 0), .v (I 1), .v (I t), .v (I c)]]) := aG _ _ _
  generalize aT (aT hB n .gone) nb (eN p 1 t c) = hC at hCn hCl ⊢
  rw [dC, ← hF3] at a3
  simp -dsimp -implicitDefEqProofs only [go_sem, ↓reduceIte, Tryz.f61, hCn]
  have vC := aO5 (show jB (xW p 1 f _) vs t c from a3)
  refine ⟨fun hc => ⟨Nat.zero_lt_one, ?_⟩, fun hc => ⟨Nat.zero_lt_one, ?_⟩⟩
  ·try simp only [List.map_nil]
   rw [vC, if_neg hc]
   exact Shift.of (Sub.kL (.cons (Sub.loose _ _ _) (.cons (.refl _) (.cons (.refl _) .nil)))) hCl
  subst hc
  rw [if_pos rfl] at vC
  have hcv : (vs.map fun s => s.getD 0 0).length = vs.length := List.length_map _
  refine dA (keep := aLW) (ib := a2Q) (mk := a2R) mix (by kernel_rfl) (fun x : Nat × Option Nat => [(9, .op nb 4 0 0), (12, fE vs), (13, jM 1 ((vs.map fun s => s.getD 0 0).take x.1).length x.2), (14, I x.1)]) (fun x => cQ hC (.row 1 ((((vs.map fun s => s.getD 0 0).take x.1).map fun n => [I n]).map (List.map .v))) x.2) (fun x => x.1 ≤ vs.length ∧ gX hC ((vs.map fun s => s.getD 0 0).take x.1) x.2) (fun x => vs.length - x.1) (0, none) ⟨by simp [dF, b6, jM], by simp only [aQ]; exact aA.le_refl _, Nat.zero_le _, by simp [gX]⟩ ?_
  rintro ⟨k, o⟩ ⟨hk, hos⟩
  simp only at hk hos ⊢
  rcases Nat.lt_or_ge k vs.length with hlt | hge
  ·have ea : vs[k]? = some vs[k] := List.getElem?_eq_getElem hlt
   have h0 := hvs _ (List.getElem_mem hlt)
   have e0 : (vs[k])[Int.toNat 0]? = some (vs[k].getD 0 0) := cX (by rw [h0.1]; decide)
   have h0l := h0.1
   have hy : (vs.map fun s => s.getD 0 0).take (k + 1) = (vs.map fun s => s.getD 0 0).take k ++ [(vs.map fun s => s.getD 0 0)[k]'(by omega)] := List.take_succ_eq_append_getElem (by omega)
   have hlk : ((vs.map fun s => s.getD 0 0).take k).length = k := by rw [List.length_take]; omega
   rw [List.getElem_map] at hy
   cases o with
   |none =>
    rw [bH] at hos
    rw [hos] at hy ⊢
    simp -dsimp -implicitDefEqProofs only [go_sem, ↓reduceIte, Tryz.f61, bU, aQ, hlt, ea, e0]
    repeat' (with_reducible first | intro _ | refine And.intro ?_ ?_)
    all_goals try (first | omega | decide)
    rename_i b hb
    refine ⟨(k + 1, some b), ?_⟩
    simp only [hy]
    refine ⟨⟨rfl, ?_⟩, aA.le_refl _, ⟨by omega, hb⟩, by omega⟩
    rw [IntWalk.i64_in _ (by omega)]; rfl
   |some n =>
    rw [aV] at hos
    simp -dsimp -implicitDefEqProofs only [go_sem, ↓reduceIte, Tryz.f61, aY, aJ, hlt, ea, e0]
    repeat' (with_reducible first | intro _ | refine And.intro ?_ ?_)
    all_goals try (first | omega | decide | exact Nat.le_refl _)
    rename_i b hb
    refine ⟨(k + 1, some b), ?_⟩
    simp only [hy, aJ, aY, aV]
    refine ⟨⟨by rw [List.length_append]; rfl, ?_⟩, ?_, ⟨by omega, hb.2⟩, by omega⟩
    ·rw [IntWalk.i64_in _ (by omega)]; rfl
    ·rw [← fO]; exact lN hos
  ·have hk' : k = vs.length := by omega
   subst hk'
   rw [List.take_of_length_le (by omega)] at hos ⊢
   cases o with
   |none =>
    rw [bH] at hos
    simp -dsimp -implicitDefEqProofs only [go_sem, ↓reduceIte, Tryz.f61, bU, aQ, Nat.lt_irrefl, Int.lt_irrefl, hCn]
    intro _
    try simp only [List.map_nil]
    rw [vC, hos]
    exact Shift.of (Sub.kL (.cons (Sub.loose _ _ _) (.cons (.refl _) (.cons (.refl _) .nil)))) hCl
   |some n =>
    rw [aV] at hos
    have pR : ¬ n = nb := fun e => by rw [e, hCn] at hos; cases hos
    have wO : ¬ nb = n := Ne.symm pR
    have qL : (n = nb) = False := eq_false pR
    have qM : (nb = n) = False := eq_false wO
    simp -dsimp -implicitDefEqProofs only [go_sem, ↓reduceIte, Tryz.f61, aY, aJ, Nat.lt_irrefl, Int.lt_irrefl, aC, qL, qM, hCn]
    intro _
    try simp only [List.map_nil]
    rw [vC]
    refine Shift.trans (jP ((vs.map fun s => s.getD 0 0).map fun n => [I n]) hos (aA.le_refl _) (by simp [gA, gB]) ?_) (cI hCl)
    simp [aD.fK, lM, List.take_of_length_le]
set_option maxRecDepth 100000
open Go.Proofs
set_option linter.unusedVariables false
set_option linter.unusedSimpArgs false
def bR (p : aE) (inp : Int) (S : c6) (om og ov : Option Nat) : cB :=
 .row 6 [[.v (.ip 1 [[eI 3 aS.c p.aI]] 0 0), .v (I inp), .v (gQ 4 S.code.length om), .v (gQ 2 S.guards.length og), .v .bI, .v (gQ 1 S.eZ.length ov)]]
theorem aO6 (p : aE) (inp : Int) : ∀ S om og ov, ∃ sz cs, bR p inp S om og ov = .row sz cs ∧ ¬ sz = 1 ∧ ¬ sz = 2 ∧ ¬ sz = 4 := fun S om og ov => ⟨6, _, rfl, by decide, by decide, by decide⟩
@[go_sem] def aYE : List Nat := [0, 1, 2, 4, 6]
@[go_sem] def bGG : List Nat := [4, 14, 25]
@[go_sem] def bGH : Marks := fun id => match id with | 1 => ([5, 8, 12], (.op 0 (.op 1 (.op 2 (.op 3 (.op 4 (.op 6 (.op 7 (.op 5 (.op 8 (.op 9 (.op 10 (.op 11 (.op 12 .nil))))))))))))), []) | _ => ([], .nil, [])
theorem yX {h0 h : aA} {nb : Nat} {p : aE} {inp : Int} {S : c6} (H : dJ (bR p inp) h0 nb S h) (x : bC) (v : Int) (hl : S.code.length = S.eZ.length) (hcap : S.eZ.length ≤ 1048576) :
  fF Tryz.prog 90 [.op nb 6 0 0, .agg x.c, I v] h fun r h' => r = I S.eZ.length ∧ dJ (bR p inp) h0 nb (S.put x v) h' := by
 obtain ⟨om, og, ov, H⟩ := H
 have hb := H.box
 have hc := H.code
 have hv := H.eZ
 unfold bR at hb
 rw [bC.aR]
 cases om with
 |none =>
  have hc0 : S.code = [] := gZ.1 hc
  cases ov with
  |some v =>
   have nF : S.eZ = [] := List.eq_nil_of_length_eq_zero (by rw [← hl, hc0]; rfl)
   exact absurd (by rw [nF]; rfl) hv.1
  |none =>
   have nF : S.eZ = [] := gZ.1 hv
   refine gK 36 aYE bGG bGH mix Tryz.func90 rfl (by kernel_rfl) (by simp) ?_
   simp -dsimp -implicitDefEqProofs only [go_sem, ↓reduceIte, Tryz.f90, hb, iY]
   refine ⟨by decide, by decide, by decide, fun m hm => ?_⟩
   have dD : ¬ m = nb := fun e => by rw [e, hb] at hm; cases hm
   have cS : ¬ nb = m := Ne.symm dD
   have dH : (m = nb) = False := eq_false dD
   have dI : (nb = m) = False := eq_false cS
   simp -dsimp -implicitDefEqProofs only [go_sem, ↓reduceIte, Tryz.f90, hb, iY, dH, dI, aC]
   refine ⟨by decide, by decide, by decide, fun w ⟨hwb, hwm, hw⟩ => ?_⟩
   have oJ : ¬ w = nb := hwb
   have wU : ¬ nb = w := Ne.symm oJ
   have l6 : (w = nb) = False := eq_false oJ
   have l7 : (nb = w) = False := eq_false wU
   have vQ : ¬ w = m := hwm
   have aB0 : ¬ m = w := Ne.symm vQ
   have uD : (w = m) = False := eq_false vQ
   have uE : (m = w) = False := eq_false aB0
   try simp -dsimp -implicitDefEqProofs only [go_sem, ↓reduceIte, Tryz.f90, hb, dH, uE, dI, l7, uD, l6, aC]
   obtain ⟨g, hg, hR⟩ := H.put x v hm hw vQ (F := aT (aT (aT h m (.row 4 [x.c.map .v])) w (.row 1 [[.v (I v)]])) nb (bR p inp (S.put x v) (some m) og (some w))) (aG _ _ _)
    (by rw [aC _ _ _ _ dD, aC _ _ _ _ aB0, aG, hc0]; rfl) (by rw [aC _ _ _ _ oJ, aG, nF]; rfl) (fun n h1 h2 h3 _ _ => by rw [aC _ _ _ _ h1, aC _ _ _ _ h3, aC _ _ _ _ h2])
   refine ⟨_, g, cI (aA.le_trans hg ?_), by rw [nF]; rfl, hR⟩
   unfold bR
   simp only [c6.put, hc0, nF, bE, bC.aR, List.nil_append, List.length_singleton, List.map_cons, List.map_nil]
   exact (iD (by repeat' (first | exact fS _ _ | refine iE (by simp only [dP, ↓reduceIte, eq_self, if_true, dH, uE, dI, l7, uD, l6]) ?_ | refine eY (by first | exact .inr (by assumption) | exact .inl (by simp)) ?_)))
 |some m =>
  cases ov with
  |none =>
   have nF : S.eZ = [] := gZ.1 hv
   have hc0 : S.code = [] := List.eq_nil_of_length_eq_zero (by rw [hl, nF]; rfl)
   exact absurd (by rw [hc0]; rfl) hc.1
  |some w =>
   have hm := hc.2
   have hw := hv.2
   have dD : ¬ m = nb := fun e => by rw [e, hb] at hm; cases hm
   have cS : ¬ nb = m := Ne.symm dD
   have dH : (m = nb) = False := eq_false dD
   have dI : (nb = m) = False := eq_false cS
   have oJ : ¬ w = nb := fun e => by rw [e, hb] at hw; cases hw
   have wU : ¬ nb = w := Ne.symm oJ
   have l6 : (w = nb) = False := eq_false oJ
   have l7 : (nb = w) = False := eq_false wU
   have vQ : ¬ w = m := fun e => by rw [e, hm] at hw; cases hw
   have aB0 : ¬ m = w := Ne.symm vQ
   have uD : (w = m) = False := eq_false vQ
   have uE : (m = w) = False := eq_false aB0
   refine gK 36 aYE bGG bGH mix Tryz.func90 rfl (by kernel_rfl) (by simp) ?_
   simp -dsimp -implicitDefEqProofs only [go_sem, ↓reduceIte, Tryz.f90, hb, bE, hm, hw, dH, uE, dI, l7, uD, l6, aC]
   refine ⟨by decide, by decide, by decide, by rw [eV]; exact Nat.le_refl _, by omega, by omega, fun b k7 => ?_⟩
   have cY : ¬ b = nb := fun e => by rw [e, hb] at k7; cases k7
   have gU : ¬ nb = b := Ne.symm cY
   have gF : (b = nb) = False := eq_false cY
   have gG : (nb = b) = False := eq_false gU
   have fW : ¬ b = m := fun e => by rw [e, hm] at k7; cases k7
   have mV : ¬ m = b := Ne.symm fW
   have kT : (b = m) = False := eq_false fW
   have kU : (m = b) = False := eq_false mV
   have aHL : ¬ b = w := fun e => by rw [e, hw] at k7; cases k7
   have aX5 : ¬ w = b := Ne.symm aHL
   have aHM : (b = w) = False := eq_false aHL
   have aHN : (w = b) = False := eq_false aX5
   simp -dsimp -implicitDefEqProofs only [go_sem, ↓reduceIte, Tryz.f90, hb, hw, dH, uE, kU, dI, l7, gG, uD, l6, aHN, kT, gF, aHM, aC]
   rw [bE]
   simp -dsimp -implicitDefEqProofs only [go_sem, ↓reduceIte, Tryz.f90, hb, hw, dH, uE, kU, dI, l7, gG, uD, l6, aHN, kT, gF, aHM, aC]
   refine ⟨by decide, by decide, by decide, by rw [eV]; exact Nat.le_refl _, by omega, by omega, fun b2 ⟨bL8, a8Z, a80, kE⟩ => ?_⟩
   have wV : ¬ b2 = nb := bL8
   have aLJ : ¬ nb = b2 := Ne.symm wV
   have aFH : (b2 = nb) = False := eq_false wV
   have aFI : (nb = b2) = False := eq_false aLJ
   have aHO : ¬ b2 = m := a80
   have aQP : ¬ m = b2 := Ne.symm aHO
   have aLK : (b2 = m) = False := eq_false aHO
   have aLL : (m = b2) = False := eq_false aQP
   have aHP : ¬ b2 = w := fun e => by rw [e, hw] at kE; cases kE
   have aQQ : ¬ w = b2 := Ne.symm aHP
   have aLM : (b2 = w) = False := eq_false aHP
   have aLN : (w = b2) = False := eq_false aQQ
   have aAT : ¬ b2 = b := a8Z
   have aHQ : ¬ b = b2 := Ne.symm aAT
   have aLO : (b2 = b) = False := eq_false aAT
   have aLP : (b = b2) = False := eq_false aHQ
   simp -dsimp -implicitDefEqProofs only [go_sem, ↓reduceIte, Tryz.f90, hb, hw, dH, uE, kU, aLL, dI, l7, gG, aFI, uD, l6, aHN, aLN, kT, gF, aHM, aLP, aLK, aFH, aLM, aLO, aC]
   rw [List.take_of_length_le (by rw [eV]; exact Nat.le_refl _), List.take_of_length_le (by rw [eV]; exact Nat.le_refl _)]
   obtain ⟨g, hg, hR⟩ := H.put x v k7 kE aAT (F := aT (aT (aT (aT (aT h m .gone) b (.row 4 (rowsOf bC.c S.code ++ [x.c.map .v]))) w .gone) b2 (.row 1 (rowsOf (fun n => [I n]) S.eZ ++ [[.v (I v)]]))) nb (bR p inp (S.put x v) (some b) og (some b2))) (aG _ _ _)
    (by rw [aC _ _ _ _ cY, aC _ _ _ _ aHQ, aC _ _ _ _ aHL, aG, lW]) (by rw [aC _ _ _ _ wV, aG, lW]; rfl)
    (fun n h1 h2 h3 h4 h5 => by rw [aC _ _ _ _ h1, aC _ _ _ _ h3, aC _ _ _ _ (fun q => h5 (by rw [q])), aC _ _ _ _ h2, aC _ _ _ _ (fun q => h4 (by rw [q]))])
   refine fun _ => ⟨_, g, cI (aA.le_trans hg ?_), ?_, hR⟩
   ·unfold bR
    simp only [c6.put, bE, bC.aR, List.length_append, List.length_singleton, List.map_cons, List.map_nil]
    exact (iD (by repeat' (first | exact fS _ _ | refine iE (by simp only [dP, ↓reduceIte, eq_self, if_true, dH, uE, kU, aLL, dI, l7, gG, aFI, uD, l6, aHN, aLN, kT, gF, aHM, aLP, aLK, aFH, aLM, aLO]) ?_ | refine eY (by first | exact .inr (by assumption) | exact .inl (by simp)) ?_)))
   ·rw [IntWalk.i64_in _ (by omega)]
    congr 1
    omega
set_option maxRecDepth 100000
open Go.Proofs
set_option linter.unusedVariables false
set_option linter.unusedSimpArgs false
@[go_sem] def a2T : List Nat := [0, 2]
@[go_sem] def bGI : List Nat := []
@[go_sem] def bGJ : Marks := fun _ => ([], .nil, [])
theorem aLX (a : Int) (ha : kI a) : gV Tryz.prog 143 [I a] (I ((0 - a) % 1000003)) := by
 unfold kI at ha
 refine gD 6 a2T bGI bGJ mix Tryz.func143 rfl (by kernel_rfl) (by simp) fun h => ?_
 simp -dsimp -implicitDefEqProofs only [go_sem, ↓reduceIte, Tryz.f143]
 rw [IntWalk.i64_in _ (by omega)]
 first | refine aH.mk (cZ (0 - a)) ?_ | refine aF.mk (cZ (0 - a)) ?_ | refine aH.bY (cZ (0 - a)) ?_ | refine aF.mk (bQ.fJ (cZ (0 - a))) ?_
 simp -dsimp -implicitDefEqProofs only [go_sem, ↓reduceIte, Tryz.f143]
@[go_sem] def a2U : List Nat := [0, 2, 3, 4, 6, 8]
@[go_sem] def bGK : List Nat := []
@[go_sem] def bGL : Marks := fun _ => ([], .nil, [])
theorem aS9 (k : Int) (hk : k = 3 ∨ k = 4 ∨ k = 5 ∨ k = 6) : gV Tryz.prog 145 [I k] (I k) := by
 refine gD 10 a2U bGK bGL mix Tryz.func145 rfl (by kernel_rfl) (by simp) fun h => ?_
 simp -dsimp -implicitDefEqProofs only [go_sem, ↓reduceIte, Tryz.f145]
 refine ⟨fun q => by rw [q], fun q => ⟨fun q4 => by rw [q4], fun q4 => ⟨fun q5 => by rw [q5], fun q5 => ?_⟩⟩⟩
 rw [show k = 6 by omega]
@[go_sem] def a2V : List Nat := [0, 1, 2, 6, 7, 8, 13, 18]
@[go_sem] def bGM : List Nat := []
@[go_sem] def bGN : Marks := fun _ => ([], .nil, [])
theorem jU (k a b v : Int) (ha : kI a) (hb : kI b) (hk : k = 3 ∨ k = 4 ∨ k = 5 ∨ k = 6) (hv : opV k a b = some v) : gV Tryz.prog 146 [I k, I a, I b] (I v) := by
 have hni : kI (oE b) := num_inv b
 refine gD 27 a2V bGM bGN mix Tryz.func146 rfl (by kernel_rfl) (by simp) fun h => ?_
 simp -dsimp -implicitDefEqProofs only [go_sem, ↓reduceIte, Tryz.f146]
 refine ⟨fun q => ?_, fun q => ⟨fun q4 => ?_, fun q4 => ⟨fun q5 => ?_, fun q5 => ?_⟩⟩⟩
 ·first | refine aH.mk (iA a b) ?_ | refine aF.mk (iA a b) ?_ | refine aH.bY (iA a b) ?_ | refine aF.mk (bQ.fJ (iA a b)) ?_
  simp -dsimp -implicitDefEqProofs only [go_sem, ↓reduceIte, Tryz.f146]
  unfold opV at hv; rw [if_pos q] at hv; rw [Option.some.inj hv]
 ·first | refine aH.mk (q0 a b ha hb) ?_ | refine aF.mk (q0 a b ha hb) ?_ | refine aH.bY (q0 a b ha hb) ?_ | refine aF.mk (bQ.fJ (q0 a b ha hb)) ?_
  simp -dsimp -implicitDefEqProofs only [go_sem, ↓reduceIte, Tryz.f146]
  unfold opV at hv; rw [if_neg q, if_pos q4] at hv; rw [Option.some.inj hv]
 ·first | refine aH.mk (bV a b ha hb) ?_ | refine aF.mk (bV a b ha hb) ?_ | refine aH.bY (bV a b ha hb) ?_ | refine aF.mk (bQ.fJ (bV a b ha hb)) ?_
  simp -dsimp -implicitDefEqProofs only [go_sem, ↓reduceIte, Tryz.f146]
  unfold opV at hv; rw [if_neg q, if_neg q4, if_pos q5] at hv; rw [Option.some.inj hv]
 ·first | refine aH.mk (yO b) ?_ | refine aF.mk (yO b) ?_ | refine aH.bY (yO b) ?_ | refine aF.mk (bQ.fJ (yO b)) ?_
  simp -dsimp -implicitDefEqProofs only [go_sem, ↓reduceIte, Tryz.f146]
  first | refine aH.mk (bV a (oE b) ha hni) ?_ | refine aF.mk (bV a (oE b) ha hni) ?_ | refine aH.bY (bV a (oE b) ha hni) ?_ | refine aF.mk (bQ.fJ (bV a (oE b) ha hni)) ?_
  simp -dsimp -implicitDefEqProofs only [go_sem, ↓reduceIte, Tryz.f146]
  unfold opV at hv
  rw [if_neg q, if_neg q4, if_neg q5, if_neg (by omega)] at hv
  by_cases hz : b = 0
  ·rw [if_pos hz] at hv; cases hv
  ·rw [if_neg hz] at hv; rw [Option.some.inj hv]
@[go_sem] def pT : List Nat := [0, 1, 2, 6, 7, 8, 9, 10, 11, 12, 13, 17, 18, 31, 40, 62, 94, 111, 133]
@[go_sem] def yY : List Nat := [89, 130]
@[go_sem] def yZ : Marks := fun id => match id with | 3 => ([10], (.op 0 (.op 1 (.op 2 (.op 3 (.op 4 (.op 5 (.op 6 (.op 7 (.op 8 (.op 9 (.op 10 (.op 11 .nil)))))))))))), []) | 18 => ([7, 10, 11], (.op 0 (.op 1 (.op 2 (.op 3 (.op 4 (.op 5 (.op 6 (.op 8 (.op 9 (.op 7 (.op 10 (.op 11 (.op 12 .nil))))))))))))), []) | 25 => ([9, 12, 16, 19, 20, 21], (.op 0 (.op 1 (.op 2 (.op 3 (.op 4 (.op 5 (.op 6 (.op 7 (.op 8 (.op 10 (.op 13 (.op 14 (.op 15 (.op 17 (.op 9 (.op 11 (.op 12 (.op 16 (.op 18 (.op 19 (.op 20 (.op 21 (.op 22 .nil))))))))))))))))))))))), []) | _ => ([], .nil, [])
def pU (p : aE) (inp : Int) (n : Nat) : Prop := ∀ (h0 h : aA) (nb st : Nat) (e : aB) (env : List Int) (S : c6) (funcs : Int) (k : Int) (S' : c6) (t : Nat), dJ (bR p inp) h0 nb S h → st ≤ 3000 → e.ok p funcs env.length → 0 ≤ funcs → funcs ≤ p.aI.length → Good inp S st → (∀ x ∈ env, lG S x) → env.length ≤ 412 + st → dX p n st e env S = .ok ((k, S'), t) →
 fF Tryz.prog 117 [.op nb 6 0 0, .ip 5 [e.c] 0 0, ints env] h fun r h' => r = I k ∧ dJ (bR p inp) h0 nb S' h'
theorem iC {α β : Type} {X : Out α} {F : α → Nat → Out β} {v : β} {t : Nat} (h : X.andThen F = .ok (v, t)) : ∃ w u, X = .ok (w, u) ∧ F w u = .ok (v, t) := by
 cases X with
 |ok q => exact ⟨q.1, q.2, rfl, h⟩
 |error c => cases h
theorem aO7 (ev : Nat → aB → c6 → Out (Int × c6)) (b : List aB) : ∀ (a : List aB) (t : Nat) (S : c6), kJ ev (a ++ b) t S = (kJ ev a t S).andThen fun q t => (kJ ev b t q.2).andThen fun r t => .ok ((q.1 ++ r.1, r.2), t)
 | [], t, S => by
  show kJ ev b t S = (kJ ev b t S).andThen fun r t => .ok (([] ++ r.1, r.2), t)
  cases kJ ev b t S with
  |ok q => rfl
  |error c => rfl
 |x :: a, t, S => by
  simp only [List.cons_append, kJ, aO7 ev b a, Out.lF, Out.andThen_ok]
theorem lT {ev : Nat → aB → c6 → Out (Int × c6)} {l : List aB} {st : Nat} {S : c6} {v : List Int × c6} {t : Nat} (h : kJ ev l st S = .ok (v, t)) {k : Nat} (hk : k < l.length) {vs : List Int} {S1 : c6} {t1 : Nat} (h1 : kJ ev (l.take k) st S = .ok ((vs, S1), t1)) :
  ∃ j S2 t2, ev t1 l[k] S1 = .ok ((j, S2), t2) ∧ kJ ev (l.take (k + 1)) st S = .ok ((vs ++ [j], S2), t2) := by
 have e : l = l.take k ++ (l[k] :: l.drop (k + 1)) := by rw [← List.drop_eq_getElem_cons hk, List.take_append_drop]
 rw [e, aO7, h1] at h
 have h' : (kJ ev (l[k] :: l.drop (k + 1)) t1 S1).andThen (fun r t => .ok ((vs ++ r.1, r.2), t)) = .ok (v, t) := h
 obtain ⟨w, u, h2, _⟩ := iC h'
 obtain ⟨r, u2, h3, _⟩ := iC h2
 refine ⟨r.1, r.2, u2, h3, ?_⟩
 rw [List.take_succ_eq_append_getElem hk, aDP, h1]
 show (ev t1 l[k] S1).andThen _ = _
 rw [h3]; rfl
set_option maxRecDepth 100000
open Go.Proofs
set_option linter.unusedVariables false
set_option linter.unusedSimpArgs false
@[go_sem] def aYF : List Nat := [0, 1, 2, 6, 7, 8, 16]
@[go_sem] def bGO : List Nat := [9, 29]
@[go_sem] def bGP : Marks := fun _ => ([], .nil, [])
theorem aO8 {p : aE} (hp : p.ok) {inp : Int} {n : Nat} (hv : pU p inp n) (h0 h : aA) (nb st : Nat) (f : aS) (env : List Int) (S : c6) (funcs : Int) (l : List Int) (S' : c6) (t : Nat) (hb : dJ (bR p inp) h0 nb S h) (hst : st ≤ 3000)
  (hl : f.aW.length ≤ 1048576) (hok : ∀ e ∈ f.aW, e.ok p funcs env.length) (eH : 0 ≤ funcs) (hf : funcs ≤ p.aI.length) (hg : Good inp S st) (henv : ∀ x ∈ env, lG S x) (hel : env.length ≤ 412 + st) (hr : kJ (fun t e S => dX p n t e env S) f.aW st S = .ok ((l, S'), t)) :
  fF Tryz.prog 91 [.op nb 6 0 0, .ip 3 [f.c] 0 0, ints env] h fun r h' => r = ints l ∧ dJ (bR p inp) h0 nb S' h' := by
 rw [aS.aR]
 refine gK 32 aYF bGO bGP mix Tryz.func91 rfl (by kernel_rfl) (by simp) ?_
 simp -dsimp -implicitDefEqProofs only [go_sem, ↓reduceIte, Tryz.f91]
 refine ⟨by decide, ?_⟩
 refine dA (keep := aYF) (ib := bGO) (mk := bGP) mix (by kernel_rfl) (fun x : Nat × List Int × c6 × Nat × aA × Option Nat => [(0, .op nb 6 0 0), (1, .ip 3 [f.c] 0 0), (2, ints env), (7, jM 1 x.2.1.length x.2.2.2.2.2), (8, I x.1)]) (fun x => cQ x.2.2.2.2.1 (.row 1 ((x.2.1.map fun n => [I n]).map (List.map .v))) x.2.2.2.2.2) (fun x => x.1 ≤ f.aW.length ∧ x.2.1.length = x.1 ∧ kJ (fun t e S => dX p n t e env S) (f.aW.take x.1) st S = .ok ((x.2.1, x.2.2.1), x.2.2.2.1) ∧ dJ (bR p inp) h0 nb x.2.2.1 x.2.2.2.2.1 ∧ gX x.2.2.2.2.1 x.2.1 x.2.2.2.2.2) (fun x => f.aW.length - x.1) (0, [], S, st, h, none) ⟨by simp [dF, b6, jM, aS.aR], aA.le_refl _, Nat.zero_le _, rfl, rfl, hb, rfl⟩ ?_
 rintro ⟨k, vs, S1, t1, g, o⟩ ⟨hk, hvl, hs, hR, hos⟩
 simp only at hk hvl hs hR hos ⊢
 rw [aS.aR]
 rcases Nat.lt_or_ge k f.aW.length with hlt | hge
 ·have ek : f.aW[k]? = some f.aW[k] := List.getElem?_eq_getElem hlt
  obtain ⟨j, S2, t2, hj, oI⟩ := lT hr hlt hs
  obtain ⟨b1, b2, b3, b4⟩ := gS hp (l := f.aW.take k) hg hst henv (fun x hx => hok x (List.mem_of_mem_take hx)) hf _ _ hs
  simp only at b1 b2 b3
  have hsub : fN [.op nb 6 0 0, .ip 5 (f.aW.map aB.c) k 0, ints env] [.op nb 6 0 0, .ip 5 [f.aW[k].c] 0 0, ints env] := .cons (.refl _) (.cons (Sub.ip (cH hlt) (by simp)) (.cons (.refl _) .nil))
  cases o with
  |none =>
   rw [bH] at hos
   subst hos
   simp -dsimp -implicitDefEqProofs only [go_sem, ↓reduceIte, Tryz.f91, bU, aQ, hlt, ek]
   refine fun _ => aH.eM (fF.sub hsub (hv h0 g nb t1 f.aW[k] env S1 funcs j S2 t2 hR b4.2.2.2 (hok _ (List.getElem_mem _)) eH hf b1 (fun x hx => (henv x hx).ext b2) (by have := b4.2.2.1; omega) hj)) ?_
   rintro r h' ⟨rfl, mQ⟩
   simp -dsimp -implicitDefEqProofs only [go_sem, ↓reduceIte, Tryz.f91]
   refine ⟨Nat.zero_lt_one, Nat.zero_lt_one, Nat.zero_lt_one, fun b kE => ?_⟩
   refine ⟨(k + 1, [j], S2, t2, h', some b), ⟨rfl, by rw [IntWalk.i64_in _ (by omega)]; rfl⟩, aA.le_refl _, ⟨by omega, by simp only [List.length_nil] at hvl; subst hvl; rfl, oI, mQ, kE⟩, by simp only; omega⟩
  |some m =>
   rw [aV] at hos
   simp -dsimp -implicitDefEqProofs only [go_sem, ↓reduceIte, Tryz.f91, aY, aJ, hlt, ek]
   refine fun _ => aH.eM (fF.sub hsub (hv _ _ nb t1 f.aW[k] env S1 funcs j S2 t2 (hR.xT hos) b4.2.2.2 (hok _ (List.getElem_mem _)) eH hf b1 (fun x hx => (henv x hx).ext b2) (by have := b4.2.2.1; omega) hj)) ?_
   rintro r h' ⟨rfl, mQ⟩
   obtain ⟨g2, rfl, hg2, mQ⟩ := mQ.base (hR.none hos)
   simp -dsimp -implicitDefEqProofs only [go_sem, ↓reduceIte, Tryz.f91]
   refine ⟨Nat.zero_lt_one, Nat.zero_lt_one, Nat.zero_lt_one, Nat.le_refl _, by omega, by omega, fun b ⟨hbm, kE⟩ => ?_⟩
   have fW : ¬ b = m := hbm
   have mV : ¬ m = b := Ne.symm fW
   have kT : (b = m) = False := eq_false fW
   have kU : (m = b) = False := eq_false mV
   refine ⟨(k + 1, vs ++ [j], S2, t2, g2, some b), ⟨by rw [aY, List.length_append]; rfl, by rw [IntWalk.i64_in _ (by omega)]; rfl⟩, ?_, ⟨by omega, by rw [List.length_append, hvl]; rfl, oI, mQ, kE⟩, by simp only; omega⟩
   simp only [aJ]
   rw [← fO]
   exact lN hg2
 ·have hk' : k = f.aW.length := by omega
  subst hk'
  rw [List.take_length, hr] at hs
  obtain ⟨rfl, rfl⟩ := Prod.mk.inj (Prod.mk.inj (Except.ok.inj hs)).1
  cases o with
  |none =>
   rw [bH] at hos
   subst hos
   simp -dsimp -implicitDefEqProofs only [go_sem, ↓reduceIte, Tryz.f91, bU, aQ, Nat.lt_irrefl, Int.lt_irrefl]
   exact fun _ => ⟨ints [], _, Shift.of (Sub.loose _ _ _) (aA.le_refl _), rfl, hR⟩
  |some m =>
   rw [aV] at hos
   simp -dsimp -implicitDefEqProofs only [go_sem, ↓reduceIte, Tryz.f91, aY, aJ, Nat.lt_irrefl, Int.lt_irrefl]
   exact fun _ => ⟨ints l, g, fQ l hos (aA.le_refl _) rfl, rfl, hR⟩
set_option maxRecDepth 100000
open Go.Proofs
set_option linter.unusedVariables false
set_option linter.unusedSimpArgs false
theorem fM.single {h g : aA} {m : Nat} {o : cB} (w : fM h [(m, o)] g) : h m = none ∧ g = aT h m o := by
 refine ⟨w.fresh m (by simp [bP]), ?_⟩
 funext q
 by_cases e : q = m
 ·subst e; rw [aG]; exact w.pN (q, o) (by simp)
 ·rw [aC _ _ _ _ e]; exact w.upto q (by simpa [bP] using e)
theorem a2W {p : aE} (hp : p.ok) {inp : Int} {n : Nat} (hv : pU p inp n) {h0 h : aA} {nb st : Nat} {e : aB} {env : List Int} {S : c6} {funcs : Int} {k : Int} {S' : c6} {t : Nat} (hR : dJ (bR p inp) h0 nb S h) (hst : st < 3000)
  (hok : e.ok p funcs env.length) (eH : 0 ≤ funcs) (hf : funcs ≤ p.aI.length) (hg : Good inp S st) (henv : ∀ x ∈ env, lG S x) (hel : env.length ≤ 412 + st) (hr : dX p (n + 1) st e env S = .ok ((k, S'), t)) (hk : e.aO = 1) :
  fF Tryz.prog 117 [.op nb 6 0 0, .ip 5 [e.c] 0 0, ints env] h fun r h' => r = I k ∧ dJ (bR p inp) h0 nb S' h' := by
 rw [aB.aR]
 have hnode := (aB.cR _ _ _ _).1 hok
 have h3 : ¬ st = 3000 := by omega
 have hcap := hg.cap
 have hgcap := hg.oY
 have j9 := hg.lV (Nat.le_succ st)
 rw [aHE h3 hk] at hr
 cases hr
 refine gK 183 pT yY yZ mix Tryz.func117 rfl (by kernel_rfl) (by simp) ?_
 simp -dsimp -implicitDefEqProofs only [go_sem, ↓reduceIte, Tryz.f117, hk]
 refine aH.eM (yX hR ⟨2, 0, 0, e.aX⟩ e.aX hg.len (by omega)) ?_
 rintro r h' ⟨rfl, mQ⟩
 simp -dsimp -implicitDefEqProofs only [go_sem, ↓reduceIte, Tryz.f117]
 exact ⟨_, _, bD _ _, rfl, mQ⟩
theorem a2X {p : aE} (hp : p.ok) {inp : Int} {n : Nat} (hv : pU p inp n) {h0 h : aA} {nb st : Nat} {e : aB} {env : List Int} {S : c6} {funcs : Int} {k : Int} {S' : c6} {t : Nat} (hR : dJ (bR p inp) h0 nb S h) (hst : st < 3000)
  (hok : e.ok p funcs env.length) (eH : 0 ≤ funcs) (hf : funcs ≤ p.aI.length) (hg : Good inp S st) (henv : ∀ x ∈ env, lG S x) (hel : env.length ≤ 412 + st) (hr : dX p (n + 1) st e env S = .ok ((k, S'), t)) (hk : e.aO = 2) :
  fF Tryz.prog 117 [.op nb 6 0 0, .ip 5 [e.c] 0 0, ints env] h fun r h' => r = I k ∧ dJ (bR p inp) h0 nb S' h' := by
 rw [aB.aR]
 have hnode := (aB.cR _ _ _ _).1 hok
 have h3 : ¬ st = 3000 := by omega
 have hcap := hg.cap
 have hgcap := hg.oY
 have j9 := hg.lV (Nat.le_succ st)
 rw [aHF h3 hk] at hr
 cases hr
 have hnum := ((dQ (by omega)).1 hnode.1).2.2.2.2.1 hk
 have hlt : e.aX.toNat < env.length := by omega
 refine gK 183 pT yY yZ mix Tryz.func117 rfl (by kernel_rfl) (by simp) ?_
 simp -dsimp -implicitDefEqProofs only [go_sem, ↓reduceIte, Tryz.f117, hk, cX hlt]
 exact ⟨hnum.1, by omega, _, _, bD _ _, rfl, hR⟩
theorem a2Y {p : aE} (hp : p.ok) {inp : Int} {n : Nat} (hv : pU p inp n) {h0 h : aA} {nb st : Nat} {e : aB} {env : List Int} {S : c6} {funcs : Int} {k : Int} {S' : c6} {t : Nat} (hR : dJ (bR p inp) h0 nb S h) (hst : st < 3000)
  (hok : e.ok p funcs env.length) (eH : 0 ≤ funcs) (hf : funcs ≤ p.aI.length) (hg : Good inp S st) (henv : ∀ x ∈ env, lG S x) (hel : env.length ≤ 412 + st) (hr : dX p (n + 1) st e env S = .ok ((k, S'), t)) (hk : e.aO = 9) :
  fF Tryz.prog 117 [.op nb 6 0 0, .ip 5 [e.c] 0 0, ints env] h fun r h' => r = I k ∧ dJ (bR p inp) h0 nb S' h' := by
 rw [aB.aR]
 have hnode := (aB.cR _ _ _ _).1 hok
 have h3 : ¬ st = 3000 := by omega
 have hcap := hg.cap
 have hgcap := hg.oY
 have j9 := hg.lV (Nat.le_succ st)
 have hlen := dB hok (by omega)
 rw [hk, show dN 9 = 2 from rfl] at hlen
 have g0 : e.aK[Int.toNat 0]? = some (e.mJ 0) := aB.gE (by omega)
 have g1 : e.aK[Int.toNat 1]? = some (e.mJ 1) := aB.gE (by omega)
 have o0 := aB.eP hok (i := 0) (by omega)
 have o1 := aB.eP hok (i := 1) (by omega)
 rw [gT (by omega)] at o0
 rw [hk, show iL 9 1 (env.length : Int) = env.length + 1 from rfl] at o1
 rw [aHG h3 hk] at hr
 obtain ⟨⟨k1, S1⟩, t1, e1, e2⟩ := iC hr
 obtain ⟨b1, b2, b3, b4⟩ := mW hp n (st + 1) (e.mJ 0) env S funcs o0 hf j9 (by omega) henv _ _ e1
 simp only at b1 b2 b3
 have hsub : ∀ (i : Nat), i < e.aK.length → fN [.op nb 6 0 0, .ip 5 (e.aK.map aB.c) i 0, ints env] [.op nb 6 0 0, .ip 5 [(e.mJ i).c] 0 0, ints env] := fun i hi => by
  rw [aB.tD hi]
  exact .cons (.refl _) (.cons (Sub.ip (cH hi) (by simp)) (.cons (.refl _) .nil))
 refine gK 183 pT yY yZ mix Tryz.func117 rfl (by kernel_rfl) (by simp) ?_
 simp -dsimp -implicitDefEqProofs only [go_sem, ↓reduceIte, Tryz.f117, hk]
 refine ⟨by omega, aH.eM (fF.sub (hsub 0 (by omega)) (hv h0 _ nb (st + 1) (e.mJ 0) env S funcs k1 S1 t1 hR (by omega) o0 eH hf j9 henv (by omega) e1)) ?_⟩
 rintro r h' ⟨rfl, mQ⟩
 simp -dsimp -implicitDefEqProofs only [go_sem, ↓reduceIte, Tryz.f117]
 refine ⟨by omega, by decide, by decide, aH.wn0 (aQJ env (by omega)) ?_⟩
 rintro r l g ⟨y, oy, rfl, rfl⟩ wn
 have bL9 : ∀ x ∈ env ++ [k1], lG S1 x := fun x hx => by
  rcases List.mem_append.1 hx with hx | hx
  ·exact (henv x hx).ext b2
  ·rw [List.mem_singleton.1 hx]; exact b3
 have hfin : ∀ {h1 g1 : aA}, dJ (bR p inp) h1 nb S1 g1 → fF Tryz.prog 117 [.op nb 6 0 0, .ip 5 (e.aK.map aB.c) 1 0, ints (env ++ [k1])] g1 fun r h' => r = I k ∧ dJ (bR p inp) h1 nb S' h' := fun p8 =>
  fF.sub (.cons (.refl _) (.cons (by rw [aB.tD (show 1 < e.aK.length by omega)]; exact Sub.ip (cH (by omega)) (by simp)) (.cons (.refl _) .nil))) (hv _ _ nb t1 (e.mJ 1) (env ++ [k1]) S1 funcs k S' t p8 b4.2.2.2 (by rw [List.length_append]; exact o1) eH hf b1 bL9 (by rw [List.length_append]; have := b4.2.2.1; show env.length + 1 ≤ _; omega) e2)
 rcases oy.aQE with ⟨rfl, rfl⟩ | ⟨m, rfl⟩
 ·rw [OV.qW] at wn
  have hgh : g = h' := funext fun q => wn.upto q (by simp [bP])
  subst hgh
  simp -dsimp -implicitDefEqProofs only [go_sem, ↓reduceIte, Tryz.f117, OV.val]
  refine ⟨by decide, fun b kE => ?_⟩
  have gU : ¬ nb = b := fun e => by obtain ⟨_, _, _, H2⟩ := mQ; have := H2.box; rw [e, kE] at this; cases this
  have cY : ¬ b = nb := Ne.symm gU
  have gG : (nb = b) = False := eq_false gU
  have gF : (b = nb) = False := eq_false cY
  refine aH.aEP (x := .ip 5 (e.aK.map aB.c) 1 0) (es := [[I k1]]) (len := 1) rfl rfl gU rfl kE ?_
  refine fF.mono (hfin (mQ.xT (o := .gone) kE)) ?_
  rintro r h2 ⟨rfl, p8⟩
  obtain ⟨g3, rfl, hg3, p8⟩ := p8.base (mQ.none kE)
  simp -dsimp -implicitDefEqProofs only [go_sem, ↓reduceIte, Tryz.f117]
  exact ⟨_, g3, cI (aA.aP hg3 (aA.le_refl _)), rfl, p8⟩
 ·rw [OV.jF, s9, qI] at wn
  obtain ⟨hm, rfl⟩ := wn.single
  simp -dsimp -implicitDefEqProofs only [go_sem, ↓reduceIte, Tryz.f117, OV.val]
  refine ⟨by decide, Nat.le_refl _, by omega, by omega, fun b ⟨hbm, kE⟩ => ?_⟩
  have fW : ¬ b = m := hbm
  have mV : ¬ m = b := Ne.symm fW
  have kT : (b = m) = False := eq_false fW
  have kU : (m = b) = False := eq_false mV
  have gU : ¬ nb = b := fun e => by obtain ⟨_, _, _, H2⟩ := mQ; have := H2.box; rw [e, kE] at this; cases this
  have cY : ¬ b = nb := Ne.symm gU
  have gG : (nb = b) = False := eq_false gU
  have gF : (b = nb) = False := eq_false cY
  have hb3 : (aT h' m .gone) b = none := by rw [aC _ _ _ _ hbm]; exact kE
  rw [aM, List.take_of_length_le (by simp), show (env.map fun x => [I x]).map (List.map Cell.v) ++ [[Cell.v (aD.int .i64 k1)]] = ((env ++ [k1]).map fun n => [I n]).map (List.map .v) by simp]
  refine aH.aEP (x := .ip 5 (e.aK.map aB.c) 1 0) (es := (env ++ [k1]).map fun n => [I n]) (len := env.length + 1) rfl rfl gU (by simp) hb3 ?_
  refine fF.mono (hfin ((mQ.xT (o := .gone) hm).xT (o := .gone) hb3)) ?_
  rintro r h2 ⟨rfl, p8⟩
  obtain ⟨g3, rfl, hg3, p8⟩ := p8.base ((mQ.xT (o := .gone) hm).none hb3)
  obtain ⟨g4, rfl, hg4, p8⟩ := p8.base (mQ.none hm)
  rw [aC _ _ _ _ hbm] at hg3
  simp -dsimp -implicitDefEqProofs only [go_sem, ↓reduceIte, Tryz.f117]
  exact ⟨_, g4, cI (aA.aP hg3 (aA.aP hg4 (aA.le_refl _))), rfl, p8⟩
theorem a2Z {p : aE} (hp : p.ok) {inp : Int} {n : Nat} (hv : pU p inp n) {h0 h : aA} {nb st : Nat} {e : aB} {env : List Int} {S : c6} {funcs : Int} {k : Int} {S' : c6} {t : Nat} (hR : dJ (bR p inp) h0 nb S h) (hst : st < 3000)
  (hok : e.ok p funcs env.length) (eH : 0 ≤ funcs) (hf : funcs ≤ p.aI.length) (hg : Good inp S st) (henv : ∀ x ∈ env, lG S x) (hel : env.length ≤ 412 + st) (hr : dX p (n + 1) st e env S = .ok ((k, S'), t)) (hk : e.aO = 7) :
  fF Tryz.prog 117 [.op nb 6 0 0, .ip 5 [e.c] 0 0, ints env] h fun r h' => r = I k ∧ dJ (bR p inp) h0 nb S' h' := by
 rw [aB.aR]
 have hnode := (aB.cR _ _ _ _).1 hok
 have h3 : ¬ st = 3000 := by omega
 have hcap := hg.cap
 have hgcap := hg.oY
 have j9 := hg.lV (Nat.le_succ st)
 have hlen := dB hok (by omega)
 rw [hk, show dN 7 = 1 from rfl] at hlen
 have o0 := dZ hok (by omega)
 rw [kF h3 (by omega)] at hr
 obtain ⟨⟨vs, S1⟩, t1, e1, e2⟩ := iC hr
 obtain ⟨b1, b2, b3, b4⟩ := gS hp j9 (by omega) henv o0 hf _ _ e1
 simp only at b1 b2 b3
 obtain ⟨j, S2, t2, hj, oI⟩ := lT e1 (k := 0) (by omega) (vs := []) (S1 := S) (t1 := st + 1) rfl
 rw [List.take_of_length_le (by omega), e1] at oI
 obtain ⟨rfl, rfl⟩ := Prod.mk.inj (Prod.mk.inj (Except.ok.inj oI)).1
 obtain rfl := (Prod.mk.inj (Except.ok.inj oI)).2
 have hsub : fN [.op nb 6 0 0, .ip 5 (e.aK.map aB.c) 0 0, ints env] [.op nb 6 0 0, .ip 5 [e.aK[0].c] 0 0, ints env] := .cons (.refl _) (.cons (Sub.ip (cH (by omega)) (by simp)) (.cons (.refl _) .nil))
 have hj0 : lG S1 j := b3.2 j (by simp)
 have hvj := b1.val j
 refine gK 183 pT yY yZ mix Tryz.func117 rfl (by kernel_rfl) (by simp) ?_
 simp -dsimp -implicitDefEqProofs only [go_sem, ↓reduceIte, Tryz.f117, hk]
 refine ⟨by omega, aH.eM (fF.sub hsub (hv h0 _ nb (st + 1) e.aK[0] env S funcs j S1 t1 hR (by omega) (o0 _ (List.getElem_mem _)) eH hf j9 henv (by omega) hj)) ?_⟩
 rintro r h' ⟨rfl, ⟨om, og, ov, H1⟩⟩
 obtain ⟨w, rfl, hw, dw⟩ := H1.row hj0
 have k7 := H1.box
 unfold bR at k7
 rw [bE] at k7
 have rk := iZ hj0
 have k0 := hj0.1
 have k2 := hj0.2
 have lw := eV (fun n => [I n]) S1.eZ
 simp -dsimp -implicitDefEqProofs only [go_sem, ↓reduceIte, Tryz.f117, k7, hw, rk]
 refine ⟨k0, by omega, ?_⟩
 first | refine aH.mk (aLX (S1.val j) hvj) ?_ | refine aF.mk (aLX (S1.val j) hvj) ?_ | refine aH.bY (aLX (S1.val j) hvj) ?_ | refine aF.mk (bQ.fJ (aLX (S1.val j) hvj)) ?_
 simp -dsimp -implicitDefEqProofs only [go_sem, ↓reduceIte, Tryz.f117]
 have e3 : opR 7 [j] S1 t1 = .ok (((S1.eZ.length : Int), S1.put ⟨7, j, 0, 0⟩ ((0 - S1.val j) % 1000003)), t1) := rfl
 rw [hk] at e2
 have e4 := e3.symm.trans e2
 have e5 := (Prod.mk.inj (Prod.mk.inj (Except.ok.inj e4)).1)
 unfold l5 at b4
 simp only at b4
 refine aH.eM (yX ⟨om, og, some w, H1⟩ ⟨7, j, 0, 0⟩ ((0 - S1.val j) % 1000003) b1.len (by have := b1.cap; omega)) ?_
 rintro r h2 ⟨rfl, mQ⟩
 simp -dsimp -implicitDefEqProofs only [go_sem, ↓reduceIte, Tryz.f117]
 rw [e5.2] at mQ
 exact ⟨_, _, bD _ _, by rw [e5.1], mQ⟩
theorem a20 {p : aE} (hp : p.ok) {inp : Int} {n : Nat} (hv : pU p inp n) {h0 h : aA} {nb st : Nat} {e : aB} {env : List Int} {S : c6} {funcs : Int} {k : Int} {S' : c6} {t : Nat} (hR : dJ (bR p inp) h0 nb S h) (hst : st < 3000)
  (hok : e.ok p funcs env.length) (eH : 0 ≤ funcs) (hf : funcs ≤ p.aI.length) (hg : Good inp S st) (henv : ∀ x ∈ env, lG S x) (hel : env.length ≤ 412 + st) (hr : dX p (n + 1) st e env S = .ok ((k, S'), t)) (hk : e.aO = 3) :
  fF Tryz.prog 117 [.op nb 6 0 0, .ip 5 [e.c] 0 0, ints env] h fun r h' => r = I k ∧ dJ (bR p inp) h0 nb S' h' := by
 rw [aB.aR]
 have hnode := (aB.cR _ _ _ _).1 hok
 have h3 : ¬ st = 3000 := by omega
 have hcap := hg.cap
 have hgcap := hg.oY
 have j9 := hg.lV (Nat.le_succ st)
 have hlen := dB hok (by omega)
 rw [hk, show dN 3 = 2 from rfl] at hlen
 have o0 := dZ hok (by omega)
 rw [kF h3 (by omega)] at hr
 obtain ⟨⟨vs, S1⟩, t1, e1, e2⟩ := iC hr
 obtain ⟨b1, b2, b3, b4⟩ := gS hp j9 (by omega) henv o0 hf _ _ e1
 simp only at b1 b2 b3
 obtain ⟨j0, S0, t0, hj0, hs0⟩ := lT e1 (k := 0) (by omega) (vs := []) (S1 := S) (t1 := st + 1) rfl
 obtain ⟨c1, c2, c3, c4⟩ := mW hp n (st + 1) e.aK[0] env S funcs (o0 _ (List.getElem_mem _)) hf j9 (by omega) henv _ _ hj0
 simp only at c1 c2 c3
 obtain ⟨j1, S2, t2, hj1, kM⟩ := lT e1 (k := 1) (by omega) hs0
 rw [List.take_of_length_le (by omega), e1] at kM
 obtain ⟨rfl, rfl⟩ := Prod.mk.inj (Prod.mk.inj (Except.ok.inj kM)).1
 obtain rfl := (Prod.mk.inj (Except.ok.inj kM)).2
 have hsub : ∀ (i : Nat) (hi : i < e.aK.length), fN [.op nb 6 0 0, .ip 5 (e.aK.map aB.c) i 0, ints env] [.op nb 6 0 0, .ip 5 [e.aK[i].c] 0 0, ints env] := fun i hi => .cons (.refl _) (.cons (Sub.ip (cH hi) (by simp)) (.cons (.refl _) .nil))
 have i0 : lG S1 j0 := b3.2 j0 (by simp)
 have i1 : lG S1 j1 := b3.2 j1 (by simp)
 have nF := b1.val j0
 have tT := b1.val j1
 refine gK 183 pT yY yZ mix Tryz.func117 rfl (by kernel_rfl) (by simp) ?_
 simp -dsimp -implicitDefEqProofs only [go_sem, ↓reduceIte, Tryz.f117, hk]
 refine ⟨by omega, aH.eM (fF.sub (hsub 0 (by omega)) (hv h0 _ nb (st + 1) e.aK[0] env S funcs j0 S0 t0 hR (by omega) (o0 _ (List.getElem_mem _)) eH hf j9 henv (by omega) hj0)) ?_⟩
 rintro r h' ⟨rfl, hR1⟩
 simp -dsimp -implicitDefEqProofs only [go_sem, ↓reduceIte, Tryz.f117]
 refine ⟨by omega, aH.eM (fF.sub (hsub 1 (by omega)) (hv h0 _ nb t0 e.aK[1] env S0 funcs j1 S1 t1 hR1 c4.2.2.2 (o0 _ (List.getElem_mem _)) eH hf c1 (fun x hx => (henv x hx).ext c2) (by have := c4.2.2.1; omega) hj1)) ?_⟩
 rintro r h2 ⟨rfl, ⟨om, og, ov, H1⟩⟩
 obtain ⟨w, rfl, hw, dw⟩ := H1.row i0
 have k7 := H1.box
 unfold bR at k7
 rw [bE] at k7
 have rk0 := iZ i0
 have rk1 := iZ i1
 have k0 := i0.1
 have k1 := i0.2
 have k2 := i1.1
 have k3 := i1.2
 have lw := eV (fun n => [I n]) S1.eZ
 have hop := aS9 3 (by decide)
 try simp -dsimp -implicitDefEqProofs only [go_sem, ↓reduceIte, Tryz.f117, hk]
 first | refine aH.mk (hop) ?_ | refine aF.mk (hop) ?_ | refine aH.bY (hop) ?_ | refine aF.mk (bQ.fJ (hop)) ?_
 simp -dsimp -implicitDefEqProofs only [go_sem, ↓reduceIte, Tryz.f117]
 try simp -dsimp -implicitDefEqProofs only [go_sem, ↓reduceIte, Tryz.f117, k7, hw, rk0, rk1]
 refine ⟨k0, by omega, k2, by omega, ?_⟩
 rw [hk] at e2
 cases hv : opV 3 (S1.val j0) (S1.val j1) with
 |none =>
  have e3 : opR 3 [j0, j1] S1 t1 = .error 6 := by
   unfold opR
   rw [show ([j0, j1].getD 0 0) = j0 from rfl, show opB 3 [j0, j1] = j1 from rfl, hv]
  have e4 := e3.symm.trans e2
  cases e4
 |some v =>
  have e3 : opR 3 [j0, j1] S1 t1 = .ok (((S1.eZ.length : Int), S1.put ⟨3, j0, j1, 0⟩ v), t1) := by
   unfold opR
   rw [show ([j0, j1].getD 0 0) = j0 from rfl, show opB 3 [j0, j1] = j1 from rfl, hv]
  have e4 := e3.symm.trans e2
  have e5 := (Prod.mk.inj (Prod.mk.inj (Except.ok.inj e4)).1)
  first | refine aH.mk (jU 3 (S1.val j0) (S1.val j1) v nF tT (by decide) hv) ?_ | refine aF.mk (jU 3 (S1.val j0) (S1.val j1) v nF tT (by decide) hv) ?_ | refine aH.bY (jU 3 (S1.val j0) (S1.val j1) v nF tT (by decide) hv) ?_ | refine aF.mk (bQ.fJ (jU 3 (S1.val j0) (S1.val j1) v nF tT (by decide) hv)) ?_
  simp -dsimp -implicitDefEqProofs only [go_sem, ↓reduceIte, Tryz.f117]
  unfold l5 at b4
  simp only at b4
  refine aH.eM (yX ⟨om, og, some w, H1⟩ ⟨3, j0, j1, 0⟩ v b1.len (by have := b1.cap; omega)) ?_
  rintro r h3 ⟨rfl, mQ⟩
  simp -dsimp -implicitDefEqProofs only [go_sem, ↓reduceIte, Tryz.f117]
  rw [e5.2] at mQ
  exact ⟨_, _, bD _ _, by rw [e5.1], mQ⟩
theorem a21 {p : aE} (hp : p.ok) {inp : Int} {n : Nat} (hv : pU p inp n) {h0 h : aA} {nb st : Nat} {e : aB} {env : List Int} {S : c6} {funcs : Int} {k : Int} {S' : c6} {t : Nat} (hR : dJ (bR p inp) h0 nb S h) (hst : st < 3000)
  (hok : e.ok p funcs env.length) (eH : 0 ≤ funcs) (hf : funcs ≤ p.aI.length) (hg : Good inp S st) (henv : ∀ x ∈ env, lG S x) (hel : env.length ≤ 412 + st) (hr : dX p (n + 1) st e env S = .ok ((k, S'), t)) (hk : e.aO = 4) :
  fF Tryz.prog 117 [.op nb 6 0 0, .ip 5 [e.c] 0 0, ints env] h fun r h' => r = I k ∧ dJ (bR p inp) h0 nb S' h' := by
 rw [aB.aR]
 have hnode := (aB.cR _ _ _ _).1 hok
 have h3 : ¬ st = 3000 := by omega
 have hcap := hg.cap
 have hgcap := hg.oY
 have j9 := hg.lV (Nat.le_succ st)
 have hlen := dB hok (by omega)
 rw [hk, show dN 4 = 2 from rfl] at hlen
 have o0 := dZ hok (by omega)
 rw [kF h3 (by omega)] at hr
 obtain ⟨⟨vs, S1⟩, t1, e1, e2⟩ := iC hr
 obtain ⟨b1, b2, b3, b4⟩ := gS hp j9 (by omega) henv o0 hf _ _ e1
 simp only at b1 b2 b3
 obtain ⟨j0, S0, t0, hj0, hs0⟩ := lT e1 (k := 0) (by omega) (vs := []) (S1 := S) (t1 := st + 1) rfl
 obtain ⟨c1, c2, c3, c4⟩ := mW hp n (st + 1) e.aK[0] env S funcs (o0 _ (List.getElem_mem _)) hf j9 (by omega) henv _ _ hj0
 simp only at c1 c2 c3
 obtain ⟨j1, S2, t2, hj1, kM⟩ := lT e1 (k := 1) (by omega) hs0
 rw [List.take_of_length_le (by omega), e1] at kM
 obtain ⟨rfl, rfl⟩ := Prod.mk.inj (Prod.mk.inj (Except.ok.inj kM)).1
 obtain rfl := (Prod.mk.inj (Except.ok.inj kM)).2
 have hsub : ∀ (i : Nat) (hi : i < e.aK.length), fN [.op nb 6 0 0, .ip 5 (e.aK.map aB.c) i 0, ints env] [.op nb 6 0 0, .ip 5 [e.aK[i].c] 0 0, ints env] := fun i hi => .cons (.refl _) (.cons (Sub.ip (cH hi) (by simp)) (.cons (.refl _) .nil))
 have i0 : lG S1 j0 := b3.2 j0 (by simp)
 have i1 : lG S1 j1 := b3.2 j1 (by simp)
 have nF := b1.val j0
 have tT := b1.val j1
 refine gK 183 pT yY yZ mix Tryz.func117 rfl (by kernel_rfl) (by simp) ?_
 simp -dsimp -implicitDefEqProofs only [go_sem, ↓reduceIte, Tryz.f117, hk]
 refine ⟨by omega, aH.eM (fF.sub (hsub 0 (by omega)) (hv h0 _ nb (st + 1) e.aK[0] env S funcs j0 S0 t0 hR (by omega) (o0 _ (List.getElem_mem _)) eH hf j9 henv (by omega) hj0)) ?_⟩
 rintro r h' ⟨rfl, hR1⟩
 simp -dsimp -implicitDefEqProofs only [go_sem, ↓reduceIte, Tryz.f117]
 refine ⟨by omega, aH.eM (fF.sub (hsub 1 (by omega)) (hv h0 _ nb t0 e.aK[1] env S0 funcs j1 S1 t1 hR1 c4.2.2.2 (o0 _ (List.getElem_mem _)) eH hf c1 (fun x hx => (henv x hx).ext c2) (by have := c4.2.2.1; omega) hj1)) ?_⟩
 rintro r h2 ⟨rfl, ⟨om, og, ov, H1⟩⟩
 obtain ⟨w, rfl, hw, dw⟩ := H1.row i0
 have k7 := H1.box
 unfold bR at k7
 rw [bE] at k7
 have rk0 := iZ i0
 have rk1 := iZ i1
 have k0 := i0.1
 have k1 := i0.2
 have k2 := i1.1
 have k3 := i1.2
 have lw := eV (fun n => [I n]) S1.eZ
 have hop := aS9 4 (by decide)
 try simp -dsimp -implicitDefEqProofs only [go_sem, ↓reduceIte, Tryz.f117, hk]
 first | refine aH.mk (hop) ?_ | refine aF.mk (hop) ?_ | refine aH.bY (hop) ?_ | refine aF.mk (bQ.fJ (hop)) ?_
 simp -dsimp -implicitDefEqProofs only [go_sem, ↓reduceIte, Tryz.f117]
 try simp -dsimp -implicitDefEqProofs only [go_sem, ↓reduceIte, Tryz.f117, k7, hw, rk0, rk1]
 refine ⟨k0, by omega, k2, by omega, ?_⟩
 rw [hk] at e2
 cases hv : opV 4 (S1.val j0) (S1.val j1) with
 |none =>
  have e3 : opR 4 [j0, j1] S1 t1 = .error 6 := by
   unfold opR
   rw [show ([j0, j1].getD 0 0) = j0 from rfl, show opB 4 [j0, j1] = j1 from rfl, hv]
  have e4 := e3.symm.trans e2
  cases e4
 |some v =>
  have e3 : opR 4 [j0, j1] S1 t1 = .ok (((S1.eZ.length : Int), S1.put ⟨4, j0, j1, 0⟩ v), t1) := by
   unfold opR
   rw [show ([j0, j1].getD 0 0) = j0 from rfl, show opB 4 [j0, j1] = j1 from rfl, hv]
  have e4 := e3.symm.trans e2
  have e5 := (Prod.mk.inj (Prod.mk.inj (Except.ok.inj e4)).1)
  first | refine aH.mk (jU 4 (S1.val j0) (S1.val j1) v nF tT (by decide) hv) ?_ | refine aF.mk (jU 4 (S1.val j0) (S1.val j1) v nF tT (by decide) hv) ?_ | refine aH.bY (jU 4 (S1.val j0) (S1.val j1) v nF tT (by decide) hv) ?_ | refine aF.mk (bQ.fJ (jU 4 (S1.val j0) (S1.val j1) v nF tT (by decide) hv)) ?_
  simp -dsimp -implicitDefEqProofs only [go_sem, ↓reduceIte, Tryz.f117]
  unfold l5 at b4
  simp only at b4
  refine aH.eM (yX ⟨om, og, some w, H1⟩ ⟨4, j0, j1, 0⟩ v b1.len (by have := b1.cap; omega)) ?_
  rintro r h3 ⟨rfl, mQ⟩
  simp -dsimp -implicitDefEqProofs only [go_sem, ↓reduceIte, Tryz.f117]
  rw [e5.2] at mQ
  exact ⟨_, _, bD _ _, by rw [e5.1], mQ⟩
theorem a22 {p : aE} (hp : p.ok) {inp : Int} {n : Nat} (hv : pU p inp n) {h0 h : aA} {nb st : Nat} {e : aB} {env : List Int} {S : c6} {funcs : Int} {k : Int} {S' : c6} {t : Nat} (hR : dJ (bR p inp) h0 nb S h) (hst : st < 3000)
  (hok : e.ok p funcs env.length) (eH : 0 ≤ funcs) (hf : funcs ≤ p.aI.length) (hg : Good inp S st) (henv : ∀ x ∈ env, lG S x) (hel : env.length ≤ 412 + st) (hr : dX p (n + 1) st e env S = .ok ((k, S'), t)) (hk : e.aO = 5) :
  fF Tryz.prog 117 [.op nb 6 0 0, .ip 5 [e.c] 0 0, ints env] h fun r h' => r = I k ∧ dJ (bR p inp) h0 nb S' h' := by
 rw [aB.aR]
 have hnode := (aB.cR _ _ _ _).1 hok
 have h3 : ¬ st = 3000 := by omega
 have hcap := hg.cap
 have hgcap := hg.oY
 have j9 := hg.lV (Nat.le_succ st)
 have hlen := dB hok (by omega)
 rw [hk, show dN 5 = 2 from rfl] at hlen
 have o0 := dZ hok (by omega)
 rw [kF h3 (by omega)] at hr
 obtain ⟨⟨vs, S1⟩, t1, e1, e2⟩ := iC hr
 obtain ⟨b1, b2, b3, b4⟩ := gS hp j9 (by omega) henv o0 hf _ _ e1
 simp only at b1 b2 b3
 obtain ⟨j0, S0, t0, hj0, hs0⟩ := lT e1 (k := 0) (by omega) (vs := []) (S1 := S) (t1 := st + 1) rfl
 obtain ⟨c1, c2, c3, c4⟩ := mW hp n (st + 1) e.aK[0] env S funcs (o0 _ (List.getElem_mem _)) hf j9 (by omega) henv _ _ hj0
 simp only at c1 c2 c3
 obtain ⟨j1, S2, t2, hj1, kM⟩ := lT e1 (k := 1) (by omega) hs0
 rw [List.take_of_length_le (by omega), e1] at kM
 obtain ⟨rfl, rfl⟩ := Prod.mk.inj (Prod.mk.inj (Except.ok.inj kM)).1
 obtain rfl := (Prod.mk.inj (Except.ok.inj kM)).2
 have hsub : ∀ (i : Nat) (hi : i < e.aK.length), fN [.op nb 6 0 0, .ip 5 (e.aK.map aB.c) i 0, ints env] [.op nb 6 0 0, .ip 5 [e.aK[i].c] 0 0, ints env] := fun i hi => .cons (.refl _) (.cons (Sub.ip (cH hi) (by simp)) (.cons (.refl _) .nil))
 have i0 : lG S1 j0 := b3.2 j0 (by simp)
 have i1 : lG S1 j1 := b3.2 j1 (by simp)
 have nF := b1.val j0
 have tT := b1.val j1
 refine gK 183 pT yY yZ mix Tryz.func117 rfl (by kernel_rfl) (by simp) ?_
 simp -dsimp -implicitDefEqProofs only [go_sem, ↓reduceIte, Tryz.f117, hk]
 refine ⟨by omega, aH.eM (fF.sub (hsub 0 (by omega)) (hv h0 _ nb (st + 1) e.aK[0] env S funcs j0 S0 t0 hR (by omega) (o0 _ (List.getElem_mem _)) eH hf j9 henv (by omega) hj0)) ?_⟩
 rintro r h' ⟨rfl, hR1⟩
 simp -dsimp -implicitDefEqProofs only [go_sem, ↓reduceIte, Tryz.f117]
 refine ⟨by omega, aH.eM (fF.sub (hsub 1 (by omega)) (hv h0 _ nb t0 e.aK[1] env S0 funcs j1 S1 t1 hR1 c4.2.2.2 (o0 _ (List.getElem_mem _)) eH hf c1 (fun x hx => (henv x hx).ext c2) (by have := c4.2.2.1; omega) hj1)) ?_⟩
 rintro r h2 ⟨rfl, ⟨om, og, ov, H1⟩⟩
 obtain ⟨w, rfl, hw, dw⟩ := H1.row i0
 have k7 := H1.box
 unfold bR at k7
 rw [bE] at k7
 have rk0 := iZ i0
 have rk1 := iZ i1
 have k0 := i0.1
 have k1 := i0.2
 have k2 := i1.1
 have k3 := i1.2
 have lw := eV (fun n => [I n]) S1.eZ
 have hop := aS9 5 (by decide)
 try simp -dsimp -implicitDefEqProofs only [go_sem, ↓reduceIte, Tryz.f117, hk]
 first | refine aH.mk (hop) ?_ | refine aF.mk (hop) ?_ | refine aH.bY (hop) ?_ | refine aF.mk (bQ.fJ (hop)) ?_
 simp -dsimp -implicitDefEqProofs only [go_sem, ↓reduceIte, Tryz.f117]
 try simp -dsimp -implicitDefEqProofs only [go_sem, ↓reduceIte, Tryz.f117, k7, hw, rk0, rk1]
 refine ⟨k0, by omega, k2, by omega, ?_⟩
 rw [hk] at e2
 cases hv : opV 5 (S1.val j0) (S1.val j1) with
 |none =>
  have e3 : opR 5 [j0, j1] S1 t1 = .error 6 := by
   unfold opR
   rw [show ([j0, j1].getD 0 0) = j0 from rfl, show opB 5 [j0, j1] = j1 from rfl, hv]
  have e4 := e3.symm.trans e2
  cases e4
 |some v =>
  have e3 : opR 5 [j0, j1] S1 t1 = .ok (((S1.eZ.length : Int), S1.put ⟨5, j0, j1, 0⟩ v), t1) := by
   unfold opR
   rw [show ([j0, j1].getD 0 0) = j0 from rfl, show opB 5 [j0, j1] = j1 from rfl, hv]
  have e4 := e3.symm.trans e2
  have e5 := (Prod.mk.inj (Prod.mk.inj (Except.ok.inj e4)).1)
  first | refine aH.mk (jU 5 (S1.val j0) (S1.val j1) v nF tT (by decide) hv) ?_ | refine aF.mk (jU 5 (S1.val j0) (S1.val j1) v nF tT (by decide) hv) ?_ | refine aH.bY (jU 5 (S1.val j0) (S1.val j1) v nF tT (by decide) hv) ?_ | refine aF.mk (bQ.fJ (jU 5 (S1.val j0) (S1.val j1) v nF tT (by decide) hv)) ?_
  simp -dsimp -implicitDefEqProofs only [go_sem, ↓reduceIte, Tryz.f117]
  unfold l5 at b4
  simp only at b4
  refine aH.eM (yX ⟨om, og, some w, H1⟩ ⟨5, j0, j1, 0⟩ v b1.len (by have := b1.cap; omega)) ?_
  rintro r h3 ⟨rfl, mQ⟩
  simp -dsimp -implicitDefEqProofs only [go_sem, ↓reduceIte, Tryz.f117]
  rw [e5.2] at mQ
  exact ⟨_, _, bD _ _, by rw [e5.1], mQ⟩
theorem a23 {p : aE} (hp : p.ok) {inp : Int} {n : Nat} (hv : pU p inp n) {h0 h : aA} {nb st : Nat} {e : aB} {env : List Int} {S : c6} {funcs : Int} {k : Int} {S' : c6} {t : Nat} (hR : dJ (bR p inp) h0 nb S h) (hst : st < 3000)
  (hok : e.ok p funcs env.length) (eH : 0 ≤ funcs) (hf : funcs ≤ p.aI.length) (hg : Good inp S st) (henv : ∀ x ∈ env, lG S x) (hel : env.length ≤ 412 + st) (hr : dX p (n + 1) st e env S = .ok ((k, S'), t)) (hk : e.aO = 6) :
  fF Tryz.prog 117 [.op nb 6 0 0, .ip 5 [e.c] 0 0, ints env] h fun r h' => r = I k ∧ dJ (bR p inp) h0 nb S' h' := by
 rw [aB.aR]
 have hnode := (aB.cR _ _ _ _).1 hok
 have h3 : ¬ st = 3000 := by omega
 have hcap := hg.cap
 have hgcap := hg.oY
 have j9 := hg.lV (Nat.le_succ st)
 have hlen := dB hok (by omega)
 rw [hk, show dN 6 = 2 from rfl] at hlen
 have o0 := dZ hok (by omega)
 rw [kF h3 (by omega)] at hr
 obtain ⟨⟨vs, S1⟩, t1, e1, e2⟩ := iC hr
 obtain ⟨b1, b2, b3, b4⟩ := gS hp j9 (by omega) henv o0 hf _ _ e1
 simp only at b1 b2 b3
 obtain ⟨j0, S0, t0, hj0, hs0⟩ := lT e1 (k := 0) (by omega) (vs := []) (S1 := S) (t1 := st + 1) rfl
 obtain ⟨c1, c2, c3, c4⟩ := mW hp n (st + 1) e.aK[0] env S funcs (o0 _ (List.getElem_mem _)) hf j9 (by omega) henv _ _ hj0
 simp only at c1 c2 c3
 obtain ⟨j1, S2, t2, hj1, kM⟩ := lT e1 (k := 1) (by omega) hs0
 rw [List.take_of_length_le (by omega), e1] at kM
 obtain ⟨rfl, rfl⟩ := Prod.mk.inj (Prod.mk.inj (Except.ok.inj kM)).1
 obtain rfl := (Prod.mk.inj (Except.ok.inj kM)).2
 have hsub : ∀ (i : Nat) (hi : i < e.aK.length), fN [.op nb 6 0 0, .ip 5 (e.aK.map aB.c) i 0, ints env] [.op nb 6 0 0, .ip 5 [e.aK[i].c] 0 0, ints env] := fun i hi => .cons (.refl _) (.cons (Sub.ip (cH hi) (by simp)) (.cons (.refl _) .nil))
 have i0 : lG S1 j0 := b3.2 j0 (by simp)
 have i1 : lG S1 j1 := b3.2 j1 (by simp)
 have nF := b1.val j0
 have tT := b1.val j1
 refine gK 183 pT yY yZ mix Tryz.func117 rfl (by kernel_rfl) (by simp) ?_
 simp -dsimp -implicitDefEqProofs only [go_sem, ↓reduceIte, Tryz.f117, hk]
 refine ⟨by omega, aH.eM (fF.sub (hsub 0 (by omega)) (hv h0 _ nb (st + 1) e.aK[0] env S funcs j0 S0 t0 hR (by omega) (o0 _ (List.getElem_mem _)) eH hf j9 henv (by omega) hj0)) ?_⟩
 rintro r h' ⟨rfl, hR1⟩
 simp -dsimp -implicitDefEqProofs only [go_sem, ↓reduceIte, Tryz.f117]
 refine ⟨by omega, aH.eM (fF.sub (hsub 1 (by omega)) (hv h0 _ nb t0 e.aK[1] env S0 funcs j1 S1 t1 hR1 c4.2.2.2 (o0 _ (List.getElem_mem _)) eH hf c1 (fun x hx => (henv x hx).ext c2) (by have := c4.2.2.1; omega) hj1)) ?_⟩
 rintro r h2 ⟨rfl, ⟨om, og, ov, H1⟩⟩
 obtain ⟨w, rfl, hw, dw⟩ := H1.row i0
 have k7 := H1.box
 unfold bR at k7
 rw [bE] at k7
 have rk0 := iZ i0
 have rk1 := iZ i1
 have k0 := i0.1
 have k1 := i0.2
 have k2 := i1.1
 have k3 := i1.2
 have lw := eV (fun n => [I n]) S1.eZ
 have hop := aS9 6 (by decide)
 try simp -dsimp -implicitDefEqProofs only [go_sem, ↓reduceIte, Tryz.f117, hk]
 first | refine aH.mk (hop) ?_ | refine aF.mk (hop) ?_ | refine aH.bY (hop) ?_ | refine aF.mk (bQ.fJ (hop)) ?_
 simp -dsimp -implicitDefEqProofs only [go_sem, ↓reduceIte, Tryz.f117]
 try simp -dsimp -implicitDefEqProofs only [go_sem, ↓reduceIte, Tryz.f117, k7, hw, rk0, rk1]
 refine ⟨k0, by omega, k2, by omega, ?_⟩
 rw [hk] at e2
 cases hv : opV 6 (S1.val j0) (S1.val j1) with
 |none =>
  have e3 : opR 6 [j0, j1] S1 t1 = .error 6 := by
   unfold opR
   rw [show ([j0, j1].getD 0 0) = j0 from rfl, show opB 6 [j0, j1] = j1 from rfl, hv]
  have e4 := e3.symm.trans e2
  cases e4
 |some v =>
  have e3 : opR 6 [j0, j1] S1 t1 = .ok (((S1.eZ.length : Int), S1.put ⟨6, j0, j1, 0⟩ v), t1) := by
   unfold opR
   rw [show ([j0, j1].getD 0 0) = j0 from rfl, show opB 6 [j0, j1] = j1 from rfl, hv]
  have e4 := e3.symm.trans e2
  have e5 := (Prod.mk.inj (Prod.mk.inj (Except.ok.inj e4)).1)
  first | refine aH.mk (jU 6 (S1.val j0) (S1.val j1) v nF tT (by decide) hv) ?_ | refine aF.mk (jU 6 (S1.val j0) (S1.val j1) v nF tT (by decide) hv) ?_ | refine aH.bY (jU 6 (S1.val j0) (S1.val j1) v nF tT (by decide) hv) ?_ | refine aF.mk (bQ.fJ (jU 6 (S1.val j0) (S1.val j1) v nF tT (by decide) hv)) ?_
  simp -dsimp -implicitDefEqProofs only [go_sem, ↓reduceIte, Tryz.f117]
  unfold l5 at b4
  simp only at b4
  refine aH.eM (yX ⟨om, og, some w, H1⟩ ⟨6, j0, j1, 0⟩ v b1.len (by have := b1.cap; omega)) ?_
  rintro r h3 ⟨rfl, mQ⟩
  simp -dsimp -implicitDefEqProofs only [go_sem, ↓reduceIte, Tryz.f117]
  rw [e5.2] at mQ
  exact ⟨_, _, bD _ _, by rw [e5.1], mQ⟩
set_option maxRecDepth 100000
open Go.Proofs
set_option linter.unusedVariables false
set_option linter.unusedSimpArgs false
theorem a24 {p : aE} (hp : p.ok) {inp : Int} {n : Nat} (hv : pU p inp n) {h0 h : aA} {nb st : Nat} {e : aB} {env : List Int} {S : c6} {funcs : Int} {k : Int} {S' : c6} {t : Nat} (hR : dJ (bR p inp) h0 nb S h) (hst : st < 3000)
  (hok : e.ok p funcs env.length) (eH : 0 ≤ funcs) (hf : funcs ≤ p.aI.length) (hg : Good inp S st) (henv : ∀ x ∈ env, lG S x) (hel : env.length ≤ 412 + st) (hr : dX p (n + 1) st e env S = .ok ((k, S'), t)) (hk : e.aO = 8) :
  fF Tryz.prog 117 [.op nb 6 0 0, .ip 5 [e.c] 0 0, ints env] h fun r h' => r = I k ∧ dJ (bR p inp) h0 nb S' h' := by
 rw [aB.aR]
 have hnode := (aB.cR _ _ _ _).1 hok
 have h3 : ¬ st = 3000 := by omega
 have hcap := hg.cap
 have hgcap := hg.oY
 have j9 := hg.lV (Nat.le_succ st)
 have hlen := dB hok (by omega)
 rw [hk, show dN 8 = 3 from rfl] at hlen
 have o0 := dZ hok (by omega)
 rw [wR h3 hk] at hr
 obtain ⟨⟨k1, S1⟩, t1, e1, e2⟩ := iC hr
 rw [aB.tD (show 0 < e.aK.length by omega)] at e1
 obtain ⟨q1, q2, q3, q4⟩ := mW hp n (st + 1) e.aK[0] env S funcs (o0 _ (List.getElem_mem _)) hf j9 (by omega) henv _ _ e1
 unfold l5 at q4
 simp only at q1 q2 q3 q4 e2
 have hsub : ∀ (i : Nat) (hi : i < e.aK.length), fN [.op nb 6 0 0, .ip 5 (e.aK.map aB.c) i 0, ints env] [.op nb 6 0 0, .ip 5 [e.aK[i].c] 0 0, ints env] := fun i hi => .cons (.refl _) (.cons (Sub.ip (cH hi) (by simp)) (.cons (.refl _) .nil))
 refine gK 183 pT yY yZ mix Tryz.func117 rfl (by kernel_rfl) (by simp) ?_
 simp -dsimp -implicitDefEqProofs only [go_sem, ↓reduceIte, Tryz.f117, hk]
 refine ⟨by omega, aH.eM (fF.sub (hsub 0 (by omega)) (hv h0 _ nb (st + 1) e.aK[0] env S funcs k1 S1 t1 hR (by omega) (o0 _ (List.getElem_mem _)) eH hf j9 henv (by omega) e1)) ?_⟩
 rintro r h' ⟨rfl, ⟨om1, og1, ov1, H1⟩⟩
 obtain ⟨w, rfl, hw, dw⟩ := H1.row q3
 have k7 := H1.box
 unfold bR at k7
 rw [bE] at k7
 have rk := iZ q3
 have k0 := q3.1
 have k2 := q3.2
 have lw := eV (fun n => [I n]) S1.eZ
 have hgc := q1.oY
 simp -dsimp -implicitDefEqProofs only [go_sem, ↓reduceIte, Tryz.f117, k7, hw, rk]
 refine ⟨k0, by omega, ?_⟩
 have hgd := H1.gds
 cases og1 with
 |none =>
  have hg0 : S1.guards = [] := gZ.1 hgd
  rw [iY]
  simp -dsimp -implicitDefEqProofs only [go_sem, ↓reduceIte, Tryz.f117, k7]
  refine ⟨by decide, by decide, by decide, fun b kE => ?_⟩
  have cY : ¬ b = nb := fun e => by rw [e, k7] at kE; cases kE
  have gU : ¬ nb = b := Ne.symm cY
  have gF : (b = nb) = False := eq_false cY
  have gG : (nb = b) = False := eq_false gU
  simp -dsimp -implicitDefEqProofs only [go_sem, ↓reduceIte, Tryz.f117, k7, gF, gG, aC]
  refine ⟨fun hz => ⟨by omega, ?_⟩, fun hz => ⟨by omega, ?_⟩⟩
  ·rw [decide_eq_true hz]
   obtain ⟨g, hgl, hG⟩ := H1.guard ⟨k1, true⟩ kE (F := aT (aT h' b (.row 2 [[.v (I k1), .v (.bool true)]])) nb (bR p inp (S1.guard ⟨k1, true⟩) om1 (some b) (some w))) (aG _ _ _) (by rw [aC _ _ _ _ cY, aG, hg0]; rfl) (fun n h1 h2 _ => by rw [aC _ _ _ _ h1, aC _ _ _ _ h2])
   unfold bR at hgl
   simp only [c6.guard, hg0, bE, List.nil_append, List.length_singleton] at hgl
   refine aH.wk (aA.j7 hgl) ?_
   have hgG := q1.guard (b := true) q3 (by omega)
   have heG := q2.trans (S1.lS ⟨k1, true⟩)
   rw [if_pos hz, aB.tD (show 1 < e.aK.length by omega)] at e2
   refine aH.eM (fF.sub (hsub 1 (by omega)) (hv h0 g nb t1 e.aK[1] env (S1.guard ⟨k1, true⟩) funcs k S' t ⟨_, _, _, hG⟩ (by omega) (o0 _ (List.getElem_mem _)) eH hf hgG (fun x hx => (henv x hx).ext heG) (by omega) e2)) ?_
   rintro r h2 ⟨rfl, p8⟩
   simp -dsimp -implicitDefEqProofs only [go_sem, ↓reduceIte, Tryz.f117]
   exact ⟨_, _, bD _ _, rfl, p8⟩
  ·rw [decide_eq_false hz]
   obtain ⟨g, hgl, hG⟩ := H1.guard ⟨k1, false⟩ kE (F := aT (aT h' b (.row 2 [[.v (I k1), .v (.bool false)]])) nb (bR p inp (S1.guard ⟨k1, false⟩) om1 (some b) (some w))) (aG _ _ _) (by rw [aC _ _ _ _ cY, aG, hg0]; rfl) (fun n h1 h2 _ => by rw [aC _ _ _ _ h1, aC _ _ _ _ h2])
   unfold bR at hgl
   simp only [c6.guard, hg0, bE, List.nil_append, List.length_singleton] at hgl
   refine aH.wk (aA.j7 hgl) ?_
   have hgG := q1.guard (b := false) q3 (by omega)
   have heG := q2.trans (S1.lS ⟨k1, false⟩)
   rw [if_neg hz, aB.tD (show 2 < e.aK.length by omega)] at e2
   refine aH.eM (fF.sub (hsub 2 (by omega)) (hv h0 g nb t1 e.aK[2] env (S1.guard ⟨k1, false⟩) funcs k S' t ⟨_, _, _, hG⟩ (by omega) (o0 _ (List.getElem_mem _)) eH hf hgG (fun x hx => (henv x hx).ext heG) (by omega) e2)) ?_
   rintro r h2 ⟨rfl, p8⟩
   simp -dsimp -implicitDefEqProofs only [go_sem, ↓reduceIte, Tryz.f117]
   exact ⟨_, _, bD _ _, rfl, p8⟩
 |some gm =>
  have hgm := hgd.2
  have aB2 : ¬ gm = nb := fun e => by rw [e, k7] at hgm; cases hgm
  have aLQ : ¬ nb = gm := Ne.symm aB2
  have aLR : (gm = nb) = False := eq_false aB2
  have aLS : (nb = gm) = False := eq_false aLQ
  rw [bE]
  simp -dsimp -implicitDefEqProofs only [go_sem, ↓reduceIte, Tryz.f117, k7, hgm, eV]
  refine ⟨by decide, by decide, by decide, Nat.le_refl _, by omega, by omega, fun b kE => ?_⟩
  have cY : ¬ b = nb := fun e => by rw [e, k7] at kE; cases kE
  have gU : ¬ nb = b := Ne.symm cY
  have gF : (b = nb) = False := eq_false cY
  have gG : (nb = b) = False := eq_false gU
  have aHR : ¬ b = gm := fun e => by rw [e, hgm] at kE; cases kE
  have aQR : ¬ gm = b := Ne.symm aHR
  have aQS : (b = gm) = False := eq_false aHR
  have aQT : (gm = b) = False := eq_false aQR
  simp -dsimp -implicitDefEqProofs only [go_sem, ↓reduceIte, Tryz.f117, k7, gF, aQS, gG, aLS, aQT, aLR, aC]
  refine ⟨fun hz => ⟨by omega, ?_⟩, fun hz => ⟨by omega, ?_⟩⟩
  ·rw [decide_eq_true hz, List.take_of_length_le (by rw [eV]; exact Nat.le_refl _)]
   obtain ⟨g, hgl, hG⟩ := H1.guard ⟨k1, true⟩ kE (F := aT (aT (aT h' gm .gone) b (.row 2 (rowsOf eC.c S1.guards ++ [[.v (I k1), .v (.bool true)]]))) nb (bR p inp (S1.guard ⟨k1, true⟩) om1 (some b) (some w))) (aG _ _ _) (by rw [aC _ _ _ _ cY, aG, lW]; rfl) (fun n h1 h2 h3 => by rw [aC _ _ _ _ h1, aC _ _ _ _ h2, aC _ _ _ _ (fun q => h3 (by rw [q]))])
   unfold bR at hgl
   simp only [c6.guard, bE, List.length_append, List.length_singleton] at hgl
   refine aH.wk (aA.j7 hgl) ?_
   have hgG := q1.guard (b := true) q3 (by omega)
   have heG := q2.trans (S1.lS ⟨k1, true⟩)
   rw [if_pos hz, aB.tD (show 1 < e.aK.length by omega)] at e2
   refine aH.eM (fF.sub (hsub 1 (by omega)) (hv h0 g nb t1 e.aK[1] env (S1.guard ⟨k1, true⟩) funcs k S' t ⟨_, _, _, hG⟩ (by omega) (o0 _ (List.getElem_mem _)) eH hf hgG (fun x hx => (henv x hx).ext heG) (by omega) e2)) ?_
   rintro r h2 ⟨rfl, p8⟩
   simp -dsimp -implicitDefEqProofs only [go_sem, ↓reduceIte, Tryz.f117]
   exact ⟨_, _, bD _ _, rfl, p8⟩
  ·rw [decide_eq_false hz, List.take_of_length_le (by rw [eV]; exact Nat.le_refl _)]
   obtain ⟨g, hgl, hG⟩ := H1.guard ⟨k1, false⟩ kE (F := aT (aT (aT h' gm .gone) b (.row 2 (rowsOf eC.c S1.guards ++ [[.v (I k1), .v (.bool false)]]))) nb (bR p inp (S1.guard ⟨k1, false⟩) om1 (some b) (some w))) (aG _ _ _) (by rw [aC _ _ _ _ cY, aG, lW]; rfl) (fun n h1 h2 h3 => by rw [aC _ _ _ _ h1, aC _ _ _ _ h2, aC _ _ _ _ (fun q => h3 (by rw [q]))])
   unfold bR at hgl
   simp only [c6.guard, bE, List.length_append, List.length_singleton] at hgl
   refine aH.wk (aA.j7 hgl) ?_
   have hgG := q1.guard (b := false) q3 (by omega)
   have heG := q2.trans (S1.lS ⟨k1, false⟩)
   rw [if_neg hz, aB.tD (show 2 < e.aK.length by omega)] at e2
   refine aH.eM (fF.sub (hsub 2 (by omega)) (hv h0 g nb t1 e.aK[2] env (S1.guard ⟨k1, false⟩) funcs k S' t ⟨_, _, _, hG⟩ (by omega) (o0 _ (List.getElem_mem _)) eH hf hgG (fun x hx => (henv x hx).ext heG) (by omega) e2)) ?_
   rintro r h2 ⟨rfl, p8⟩
   simp -dsimp -implicitDefEqProofs only [go_sem, ↓reduceIte, Tryz.f117]
   exact ⟨_, _, bD _ _, rfl, p8⟩
set_option maxRecDepth 100000
open Go.Proofs
set_option linter.unusedVariables false
set_option linter.unusedSimpArgs false
@[go_sem] def aLY : List Nat := [0, 1, 2, 6, 7, 8, 9, 10, 18, 49, 67]
@[go_sem] def aYG : List Nat := [11, 31]
@[go_sem] def aYH : Marks := fun id => match id with | 6 => ([3], (.op 0 (.op 1 (.op 2 (.op 7 (.op 8 (.op 9 (.op 10 (.op 3 (.op 4 (.op 5 (.op 6 (.op 11 (.op 12 .nil))))))))))))), []) | 8 => ([11], (.op 0 (.op 1 (.op 2 (.op 3 (.op 4 (.op 5 (.op 6 (.op 7 (.op 8 (.op 9 (.op 10 (.op 11 (.op 12 .nil))))))))))))), []) | _ => ([], .nil, [])
def a25 (l : List Int) : Option Nat → aD
 |none => ints l
 |some m => .os m 1 0 l.length
theorem aJQ (l : List Int) : a25 l none = ints l := rfl
theorem aJR (l : List Int) (m : Nat) : a25 l (some m) = .os m 1 0 l.length := rfl
theorem aQ3 {f : List Int → Nat → c6 → Out (List Int × c6)} {N : Nat} {vs : List Int} {t : Nat} {S : c6} {v : List Int × c6} {u : Nat} (h : oQ f N vs t S = .ok (v, u)) {k : Nat} (hk : k < N) {us : List Int} {S1 : c6} {t1 : Nat} (h1 : oQ f k vs t S = .ok ((us, S1), t1)) :
  ∃ l S2 t2, f us t1 S1 = .ok ((l, S2), t2) ∧ oQ f (k + 1) vs t S = .ok ((l, S2), t2) := by
 have h2 := wQ f k vs t S
 rw [h1] at h2
 have h3 : oQ f (k + 1) vs t S = f us t1 S1 := h2
 cases hf : f us t1 S1 with
 |ok q => exact ⟨q.1.1, q.1.2, q.2, rfl, h3.trans hf⟩
 |error c =>
  have := aJI f (k + 1) (n := N) hk (h3.trans hf)
  rw [h] at this; cases this
theorem aO9 {p : aE} (hp : p.ok) {inp : Int} {n : Nat} (hv : pU p inp n) {h0 h : aA} {nb st : Nat} {e : aB} {env : List Int} {S : c6} {funcs : Int} {k : Int} {S' : c6} {t : Nat} (hR : dJ (bR p inp) h0 nb S h) (hst : st < 3000)
  (hok : e.ok p funcs env.length) (eH : 0 ≤ funcs) (hf : funcs ≤ p.aI.length) (hg : Good inp S st) (henv : ∀ x ∈ env, lG S x) (hel : env.length ≤ 412 + st) (hr : dX p (n + 1) st e env S = .ok ((k, S'), t)) (hk : e.aO = 10 ∨ e.aO = 11) :
  fF Tryz.prog 144 [.op nb 6 0 0, .ip 5 [e.c] 0 0, ints env] h fun r h' => r = I k ∧ dJ (bR p inp) h0 nb S' h' := by
 have h3 : ¬ st = 3000 := by omega
 have j9 := hg.lV (Nat.le_succ st)
 obtain ⟨f, F⟩ := l4 hp hok hf hk
 have hkl : e.aK.length ≤ 1048576 := by have := F.kids; have := F.params; omega
 have f1 := F.lo
 have f2 := F.hi
 have f3 := F.pk
 have f4 := F.pk2
 have f5 := F.kids
 have f6 := F.params
 have f8 := F.outs
 have o0 := dZ hok (by omega)
 have hseq : ∃ vs S1 t1, kJ (fun t e S => dX p n t e env S) e.aK (st + 1) S = .ok ((vs, S1), t1) := by
  rcases hk with hk | hk
  ·rw [wS h3 hk] at hr
   obtain ⟨w, u, h1, _⟩ := iC hr
   exact ⟨w.1, w.2, u, h1⟩
  ·rw [wT h3 hk] at hr
   obtain ⟨w, u, h1, _⟩ := iC hr
   exact ⟨w.1, w.2, u, h1⟩
 obtain ⟨ws, Sw, tw, hs0⟩ := hseq
 obtain ⟨q1, q2, q3, q4⟩ := gS hp j9 (by omega) henv o0 hf _ _ hs0
 simp only at q1 q2 q3
 have q5 := q4.2.2.1
 have q6 := q4.2.2.2
 rw [aB.aR]
 refine gK 81 aLY aYG aYH mix Tryz.func144 rfl (by kernel_rfl) (by simp) ?_
 simp -dsimp -implicitDefEqProofs only [go_sem, ↓reduceIte, Tryz.f144]
 refine ⟨by decide, ?_⟩
 refine dA (keep := aLY) (ib := aYG) (mk := aYH) mix (by kernel_rfl) (fun x : Nat × List Int × c6 × Nat × aA × Option Nat => [(0, .op nb 6 0 0), (1, .ip 5 [e.c] 0 0), (2, ints env), (7, jM 1 x.2.1.length x.2.2.2.2.2), (8, I x.1)]) (fun x => cQ x.2.2.2.2.1 (.row 1 ((x.2.1.map fun n => [I n]).map (List.map .v))) x.2.2.2.2.2) (fun x => x.1 ≤ e.aK.length ∧ x.2.1.length = x.1 ∧ kJ (fun t e S => dX p n t e env S) (e.aK.take x.1) (st + 1) S = .ok ((x.2.1, x.2.2.1), x.2.2.2.1) ∧ dJ (bR p inp) h0 nb x.2.2.1 x.2.2.2.2.1 ∧ gX x.2.2.2.2.1 x.2.1 x.2.2.2.2.2) (fun x => e.aK.length - x.1) (0, [], S, st + 1, h, none) ⟨by simp [dF, b6, jM, aB.aR], aA.le_refl _, Nat.zero_le _, rfl, rfl, hR, rfl⟩ ?_
 rintro ⟨i, vs, S1, t1, g, o⟩ ⟨hi, hvl, hs, hR, hos⟩
 simp only at hi hvl hs hR hos ⊢
 rw [aB.aR]
 rcases Nat.lt_or_ge i e.aK.length with hlt | hge
 ·have ek : e.aK[i]? = some e.aK[i] := List.getElem?_eq_getElem hlt
  obtain ⟨j, S2, t2, hj, oI⟩ := lT hs0 hlt hs
  obtain ⟨b1, b2, b3, b4⟩ := gS hp (l := e.aK.take i) j9 (by omega) henv (fun x hx => o0 x (List.mem_of_mem_take hx)) hf _ _ hs
  simp only at b1 b2 b3
  have hsub : fN [.op nb 6 0 0, .ip 5 (e.aK.map aB.c) i 0, ints env] [.op nb 6 0 0, .ip 5 [e.aK[i].c] 0 0, ints env] := .cons (.refl _) (.cons (Sub.ip (cH hlt) (by simp)) (.cons (.refl _) .nil))
  cases o with
  |none =>
   rw [bH] at hos
   subst hos
   simp -dsimp -implicitDefEqProofs only [go_sem, ↓reduceIte, Tryz.f144, bU, aQ, hlt, ek]
   refine fun _ => aH.eM (fF.sub hsub (hv h0 g nb t1 e.aK[i] env S1 funcs j S2 t2 hR b4.2.2.2 (o0 _ (List.getElem_mem _)) eH hf b1 (fun x hx => (henv x hx).ext b2) (by have := b4.2.2.1; omega) hj)) ?_
   rintro r h' ⟨rfl, mQ⟩
   simp -dsimp -implicitDefEqProofs only [go_sem, ↓reduceIte, Tryz.f144]
   refine ⟨Nat.zero_lt_one, Nat.zero_lt_one, Nat.zero_lt_one, fun b kE => ?_⟩
   refine ⟨(i + 1, [j], S2, t2, h', some b), ⟨rfl, by rw [IntWalk.i64_in _ (by omega)]; rfl⟩, aA.le_refl _, ⟨by omega, by simp only [List.length_nil] at hvl; subst hvl; rfl, oI, mQ, kE⟩, by simp only; omega⟩
  |some m =>
   rw [aV] at hos
   simp -dsimp -implicitDefEqProofs only [go_sem, ↓reduceIte, Tryz.f144, aY, aJ, hlt, ek]
   refine fun _ => aH.eM (fF.sub hsub (hv _ _ nb t1 e.aK[i] env S1 funcs j S2 t2 (hR.xT hos) b4.2.2.2 (o0 _ (List.getElem_mem _)) eH hf b1 (fun x hx => (henv x hx).ext b2) (by have := b4.2.2.1; omega) hj)) ?_
   rintro r h' ⟨rfl, mQ⟩
   obtain ⟨g2, rfl, hg2, mQ⟩ := mQ.base (hR.none hos)
   simp -dsimp -implicitDefEqProofs only [go_sem, ↓reduceIte, Tryz.f144]
   refine ⟨Nat.zero_lt_one, Nat.zero_lt_one, Nat.zero_lt_one, Nat.le_refl _, by omega, by omega, fun b ⟨hbm, kE⟩ => ?_⟩
   have fW : ¬ b = m := hbm
   have mV : ¬ m = b := Ne.symm fW
   have kT : (b = m) = False := eq_false fW
   have kU : (m = b) = False := eq_false mV
   refine ⟨(i + 1, vs ++ [j], S2, t2, g2, some b), ⟨by rw [aY, List.length_append]; rfl, by rw [IntWalk.i64_in _ (by omega)]; rfl⟩, ?_, ⟨by omega, by rw [List.length_append, hvl]; rfl, oI, mQ, kE⟩, by simp only; omega⟩
   simp only [aJ]
   rw [← fO]
   exact lN hg2
 ·have hi' : i = e.aK.length := by omega
  subst hi'
  rw [List.take_length, hs0] at hs
  obtain ⟨rfl, rfl⟩ := Prod.mk.inj (Prod.mk.inj (Except.ok.inj hs)).1
  obtain rfl := (Prod.mk.inj (Except.ok.inj hs)).2
  obtain ⟨om, og, ov, H⟩ := hR
  have hb := H.box
  unfold bR at hb
  have hR : dJ (bR p inp) h0 nb Sw g := ⟨om, og, ov, H⟩
  have hsubp : ∀ x, fN [.op nb 6 0 0, .ip 5 (f.aW.map aB.c) e.cN.toNat 0, x] [.op nb 6 0 0, .ip 5 [(p.out e.aX e.cN).c] 0 0, x] := fun x => .cons (.refl _) (.cons (Sub.ip (by rw [List.getElem?_map, F.out]; rfl) (by simp)) (.cons (.refl _) .nil))
  rcases hk with hk | hk
  ·rw [wS h3 hk, hs0] at hr
   have hr' : dX p n tw (p.out e.aX e.cN) ws Sw = .ok ((k, S'), t) := hr
   have hfin : ∀ {h1 g1 : aA}, dJ (bR p inp) h1 nb Sw g1 → fF Tryz.prog 117 [.op nb 6 0 0, .ip 5 (f.aW.map aB.c) e.cN.toNat 0, ints ws] g1 fun r h' => r = I k ∧ dJ (bR p inp) h1 nb S' h' := fun p8 =>
    fF.sub (hsubp _) (hv _ _ nb tw (p.out e.aX e.cN) ws Sw e.aX k S' t p8 (by omega) (by rw [hvl, f5]; exact F.oks _ (List.mem_of_getElem? F.out)) f1 (by omega) q1 q3.2 (by omega) hr')
   cases o with
   |none =>
    rw [bH] at hos
    subst hos
    simp -dsimp -implicitDefEqProofs only [go_sem, ↓reduceIte, Tryz.f144, bU, aQ, Nat.lt_irrefl, Int.lt_irrefl, hb, F.get, aS.aR, hk]
    refine fun _ => ⟨f1, f2, f3, by omega, ?_⟩
    refine aH.eM (fF.sub (.cons (.refl _) (.cons (.refl _) (.cons (Sub.loose _ _ _) .nil))) (hfin hR)) ?_
    rintro r h' ⟨rfl, mQ⟩
    simp -dsimp -implicitDefEqProofs only [go_sem, ↓reduceIte, Tryz.f144]
    exact ⟨_, _, bD _ _, rfl, mQ⟩
   |some m =>
    rw [aV] at hos
    have cS : ¬ nb = m := fun q => by rw [q, hos] at hb; cases hb
    have dD : ¬ m = nb := Ne.symm cS
    have dI : (nb = m) = False := eq_false cS
    have dH : (m = nb) = False := eq_false dD
    simp -dsimp -implicitDefEqProofs only [go_sem, ↓reduceIte, Tryz.f144, aY, aJ, Nat.lt_irrefl, Int.lt_irrefl, hb, dI, dH, aC, F.get, aS.aR, hk]
    refine fun _ => ⟨f1, f2, f3, by omega, ?_⟩
    refine aH.aEP (es := ws.map fun n => [I n]) rfl rfl cS (by simp) hos ?_
    refine fF.mono (hfin (hR.xT (o := .gone) hos)) ?_
    rintro r h2 ⟨rfl, p8⟩
    obtain ⟨g3, rfl, hg3, p8⟩ := p8.base (hR.none hos)
    simp -dsimp -implicitDefEqProofs only [go_sem, ↓reduceIte, Tryz.f144]
    exact ⟨_, g3, cI (aA.aP hg3 (aA.le_refl _)), rfl, p8⟩
  ·have f7 := F.loop hk
   rw [wT h3 hk, hs0] at hr
   obtain ⟨w0, u0, h9, hr⟩ := iC hr
   cases h9
   obtain ⟨w, u, hit, hr2⟩ := iC hr
   obtain ⟨e1, rfl⟩ := Prod.mk.inj (Except.ok.inj hr2)
   obtain ⟨rfl, rfl⟩ := Prod.mk.inj e1
   obtain ⟨us0, S'⟩ := w
   simp only at hit hr2 e1 ⊢
   have hfl : ∀ us t S2, Good inp S2 t → (us.length = f.aW.length ∧ ∀ x ∈ us, lG S2 x) → t ≤ 3000 → tM (yU inp S2 t f.aW.length) (kJ (fun t e S => dX p n t e us S) (p.outs e.aX) t S2) := fun us w S2 hg' hv' hw => by
    rw [F.eq]
    exact gS hp hg' hw hv'.2 (funcs := e.aX) (fun x hx => by rw [hv'.1, f7.2.2]; exact F.oks x hx) (by omega)
   obtain ⟨m, rfl⟩ : ∃ m, o = some m := by
    cases o with
    |none => rw [bH] at hos; rw [hos] at hvl; simp at hvl; omega
    |some m => exact ⟨m, rfl⟩
   rw [aV] at hos
   have cS : ¬ nb = m := fun q => by rw [q, hos] at hb; cases hb
   have dD : ¬ m = nb := Ne.symm cS
   have dI : (nb = m) = False := eq_false cS
   have dH : (m = nb) = False := eq_false dD
   simp -dsimp -implicitDefEqProofs only [go_sem, ↓reduceIte, Tryz.f144, aY, aJ, Nat.lt_irrefl, Int.lt_irrefl, hb, dI, dH, aC, F.get, aS.aR, hk]
   refine fun _ => ⟨f1, f2, ?_⟩
   refine dA (keep := aLY) (ib := aYG) (mk := aYH) mix (by kernel_rfl) (fun x : Nat × List Int × c6 × Nat × aA × Option Nat => [(0, .op nb 6 0 0), (1, .ip 5 [e.c] 0 0), (7, a25 x.2.1 x.2.2.2.2.2), (9, .ip 3 (p.aI.map aS.c) e.aX.toNat 0), (10, I x.1)]) (fun x => cQ x.2.2.2.2.1 (.row 1 ((x.2.1.map fun n => [I n]).map (List.map .v))) x.2.2.2.2.2) (fun x => x.1 ≤ e.cA.toNat ∧ x.2.1.length = f.aW.length ∧ oQ (fun vs t S => kJ (fun t e S => dX p n t e vs S) (p.outs e.aX) t S) x.1 ws tw Sw = .ok ((x.2.1, x.2.2.1), x.2.2.2.1) ∧ dJ (bR p inp) h0 nb x.2.2.1 x.2.2.2.2.1 ∧ ∀ q, x.2.2.2.2.2 = some q → x.2.2.2.2.1 q = none) (fun x => e.cA.toNat - x.1) (0, ws, Sw, tw, g, some m) ⟨by simp [dF, b6, a25, aB.aR, hvl, hk], aA.le_refl _, Nat.zero_le _, by simp only; omega, rfl, hR, fun q e => by cases e; exact hos⟩ ?_
   clear hR hos H hb
   rintro ⟨i, us, S2, t2, g, o⟩ ⟨hi, hul, hs, hR, hos⟩
   simp only at hi hul hs hR hos ⊢
   obtain ⟨w1, w2, w3, w4⟩ := tI hfl i ws tw Sw q1 ⟨by omega, q3.2⟩ q6 _ _ hs
   simp only at w1 w2 w3
   rw [aB.aR]
   rcases Nat.lt_or_ge i e.cA.toNat with hlt | hge
   ·obtain ⟨l2, S3, t3, hf3, hs3⟩ := aQ3 hit hlt hs
    rw [F.eq] at hf3
    have hou : ∀ {h1 g1 : aA}, dJ (bR p inp) h1 nb S2 g1 → fF Tryz.prog 91 [.op nb 6 0 0, .ip 3 (p.aI.map aS.c) e.aX.toNat 0, ints us] g1 fun r h' => r = ints l2 ∧ dJ (bR p inp) h1 nb S3 h' := fun p8 =>
     fF.sub (.cons (.refl _) (.cons (Sub.ip (by rw [List.getElem?_map, F.get]; rfl) (by simp)) (.cons (.refl _) .nil))) (aO8 hp hv _ _ nb t2 f us S2 e.aX l2 S3 t3 p8 w4.2.2.2 (by omega) (by rw [hul, f7.2.2]; exact F.oks) f1 (by omega) w1 w3.2 (by omega) hf3)
    obtain ⟨v1, v2, v3, v4⟩ := hfl us t2 S2 w1 w3 w4.2.2.2 (l2, S3) t3 (by rw [F.eq]; exact hf3)
    simp only at v3
    cases o with
    |none =>
     simp -dsimp -implicitDefEqProofs only [go_sem, ↓reduceIte, Tryz.f144, aJQ, aQ]
     refine ⟨fun hq => aH.eM (hou hR) ?_, fun hq => by omega⟩
     rintro r h' ⟨rfl, mQ⟩
     simp -dsimp -implicitDefEqProofs only [go_sem, ↓reduceIte, Tryz.f144]
     exact ⟨(i + 1, l2, S3, t3, h', none), ⟨rfl, by rw [IntWalk.i64_in _ (by omega)]; rfl⟩, aA.le_refl _, ⟨by omega, v3.1, hs3, mQ, fun q e => by cases e⟩, by simp only; omega⟩
    |some b =>
     have kE := hos b rfl
     have gU : ¬ nb = b := fun q => by obtain ⟨_, _, _, H2⟩ := hR; have := H2.box; rw [q, kE] at this; cases this
     have cY : ¬ b = nb := Ne.symm gU
     have gG : (nb = b) = False := eq_false gU
     have gF : (b = nb) = False := eq_false cY
     simp -dsimp -implicitDefEqProofs only [go_sem, ↓reduceIte, Tryz.f144, aJR, aJ]
     refine ⟨fun hq => aH.aEP (es := us.map fun n => [I n]) rfl rfl gU (by simp) kE ?_, fun hq => by omega⟩
     refine fF.mono (hou (hR.xT (o := .gone) kE)) ?_
     rintro r h2 ⟨rfl, p8⟩
     obtain ⟨g3, rfl, hg3, p8⟩ := p8.base (hR.none kE)
     simp -dsimp -implicitDefEqProofs only [go_sem, ↓reduceIte, Tryz.f144]
     exact ⟨(i + 1, l2, S3, t3, g3, none), ⟨rfl, by rw [IntWalk.i64_in _ (by omega)]; rfl⟩, aA.aP hg3 (aA.le_refl _), ⟨by omega, v3.1, hs3, p8, fun q e => by cases e⟩, by simp only; omega⟩
   ·have hi' : i = e.cA.toNat := by omega
    subst hi'
    rw [hit] at hs
    obtain ⟨rfl, rfl⟩ := Prod.mk.inj (Prod.mk.inj (Except.ok.inj hs)).1
    have gp : us0[e.cN.toNat]? = some (us0.getD e.cN.toNat 0) := cX (by omega)
    cases o with
    |none =>
     simp -dsimp -implicitDefEqProofs only [go_sem, ↓reduceIte, Tryz.f144, aJQ, aQ, gp]
     exact ⟨fun q => by omega, fun _ => ⟨f3, by omega, _, _, bD _ _, rfl, hR⟩⟩
    |some b =>
     have kE := hos b rfl
     simp -dsimp -implicitDefEqProofs only [go_sem, ↓reduceIte, Tryz.f144, aJR, aJ, gp]
     exact ⟨fun q => by omega, fun _ => ⟨f3, by omega, _, _, cI (aA.aP kE (aA.le_refl _)), rfl, hR⟩⟩
set_option maxRecDepth 100000
open Go.Proofs
set_option linter.unusedVariables false
set_option linter.unusedSimpArgs false
theorem aYI {p : aE} (hp : p.ok) {inp : Int} {n : Nat} (hv : pU p inp n) {h0 h : aA} {nb st : Nat} {e : aB} {env : List Int} {S : c6} {funcs : Int} {k : Int} {S' : c6} {t : Nat} (hR : dJ (bR p inp) h0 nb S h) (hst : st < 3000)
  (hok : e.ok p funcs env.length) (eH : 0 ≤ funcs) (hf : funcs ≤ p.aI.length) (hg : Good inp S st) (henv : ∀ x ∈ env, lG S x) (hel : env.length ≤ 412 + st) (hr : dX p (n + 1) st e env S = .ok ((k, S'), t)) (hk : e.aO = 10) :
  fF Tryz.prog 117 [.op nb 6 0 0, .ip 5 [e.c] 0 0, ints env] h fun r h' => r = I k ∧ dJ (bR p inp) h0 nb S' h' := by
 rw [aB.aR]
 have hnode := (aB.cR _ _ _ _).1 hok
 have h3 : ¬ st = 3000 := by omega
 have hcap := hg.cap
 have hgcap := hg.oY
 have j9 := hg.lV (Nat.le_succ st)
 have hc := aO9 hp hv hR hst hok eH hf hg henv hel hr (Or.inl hk)
 rw [aB.aR, hk] at hc
 refine gK 183 pT yY yZ mix Tryz.func117 rfl (by kernel_rfl) (by simp) ?_
 simp -dsimp -implicitDefEqProofs only [go_sem, ↓reduceIte, Tryz.f117, hk]
 refine aH.eM hc ?_
 rintro r h' ⟨rfl, mQ⟩
 simp -dsimp -implicitDefEqProofs only [go_sem, ↓reduceIte, Tryz.f117]
 exact ⟨_, _, bD _ _, rfl, mQ⟩
theorem aYJ {p : aE} (hp : p.ok) {inp : Int} {n : Nat} (hv : pU p inp n) {h0 h : aA} {nb st : Nat} {e : aB} {env : List Int} {S : c6} {funcs : Int} {k : Int} {S' : c6} {t : Nat} (hR : dJ (bR p inp) h0 nb S h) (hst : st < 3000)
  (hok : e.ok p funcs env.length) (eH : 0 ≤ funcs) (hf : funcs ≤ p.aI.length) (hg : Good inp S st) (henv : ∀ x ∈ env, lG S x) (hel : env.length ≤ 412 + st) (hr : dX p (n + 1) st e env S = .ok ((k, S'), t)) (hk : e.aO = 11) :
  fF Tryz.prog 117 [.op nb 6 0 0, .ip 5 [e.c] 0 0, ints env] h fun r h' => r = I k ∧ dJ (bR p inp) h0 nb S' h' := by
 rw [aB.aR]
 have hnode := (aB.cR _ _ _ _).1 hok
 have h3 : ¬ st = 3000 := by omega
 have hcap := hg.cap
 have hgcap := hg.oY
 have j9 := hg.lV (Nat.le_succ st)
 have hc := aO9 hp hv hR hst hok eH hf hg henv hel hr (Or.inr hk)
 rw [aB.aR, hk] at hc
 refine gK 183 pT yY yZ mix Tryz.func117 rfl (by kernel_rfl) (by simp) ?_
 simp -dsimp -implicitDefEqProofs only [go_sem, ↓reduceIte, Tryz.f117, hk]
 refine aH.eM hc ?_
 rintro r h' ⟨rfl, mQ⟩
 simp -dsimp -implicitDefEqProofs only [go_sem, ↓reduceIte, Tryz.f117]
 exact ⟨_, _, bD _ _, rfl, mQ⟩
theorem a55 {p : aE} (hp : p.ok) {inp : Int} : ∀ n, pU p inp n
 |0 => fun h0 h nb st e env S funcs k S' t hR hst hok eH hf hg henv hel hr => by rw [dX] at hr; cases hr
 |n + 1 => fun h0 h nb st e env S funcs k S' t hR hst hok eH hf hg henv hel hr => by
  have hv := a55 hp (inp := inp) n
  by_cases h3 : st = 3000
  ·rw [dX, if_pos h3] at hr; cases hr
  have h3' : st < 3000 := by omega
  rcases pD ((aB.cR _ _ _ _).1 hok).1 with hk | hk | hk | hk | hk | hk | hk | hk | hk | hk | hk
  ·exact a2W hp hv hR h3' hok eH hf hg henv hel hr hk
  ·exact a2X hp hv hR h3' hok eH hf hg henv hel hr hk
  ·exact a20 hp hv hR h3' hok eH hf hg henv hel hr hk
  ·exact a21 hp hv hR h3' hok eH hf hg henv hel hr hk
  ·exact a22 hp hv hR h3' hok eH hf hg henv hel hr hk
  ·exact a23 hp hv hR h3' hok eH hf hg henv hel hr hk
  ·exact a2Z hp hv hR h3' hok eH hf hg henv hel hr hk
  ·exact a24 hp hv hR h3' hok eH hf hg henv hel hr hk
  ·exact a2Y hp hv hR h3' hok eH hf hg henv hel hr hk
  ·exact aYI hp hv hR h3' hok eH hf hg henv hel hr hk
  ·exact aYJ hp hv hR h3' hok eH hf hg henv hel hr hk
end Go.Hl

/-
  Contracts of functions and laws of the layer over the walk.
-/
import Derived.Test.YtpnelljgohjjdaaGreatVvG
import Derived.Test.YtpnelljgohjjdaaGreatVvF
namespace Go.Hl
set_option maxRecDepth 100000
open Go.Proofs
set_option linter.unusedVariables false
set_option linter.unusedSimpArgs false
def aGK (code : List cC) : List Int := (code.filter fun c => c.sC = 6).map cC.fB
def tL (x : Int) (l : List eS) : List Int := [x] ++ l.map eS.aHR
def oW (t : pL) : List Int := tL (t.aZ.getD 0 0) t.aBI ++ aGK t.cM
theorem aU6 (x : Int) (l : List eS) (g : eS) : tL x (l ++ [g]) = tL x l ++ [g.aHR] := by simp [tL]
theorem aMU (x : Int) (l : List eS) : (tL x l).length = l.length + 1 := by simp [tL]
theorem aMV (l : List cC) (c : cC) : aGK (l ++ [c]) = if c.sC = 6 then aGK l ++ [c.fB] else aGK l := by
 rw [aGK, List.filter_append, List.map_append]
 by_cases h : c.sC = 6
 ·rw [if_pos h]; simp [aGK, h]
 ·rw [if_neg h]; simp [aGK, h]
theorem aR5 (l : List cC) : (aGK l).length ≤ l.length := by rw [aGK, List.length_map]; exact List.length_filter_le _ _
def vH (t : pL) (sh : Int) (a b : List Int) (r : Nat) : Prop := (sN t.cM (oW t))[r]? = some true ∧ ∃ c, t.cM[r]? = some c ∧ c.sC = 1 ∧ c.bQ < sh ∧ ¬ a.getD c.bQ.toNat 0 = b.getD c.bQ.toNat 0
def a2W (l : List Int) : Option Nat → aD
 |none => .sl 1 (l.map fun n => [I n]) true
 |some m => .os m 1 0 l.length
theorem aGL (l : List Int) : a2W l none = .sl 1 (l.map fun n => [I n]) true := rfl
theorem s3 (l : List Int) (m : Nat) : a2W l (some m) = .os m 1 0 l.length := rfl
def a2X (h : aB) (o : Option Nat) : Prop := ∀ m, o = some m → h m = none
def aPP (j : e7) (k : Nat) (point : List Int) : Prop := (mF j.bN j.b8 (dO j k)).2 = 0 ∧ ¬ ∃ r, vH (mF j.bN j.b8 (dO j k)).1 j.aX j.cX point r
noncomputable instance (j : e7) (k : Nat) (point : List Int) : Decidable (aPP j k point) := Classical.propDecidable _
theorem aE5 (l : List Int) (x : Int) : ((l ++ [x]).map fun n => [I n]).map (List.map Cell.v) = ((l.map fun n => [I n]).map (List.map .v)) ++ [[.v (I x)]] := by simp
@[go_sem] def aGM : List Nat := [0, 1, 2, 3, 6, 7, 8, 9, 11, 13, 14, 15, 16, 29, 36, 37, 38, 39, 49, 50, 51, 52, 57, 66, 67, 68, 69, 104]
@[go_sem] def aY6 : List Nat := [3, 34, 45, 61]
@[go_sem] def aY7 : Marks := fun id => match id with | 1 => ([11, 12], (.op 0 (.op 1 (.op 2 (.op 3 (.op 4 (.op 5 (.op 6 (.op 7 (.op 8 (.op 9 (.op 10 (.op 11 (.op 12 (.op 13 .nil)))))))))))))), []) | 20 => ([3, 8, 17, 22], (.op 0 (.op 1 (.op 2 (.op 3 (.op 4 (.op 5 (.op 6 (.op 7 (.op 9 (.op 10 (.op 8 (.op 11 (.op 12 (.op 13 (.op 14 (.op 15 (.op 16 (.op 20 (.op 21 (.op 17 (.op 18 (.op 19 (.op 22 (.op 23 (.op 24 (.op 25 (.op 26 .nil))))))))))))))))))))))))))), []) | _ => ([], .nil, [])
theorem aU7 {j : e7} (hj : j.ok) (hps : j.bN.s ≤ 4194304) {k : Nat} (hk : k < j.bO.length) (point : List Int) (hpt : (point.length : Int) = j.aX) : e8 Tryz.prog 28 [.agg j.c, I k, ints point] (.bool (decide (aPP j k point))) := by
 obtain ⟨t1, t2, t3, t4, t5, t6, t7, t8⟩ := aDF hj hk
 obtain ⟨F, eF, hf, hF, ok⟩ := aGF hj
 obtain ⟨F2, eF2, hO1, hO2, hO3, hO4⟩ := aBC hj.1 hf
 have hargs := bLQ hj hk
 have hrec := bE4 hj.1 hps j.b8 hf (dO j k) t2 (by have := t3 F2 eF2; omega) t3
 have hok := (aH6 hj.1 j.b8 hf (dO j k) t2 t3).1
 rw [aI.aN] at hrec
 simp only [e7.aN] at hargs ⊢
 have hsim := (aH6 hj.1 j.b8 hf (dO j k) t2 t3).2
 have herr := aW8 j.bN 1 j.b8 ((dO j k).map fun n => [n])
 cases hX : aLY j.bN j.b8 (dO j k) with
 |error c =>
  have hR : mF j.bN j.b8 (dO j k) = (⟨0, [], [], []⟩, c) := by rw [mF, hX]
  have hc : ¬ c = 0 := fun e => by
   rw [hX] at hsim
   cases hY : evF j.bN 1 j.b8 ((dO j k).map fun n => [n]) with
   |ok q => rw [hY] at hsim; exact hsim.elim
   |error d =>
    rw [hY] at hsim
    have h1 : c = d := hsim
    rcases herr d hY with h2 | h2 <;> omega
  rw [hR] at hrec
  simp only [pL.aN] at hrec
  refine eI 106 aGM aY6 aY7 mix Tryz.func28 rfl (by kernel_rfl) (by simp) fun h => ?_
  simp -dsimp -implicitDefEqProofs only [go_sem, ↓reduceIte, Tryz.f28]
  first | refine aJ.mk (hargs) ?_ | refine aL.mk (hargs) ?_ | refine aJ.dF (hargs) ?_ | refine aL.mk (cZ.gC (hargs)) ?_
  simp -dsimp -implicitDefEqProofs only [go_sem, ↓reduceIte, Tryz.f28]
  first | refine aJ.mk (hrec) ?_ | refine aL.mk (hrec) ?_ | refine aJ.dF (hrec) ?_ | refine aL.mk (cZ.gC (hrec)) ?_
  simp -dsimp -implicitDefEqProofs only [go_sem, ↓reduceIte, Tryz.f28]
  intro n hn
  refine ⟨fun _ => ⟨(decide_eq_false fun z => hc (by have := z.1; rw [hR] at this; exact this)).symm, aB.bD hn (aB.bD hn (aB.le_refl _))⟩, fun q => absurd q hc⟩
 |ok q =>
  obtain ⟨⟨l, S⟩, t⟩ := q
  obtain ⟨g1, g2, ⟨g3, g4⟩, g5⟩ := hok _ _ hX
  simp only at g1 g2 g3 g4 g5
  unfold pG at g5
  have g6 := g1.cap
  have g7 := g1.rK
  have g8 := g1.len
  have hR : mF j.bN j.b8 (dO j k) = (⟨(dO j k).length, S.code, S.guards, l⟩, 0) := by rw [mF, hX]
  have hu : aPP j k point ↔ ¬ ∃ r, vH ⟨(dO j k).length, S.code, S.guards, l⟩ j.aX j.cX point r := by rw [aPP, hR]; simp
  rw [hR] at hrec
  simp only [pL.aN] at hrec
  have l0 : l[Int.toNat 0]? = some (l.getD 0 0) := eZ (by rw [g3, hO3]; omega)
  refine eI 106 aGM aY6 aY7 mix Tryz.func28 rfl (by kernel_rfl) (by simp) fun h => ?_
  simp -dsimp -implicitDefEqProofs only [go_sem, ↓reduceIte, Tryz.f28]
  first | refine aJ.mk (hargs) ?_ | refine aL.mk (hargs) ?_ | refine aJ.dF (hargs) ?_ | refine aL.mk (cZ.gC (hargs)) ?_
  simp -dsimp -implicitDefEqProofs only [go_sem, ↓reduceIte, Tryz.f28]
  first | refine aJ.mk (hrec) ?_ | refine aL.mk (hrec) ?_ | refine aJ.dF (hrec) ?_ | refine aL.mk (cZ.gC (hrec)) ?_
  simp -dsimp -implicitDefEqProofs only [go_sem, ↓reduceIte, Tryz.f28]
  intro n hn
  try simp -dsimp -implicitDefEqProofs only [go_sem, ↓reduceIte, Tryz.f28, aF, l0]
  refine ⟨by rw [g3, hO3]; omega, by decide, by decide, fun _ => ?_⟩
  generalize hh7 : bK h n (.row 4 [[.v (I (dO j k).length), .v (c5 4 cC.c S.code), .v (c5 2 eS.c S.guards), .v (ints l)]]) = h7
  have h7n : h7 n = some (.row 4 [[.v (I (dO j k).length), .v (c5 4 cC.c S.code), .v (c5 2 eS.c S.guards), .v (ints l)]]) := by rw [← hh7, aU]
  have aGN : h.le h7 := by rw [← hh7]; exact aB.bD hn (aB.le_refl _)
  refine cS (keep := aGM) (ib := aY6) (mk := aY7) mix (by kernel_rfl) (fun x : Nat × List Int × Option Nat => [(2, ints point), (3, .ip 5 [[c5 3 aV.c j.bN.aH, I j.b8, I j.aX, c5 1 (fun n => [I n]) j.cX, c5 1 (fun x => [c5 1 (fun n => [I n]) x]) j.bO]] 0 0), (7, .op n 4 0 0), (9, a2W x.2.1 x.2.2), (36, c5 2 eS.c S.guards), (37, I S.guards.length), (38, I x.1)]) (fun x => dD h7 (.row 1 ((x.2.1.map fun n => [I n]).map (List.map .v))) x.2.2) (fun x => x.1 ≤ S.guards.length ∧ x.2.1 = tL (l.getD 0 0) (S.guards.take x.1) ∧ a2X h7 x.2.2) (fun x => S.guards.length - x.1) (0, [l.getD 0 0], none) ⟨by simp [dA, cH, a2W], aB.le_refl _, Nat.zero_le _, rfl, fun m e => by cases e⟩ ?_
  rintro ⟨i, L, o⟩ ⟨hi, hL, ho⟩
  simp only at hi hL ho ⊢
  rcases Nat.lt_or_ge i S.guards.length with hlt | hge
  ·have ei : S.guards[i]? = some S.guards[i] := List.getElem?_eq_getElem hlt
   have hy : L ++ [S.guards[i].aHR] = tL (l.getD 0 0) (S.guards.take (i + 1)) := by
    rw [List.take_succ_eq_append_getElem hlt, aU6, hL]
   have hLl : L.length ≤ i + 1 := by rw [hL, aMU, List.length_take]; omega
   cases o with
   |none =>
    simp -dsimp -implicitDefEqProofs only [go_sem, ↓reduceIte, Tryz.f28, aGL, aK, hlt, ei, eS.aN]
    intro m9 z9
    refine ⟨by decide, by decide, by decide, by omega, by omega, fun b ⟨hb9, _, hb7⟩ => ⟨(i + 1, L ++ [S.guards[i].aHR], some b), ⟨by rw [s3, List.length_append]; rfl, by rw [IntWalk.i64_in _ (by omega)]; rfl⟩, ?_, ⟨by omega, hy, fun q e => by cases e; exact hb7⟩, by simp only; omega⟩⟩
    simp only [aG]
    rw [aE5]
    simp only [List.map_append, List.map_cons, List.map_nil] at *
    exact (jJ (by repeat' (first | exact gJ _ _ | refine jK (by simp only [dZ, ↓reduceIte, eq_self, if_true, hb9, z9]) ?_ | refine fM (by first | exact .inr (by assumption) | exact .inl (by simp)) ?_)))
   |some m =>
    have hm := ho m rfl
    simp -dsimp -implicitDefEqProofs only [go_sem, ↓reduceIte, Tryz.f28, s3, aG, hlt, ei, eS.aN]
    intro m9 ⟨h9m, z9⟩
    have wQ : ¬ m9 = m := h9m
    have aKY : ¬ m = m9 := Ne.symm wQ
    have yY : (m9 = m) = False := eq_false wQ
    have yZ : (m = m9) = False := eq_false aKY
    simp -dsimp -implicitDefEqProofs only [go_sem, ↓reduceIte, Tryz.f28, yZ, yY, aC]
    refine ⟨by decide, by decide, by decide, Nat.le_refl _, by omega, by omega, fun b ⟨hb9, _, hbm, hb7⟩ => ⟨(i + 1, L ++ [S.guards[i].aHR], some b), ⟨by rw [s3, List.length_append]; rfl, by rw [IntWalk.i64_in _ (by omega)]; rfl⟩, ?_, ⟨by omega, hy, fun q e => by cases e; exact hb7⟩, by simp only; omega⟩⟩
    simp only [aG]
    rw [aE5, List.take_of_length_le (by simp)]
    exact (jJ (by repeat' (first | exact gJ _ _ | refine jK (by simp only [dZ, ↓reduceIte, eq_self, if_true, hb9, z9, hbm, yZ, yY]) ?_ | refine fM (by first | exact .inr (by assumption) | exact .inl (by simp)) ?_)))
  ·have hi' : i = S.guards.length := by omega
   subst hi'
   rw [List.take_length] at hL
   have hgl := aMU (l.getD 0 0) S.guards
   have hon : ∀ (R : bM) (o : Option Nat), a2X h7 o → dD h7 R o n = some (.row 4 [[.v (I (dO j k).length), .v (c5 4 cC.c S.code), .v (c5 2 eS.c S.guards), .v (ints l)]]) := fun R o ho => by
    cases o with
    |none => exact h7n
    |some m => rw [aG, aC _ _ _ _ (fun e => by have := ho m rfl; rw [← e, h7n] at this; cases this)]; exact h7n
   have tV := hon (.row 1 ((L.map fun n => [I n]).map (List.map .v))) o ho
   simp -dsimp -implicitDefEqProofs only [go_sem, ↓reduceIte, Tryz.f28, tV, Nat.lt_irrefl, Int.lt_irrefl]
   intro _
   clear hi tV
   refine cS (keep := aGM) (ib := aY6) (mk := aY7) mix (by kernel_rfl) (fun x : Nat × List Int × Option Nat => [(2, ints point), (3, .ip 5 [[c5 3 aV.c j.bN.aH, I j.b8, I j.aX, c5 1 (fun n => [I n]) j.cX, c5 1 (fun x => [c5 1 (fun n => [I n]) x]) j.bO]] 0 0), (7, .op n 4 0 0), (9, a2W x.2.1 x.2.2), (49, c5 4 cC.c S.code), (50, I S.code.length), (51, I x.1)]) (fun x => dD h7 (.row 1 ((x.2.1.map fun n => [I n]).map (List.map .v))) x.2.2) (fun x => x.1 ≤ S.code.length ∧ x.2.1 = tL (l.getD 0 0) S.guards ++ aGK (S.code.take x.1) ∧ a2X h7 x.2.2) (fun x => S.code.length - x.1) (0, L, o) ⟨by simp [dA, cH], aB.le_refl _, Nat.zero_le _, by simp only [List.take_zero]; rw [hL]; simp [aGK], ho⟩ ?_
   rintro ⟨i, L, o⟩ ⟨hi, hL, ho⟩
   simp only at hi hL ho ⊢
   rcases Nat.lt_or_ge i S.code.length with hlt | hge
   ·have ei : S.code[i]? = some S.code[i] := List.getElem?_eq_getElem hlt
    have hdl := aR5 (S.code.take i)
    have hLl : L.length ≤ i + S.guards.length + 1 := by rw [hL, List.length_append, hgl]; rw [List.length_take] at hdl; omega
    have hy6 : S.code[i].sC = 6 → L ++ [S.code[i].fB] = tL (l.getD 0 0) S.guards ++ aGK (S.code.take (i + 1)) := fun h6 => by
     rw [List.take_succ_eq_append_getElem hlt, aMV, if_pos h6, hL, List.append_assoc]
    have hn6 : ¬ S.code[i].sC = 6 → L = tL (l.getD 0 0) S.guards ++ aGK (S.code.take (i + 1)) := fun h6 => by
     rw [List.take_succ_eq_append_getElem hlt, aMV, if_neg h6, hL]
    cases o with
    |none =>
     simp -dsimp -implicitDefEqProofs only [go_sem, ↓reduceIte, Tryz.f28, aGL, aK, hlt, ei, cC.aN]
     intro m9 z9
     refine ⟨fun h6 => ?_, fun h6 => ?_⟩
     ·have hy := hy6 h6
      refine ⟨by decide, by decide, by decide, by omega, by omega, fun b ⟨hb9, _, hb7⟩ => ⟨(i + 1, L ++ [S.code[i].fB], some b), ⟨by rw [s3, List.length_append]; rfl, by rw [IntWalk.i64_in _ (by omega)]; rfl⟩, ?_, ⟨by omega, hy, fun q e => by cases e; exact hb7⟩, by simp only; omega⟩⟩
      simp only [aG]
      rw [aE5]
      simp only [List.map_append, List.map_cons, List.map_nil] at *
      exact (jJ (by repeat' (first | exact gJ _ _ | refine jK (by simp only [dZ, ↓reduceIte, eq_self, if_true, hb9, z9]) ?_ | refine fM (by first | exact .inr (by assumption) | exact .inl (by simp)) ?_)))
     ·exact ⟨(i + 1, L, none), ⟨rfl, by rw [IntWalk.i64_in _ (by omega)]; rfl⟩, aB.bD z9 (aB.bD z9 (aB.le_refl _)), ⟨by omega, hn6 h6, fun q e => by cases e⟩, by simp only; omega⟩
    |some m =>
     have hm := ho m rfl
     simp -dsimp -implicitDefEqProofs only [go_sem, ↓reduceIte, Tryz.f28, s3, aG, hlt, ei, cC.aN]
     intro m9 ⟨h9m, z9⟩
     have wQ : ¬ m9 = m := h9m
     have aKY : ¬ m = m9 := Ne.symm wQ
     have yY : (m9 = m) = False := eq_false wQ
     have yZ : (m = m9) = False := eq_false aKY
     simp -dsimp -implicitDefEqProofs only [go_sem, ↓reduceIte, Tryz.f28, yZ, yY, aC]
     refine ⟨fun h6 => ?_, fun h6 => ?_⟩
     ·have hy := hy6 h6
      refine ⟨by decide, by decide, by decide, Nat.le_refl _, by omega, by omega, fun b ⟨hb9, _, hbm, hb7⟩ => ⟨(i + 1, L ++ [S.code[i].fB], some b), ⟨by rw [s3, List.length_append]; rfl, by rw [IntWalk.i64_in _ (by omega)]; rfl⟩, ?_, ⟨by omega, hy, fun q e => by cases e; exact hb7⟩, by simp only; omega⟩⟩
      simp only [aG]
      rw [aE5, List.take_of_length_le (by simp)]
      exact (jJ (by repeat' (first | exact gJ _ _ | refine jK (by simp only [dZ, ↓reduceIte, eq_self, if_true, hb9, z9, hbm, yZ, yY]) ?_ | refine fM (by first | exact .inr (by assumption) | exact .inl (by simp)) ?_)))
     ·exact ⟨(i + 1, L, some m), ⟨rfl, by rw [IntWalk.i64_in _ (by omega)]; rfl⟩, (jJ (by repeat' (first | exact gJ _ _ | refine jK (by simp only [dZ, ↓reduceIte, eq_self, if_true, z9, yZ, yY]) ?_ | refine fM (by first | exact .inr (by assumption) | exact .inl (by simp)) ?_))), ⟨by omega, hn6 h6, ho⟩, by simp only; omega⟩
   ·have hi' : i = S.code.length := by omega
    subst hi'
    rw [List.take_length] at hL
    have hdl := aR5 S.code
    have hLl : L.length ≤ S.code.length + S.guards.length + 1 := by rw [hL, List.length_append, hgl]; omega
    have hrange : ∀ x ∈ L, 0 ≤ x ∧ x < (S.code.length : Int) := fun x hx => by
     rw [hL, tL] at hx
     rcases List.mem_append.1 hx with hx | hx
     ·rcases List.mem_append.1 hx with hx | hx
      ·rw [List.mem_singleton.1 hx, List.getD_eq_getElem?_getD, List.getElem?_eq_getElem (by rw [g3, hO3]; omega)]
       have := g4 _ (List.getElem_mem (h := (by rw [g3, hO3]; omega : 0 < l.length)))
       unfold oV at this
       rw [g8]; exact this
      ·obtain ⟨gg, hgg, rfl⟩ := List.mem_map.1 hx
       rw [g8]; exact g1.gds gg hgg
     ·obtain ⟨cc, hcc, rfl⟩ := List.mem_map.1 hx
      obtain ⟨h1, h2⟩ := List.mem_filter.1 hcc
      obtain ⟨q, hq, rfl⟩ := List.mem_iff_getElem.1 h1
      have h3 := g1.ins q _ (List.getElem?_eq_getElem hq)
      have h4 : S.code[q].sC = 6 := by simpa using h2
      unfold gL at h3
      omega
    have hneed := needed ⟨(dO j k).length, S.code, S.guards, l⟩ L (by simp only; omega) (by omega) hrange g1.ins
    have hends : L = oW ⟨(dO j k).length, S.code, S.guards, l⟩ := hL
    rw [hends] at hneed
    rw [← hends] at hneed
    simp only [pL.aN] at hneed
    have hnl : (sN S.code L).length = S.code.length := aMT _ _
    have tV := hon (.row 1 ((L.map fun n => [I n]).map (List.map .v))) o ho
    simp -dsimp -implicitDefEqProofs only [go_sem, ↓reduceIte, Tryz.f28, tV, Nat.lt_irrefl, Int.lt_irrefl]
    cases o with
    |none =>
     rw [aGL, aK]
     refine aJ.mk (hneed.sub (.cons (.refl _) (.cons (Sub.loose _ _ _) .nil))) ?_
     simp -dsimp -implicitDefEqProofs only [go_sem, ↓reduceIte, Tryz.f28, h7n]
     intro _
     have h9n := h7n
     have aU8 := aGN
     generalize h7 = H9 at *
     have hz9 : ∀ {q : Nat}, H9 q = none → h q = none := fun {q} e => by
      rcases aU8 q with h1 | h1
      ·exact h1
      ·rw [h1, e]
     refine cS (keep := aGM) (ib := aY6) (mk := aY7) mix (by kernel_rfl) (fun i : Nat => [(2, ints point), (3, .ip 5 [[c5 3 aV.c j.bN.aH, I j.b8, I j.aX, c5 1 (fun n => [I n]) j.cX, c5 1 (fun x => [c5 1 (fun n => [I n]) x]) j.bO]] 0 0), (7, .op n 4 0 0), (66, c5 1 (fun b => [.bool b]) (sN S.code L)), (67, I (sN S.code L).length), (68, I i)]) (fun _ => H9) (fun i => i ≤ S.code.length ∧ ∀ r, r < i → ¬ vH ⟨(dO j k).length, S.code, S.guards, l⟩ j.aX j.cX point r) (fun i => S.code.length - i) 0 ⟨by simp [dA, cH], aB.le_refl _, Nat.zero_le _, fun r q => absurd q (Nat.not_lt_zero r)⟩ ?_
     rintro i ⟨hi, hbad⟩
     rcases Nat.lt_or_ge i S.code.length with hlt | hge
     ·have ei : S.code[i]? = some S.code[i] := List.getElem?_eq_getElem hlt
      have en := aPN (b := sN S.code L) (k := i) (by omega)
      have hins := g1.ins i _ ei
      have nx : ¬ vH ⟨(dO j k).length, S.code, S.guards, l⟩ j.aX j.cX point i → ∀ r, r < i + 1 → ¬ vH ⟨(dO j k).length, S.code, S.guards, l⟩ j.aX j.cX point r := fun q r hr => by
       rcases Nat.lt_succ_iff_lt_or_eq.1 hr with hr | rfl
       ·exact hbad r hr
       ·exact q
      have bi : vH ⟨(dO j k).length, S.code, S.guards, l⟩ j.aX j.cX point i ↔ ((sN S.code L).getD i false = true ∧ S.code[i].sC = 1 ∧ S.code[i].bQ < j.aX ∧ ¬ j.cX.getD S.code[i].bQ.toNat 0 = point.getD S.code[i].bQ.toNat 0) := by
       rw [vH]
       simp only
       rw [← hends, en, ei]
       simp
      by_cases hq : S.code[i].sC = 1 ∧ S.code[i].bQ < j.aX
      ·have hnum : 0 ≤ S.code[i].bQ := by unfold gL at hins; omega
       have hpl : (j.cX.length : Int) = j.aX := ok.2.1.1
       have pj : j.cX[S.code[i].bQ.toNat]? = some (j.cX.getD S.code[i].bQ.toNat 0) := eZ (by omega)
       have pp : point[S.code[i].bQ.toNat]? = some (point.getD S.code[i].bQ.toNat 0) := eZ (by omega)
       simp -dsimp -implicitDefEqProofs only [go_sem, ↓reduceIte, Tryz.f28, hnl, hlt, ei, en, h9n, cC.aN, pj, pp]
       intro m9 z9
       refine ⟨fun hb => ⟨fun h1 => ⟨fun hs => ⟨hnum, by omega, hnum, by omega, fun hd => ⟨(decide_eq_false fun z => ?_).symm, aB.bD (hz9 z9) (aB.bD (hz9 z9) aU8)⟩, fun hd => ?_⟩, fun hs => absurd hq.2 hs⟩, fun h1 => absurd hq.1 h1⟩, fun hb => ?_⟩
       ·exact (hu.1 z) ⟨i, bi.2 ⟨hb, h1, hs, hd⟩⟩
       ·exact ⟨i + 1, by rw [IntWalk.i64_in _ (by omega)]; rfl, aB.bD z9 (aB.bD z9 (aB.le_refl _)), ⟨hlt, nx fun z => (bi.1 z).2.2.2 hd⟩, by omega⟩
       ·exact ⟨i + 1, by rw [IntWalk.i64_in _ (by omega)]; rfl, aB.bD z9 (aB.bD z9 (aB.le_refl _)), ⟨hlt, nx fun z => by have := (bi.1 z).1; rw [hb] at this; cases this⟩, by omega⟩
      ·simp -dsimp -implicitDefEqProofs only [go_sem, ↓reduceIte, Tryz.f28, hnl, hlt, ei, en, h9n, cC.aN]
       intro m9 z9
       have hno : ¬ vH ⟨(dO j k).length, S.code, S.guards, l⟩ j.aX j.cX point i := fun z => hq ⟨(bi.1 z).2.1, (bi.1 z).2.2.1⟩
       refine ⟨fun hb => ⟨fun h1 => ⟨fun hs => absurd ⟨h1, hs⟩ hq, fun hs => ?_⟩, fun h1 => ?_⟩, fun hb => ?_⟩
       all_goals exact ⟨i + 1, by rw [IntWalk.i64_in _ (by omega)]; rfl, aB.bD z9 (aB.bD z9 (aB.le_refl _)), ⟨hlt, nx hno⟩, by omega⟩
     ·have hi' : i = S.code.length := by omega
      subst hi'
      simp -dsimp -implicitDefEqProofs only [go_sem, ↓reduceIte, Tryz.f28, hnl, Nat.lt_irrefl, Int.lt_irrefl]
      refine ⟨(decide_eq_true (hu.2 fun ⟨r, hr⟩ => ?_)).symm, aU8⟩
      obtain ⟨_, c, hc, _⟩ := hr
      exact hbad r (List.getElem?_eq_some_iff.1 hc).1 ⟨by assumption, c, hc, by assumption⟩
    |some m =>
     have hm := ho m rfl
     rw [s3, aG]
     refine aJ.bLO (es := L.map fun n => [I n]) hneed (by simp [iC, iK]) (by simp [nQ, aD.fZ, List.take_of_length_le]) ?_
     simp -dsimp -implicitDefEqProofs only [go_sem, ↓reduceIte, Tryz.f28, h7n]
     intro _
     have dnm : ¬ n = m := fun e => by rw [← e, h7n] at hm; cases hm
     have h9n : (bK h7 m .gone) n = some (.row 4 [[.v (I (dO j k).length), .v (c5 4 cC.c S.code), .v (c5 2 eS.c S.guards), .v (ints l)]]) := by rw [aC _ _ _ _ dnm]; exact h7n
     have hmh : h m = none := by
      have := aGN m
      rcases this with e | e
      ·exact e
      ·rw [hm] at e; exact e
     have aU8 : h.le (bK h7 m .gone) := aB.bD hmh aGN
     generalize bK h7 m .gone = H9 at *
     have hz9 : ∀ {q : Nat}, H9 q = none → h q = none := fun {q} e => by
      rcases aU8 q with h1 | h1
      ·exact h1
      ·rw [h1, e]
     refine cS (keep := aGM) (ib := aY6) (mk := aY7) mix (by kernel_rfl) (fun i : Nat => [(2, ints point), (3, .ip 5 [[c5 3 aV.c j.bN.aH, I j.b8, I j.aX, c5 1 (fun n => [I n]) j.cX, c5 1 (fun x => [c5 1 (fun n => [I n]) x]) j.bO]] 0 0), (7, .op n 4 0 0), (66, c5 1 (fun b => [.bool b]) (sN S.code L)), (67, I (sN S.code L).length), (68, I i)]) (fun _ => H9) (fun i => i ≤ S.code.length ∧ ∀ r, r < i → ¬ vH ⟨(dO j k).length, S.code, S.guards, l⟩ j.aX j.cX point r) (fun i => S.code.length - i) 0 ⟨by simp [dA, cH], aB.le_refl _, Nat.zero_le _, fun r q => absurd q (Nat.not_lt_zero r)⟩ ?_
     rintro i ⟨hi, hbad⟩
     rcases Nat.lt_or_ge i S.code.length with hlt | hge
     ·have ei : S.code[i]? = some S.code[i] := List.getElem?_eq_getElem hlt
      have en := aPN (b := sN S.code L) (k := i) (by omega)
      have hins := g1.ins i _ ei
      have nx : ¬ vH ⟨(dO j k).length, S.code, S.guards, l⟩ j.aX j.cX point i → ∀ r, r < i + 1 → ¬ vH ⟨(dO j k).length, S.code, S.guards, l⟩ j.aX j.cX point r := fun q r hr => by
       rcases Nat.lt_succ_iff_lt_or_eq.1 hr with hr | rfl
       ·exact hbad r hr
       ·exact q
      have bi : vH ⟨(dO j k).length, S.code, S.guards, l⟩ j.aX j.cX point i ↔ ((sN S.code L).getD i false = true ∧ S.code[i].sC = 1 ∧ S.code[i].bQ < j.aX ∧ ¬ j.cX.getD S.code[i].bQ.toNat 0 = point.getD S.code[i].bQ.toNat 0) := by
       rw [vH]
       simp only
       rw [← hends, en, ei]
       simp
      by_cases hq : S.code[i].sC = 1 ∧ S.code[i].bQ < j.aX
      ·have hnum : 0 ≤ S.code[i].bQ := by unfold gL at hins; omega
       have hpl : (j.cX.length : Int) = j.aX := ok.2.1.1
       have pj : j.cX[S.code[i].bQ.toNat]? = some (j.cX.getD S.code[i].bQ.toNat 0) := eZ (by omega)
       have pp : point[S.code[i].bQ.toNat]? = some (point.getD S.code[i].bQ.toNat 0) := eZ (by omega)
       simp -dsimp -implicitDefEqProofs only [go_sem, ↓reduceIte, Tryz.f28, hnl, hlt, ei, en, h9n, cC.aN, pj, pp]
       intro m9 z9
       refine ⟨fun hb => ⟨fun h1 => ⟨fun hs => ⟨hnum, by omega, hnum, by omega, fun hd => ⟨(decide_eq_false fun z => ?_).symm, aB.bD (hz9 z9) (aB.bD (hz9 z9) aU8)⟩, fun hd => ?_⟩, fun hs => absurd hq.2 hs⟩, fun h1 => absurd hq.1 h1⟩, fun hb => ?_⟩
       ·exact (hu.1 z) ⟨i, bi.2 ⟨hb, h1, hs, hd⟩⟩
       ·exact ⟨i + 1, by rw [IntWalk.i64_in _ (by omega)]; rfl, aB.bD z9 (aB.bD z9 (aB.le_refl _)), ⟨hlt, nx fun z => (bi.1 z).2.2.2 hd⟩, by omega⟩
       ·exact ⟨i + 1, by rw [IntWalk.i64_in _ (by omega)]; rfl, aB.bD z9 (aB.bD z9 (aB.le_refl _)), ⟨hlt, nx fun z => by have := (bi.1 z).1; rw [hb] at this; cases this⟩, by omega⟩
      ·simp -dsimp -implicitDefEqProofs only [go_sem, ↓reduceIte, Tryz.f28, hnl, hlt, ei, en, h9n, cC.aN]
       intro m9 z9
       have hno : ¬ vH ⟨(dO j k).length, S.code, S.guards, l⟩ j.aX j.cX point i := fun z => hq ⟨(bi.1 z).2.1, (bi.1 z).2.2.1⟩
       refine ⟨fun hb => ⟨fun h1 => ⟨fun hs => absurd ⟨h1, hs⟩ hq, fun hs => ?_⟩, fun h1 => ?_⟩, fun hb => ?_⟩
       all_goals exact ⟨i + 1, by rw [IntWalk.i64_in _ (by omega)]; rfl, aB.bD z9 (aB.bD z9 (aB.le_refl _)), ⟨hlt, nx hno⟩, by omega⟩
     ·have hi' : i = S.code.length := by omega
      subst hi'
      simp -dsimp -implicitDefEqProofs only [go_sem, ↓reduceIte, Tryz.f28, hnl, Nat.lt_irrefl, Int.lt_irrefl]
      refine ⟨(decide_eq_true (hu.2 fun ⟨r, hr⟩ => ?_)).symm, aU8⟩
      obtain ⟨_, c, hc, _⟩ := hr
      exact hbad r (List.getElem?_eq_some_iff.1 hc).1 ⟨by assumption, c, hc, by assumption⟩
open Go.Proofs
set_option linter.unusedVariables false
set_option linter.unusedSimpArgs false
set_option maxRecDepth 100000
open Go.Proofs
set_option linter.unusedVariables false
set_option linter.unusedSimpArgs false
def aMW (X : Out (List (List Int))) : List Int × Int × Int := match X with
 | .ok (vs, t) => (vs.map (·.getD 0 0), t, 0)
 | .error c => ([], 0, c)
theorem aR6 {X : Out (List (List Int))} {l : List (List Int)} {t : Nat} {c : Int} (h : lN X l t c) : aMW X = if c = 0 then (l.map (·.getD 0 0), (t : Int), 0) else ([], 0, c) := by
 cases X with
 |ok p =>
  obtain ⟨w, u⟩ := p
  obtain ⟨rfl, rfl, rfl⟩ := h
  rfl
 |error d =>
  obtain ⟨rfl, h⟩ := h
  rw [if_neg h]; rfl
@[go_sem] def bE9 : List Nat := [0, 1, 4]
@[go_sem] def bSK : List Nat := []
@[go_sem] def bSL : Marks := fun _ => ([], .nil, [])
theorem a7L (a b : List Int) (ha : a.length ≤ 1000) (hb : b.length ≤ 1000) : e8 Tryz.prog 80 [ints a, ints b] (ints (a ++ b)) := by
 refine tB 9 bE9 bSK bSL mix Tryz.func80 rfl (by kernel_rfl) (by simp) fun h => ?_
 simp -dsimp -implicitDefEqProofs only [go_sem, ↓reduceIte, Tryz.f80]
 refine aJ.wn0 (kV a (by omega)) ?_
 rintro r l g ⟨y, oy, rfl, rfl⟩ wn
 rcases oy.aEB with ⟨rfl, ha0⟩ | ⟨n, rfl⟩
 ·subst ha0
  simp -dsimp -implicitDefEqProofs only [go_sem, ↓reduceIte, Tryz.f80, OV.pZ]
  refine ⟨Nat.zero_lt_one, fun e => ?_, fun _ => ⟨by omega, by omega, fun n hn => (kQ b hn (aB.le_refl _) rfl).trans (eA wn.le)⟩⟩
  have : b = [] := by simpa using e
  subst this
  exact Shift.of (Sub.loose _ _ _) wn.le
 ·rw [OV.pT]
  have gn : g n = some (.row 1 ((a.map fun n => [I n]).map (List.map .v))) := by
   rw [OV.eV] at wn
   rw [← rD]
   exact wn.fI (n, _) List.mem_cons_self
  simp -dsimp -implicitDefEqProofs only [go_sem, ↓reduceIte, Tryz.f80, gn]
  refine ⟨Nat.zero_lt_one, Nat.le_refl _, by omega, by omega, fun m hm => ?_⟩
  rw [List.take_of_length_le (by simp), ← List.map_append, ← List.map_append]
  exact kQ (a ++ b) (aB.le_none wn.le hm) (aB.fT (aB.bD (wn.fresh n (by rw [OV.eV]; simp [bR])) wn.le)) (by rw [List.length_append])
@[go_sem] def aPQ : List Nat := [0, 1, 2, 6, 7, 8, 9, 10, 11, 12, 13, 14, 22, 46, 56]
@[go_sem] def a7M : List Nat := [18, 30, 31, 47, 52, 66]
@[go_sem] def a7N : Marks := fun id => match id with | 9 => ([4], (.op 0 (.op 1 (.op 2 (.op 3 (.op 4 (.op 5 (.op 6 (.op 7 .nil)))))))), []) | 15 => ([4], (.op 0 (.op 1 (.op 2 (.op 3 (.op 4 (.op 5 (.op 6 (.op 7 .nil)))))))), []) | _ => ([], .nil, [])
theorem a7O {p : aI} (hp : p.ok) (f : Int) (hf : 0 ≤ f ∧ f < p.aH.length) (args : List Int) (na : pB args) (hal : args.length ≤ 12) (hl : ∀ F, p.aH[f.toNat]? = some F → (args.length : Int) = F.bE) :
  e8 Tryz.prog 81 [.ip 1 [p.c] 0 0, I f, ints args] (.lR [ints (aMW (evF p 1 f (args.map fun n => [n]))).1, I (aMW (evF p 1 f (args.map fun n => [n]))).2.1, I (aMW (evF p 1 f (args.map fun n => [n]))).2.2]) := by
 obtain ⟨F, ef, hF1, hF2, hF3, hF4⟩ := aBC hp hf
 have hlF := hl F ef
 rw [aI.aN]
 refine tB 73 aPQ a7M a7N mix Tryz.func81 rfl (by kernel_rfl) (by simp) fun h => ?_
 simp -dsimp -implicitDefEqProofs only [go_sem, ↓reduceIte, Tryz.f81]
 intro nb zb
 refine ⟨Nat.zero_lt_one, ?_⟩
 have hbd : bM.row 4 [[Cell.v (.ip 1 [[c5 3 aV.c p.aH]] 0 0), Cell.v (I 1), Cell.v (I 0), Cell.v (I 0)]] = eQ p 1 0 0 := rfl
 rw [hbd]
 have hB0 : (bK h nb (eQ p 1 0 0)) nb = some (eQ p 1 0 0) := aU _ _ _
 have hBl : h.le (bK h nb (eQ p 1 0 0)) := aB.bD zb (aB.le_refl _)
 generalize hgB : bK h nb (eQ p 1 0 0) = hB at hB0 hBl ⊢
 refine aRJ (keep := aPQ) (ib := a7M) (mk := a7N) mix (by kernel_rfl) (fun x : Nat × Option Nat => [(0, .ip 1 [[c5 3 aV.c p.aH]] 0 0), (1, I f), (2, ints args), (9, .op nb 4 0 0), (10, nO 1 (args.take x.1).length x.2), (11, I x.1)]) (fun x => dD hB (.row 1 ((((args.take x.1).map fun n => [n]).map fun s => [ints s]).map (List.map .v))) x.2) (fun x => x.1 ≤ args.length ∧ lQ hB (args.take x.1) x.2) (fun x => args.length - x.1) (0, none) ⟨by simp [dA, cH, nO], by simp only [aK]; exact aB.jA (aB.le_refl _), Nat.zero_le _, by simp [lQ]⟩ ?_
 rintro ⟨k, o⟩ ⟨hk, hos⟩
 simp only at hk hos ⊢
 rcases Nat.lt_or_ge k args.length with hlt | hge
 ·have ea : args[k]? = some args[k] := List.getElem?_eq_getElem hlt
  have hy : args.take (k + 1) = args.take k ++ [args[k]] := List.take_succ_eq_append_getElem hlt
  have hlk : (args.take k).length = k := by rw [List.length_take]; omega
  cases o with
  |none =>
   rw [dB] at hos
   rw [hos] at hy ⊢
   simp -dsimp -implicitDefEqProofs only [go_sem, ↓reduceIte, Tryz.f81, dN, aK, hlt, ea]
   intro _
   refine ⟨Nat.zero_lt_one, Nat.zero_lt_one, Nat.zero_lt_one, Nat.zero_lt_one, Nat.zero_lt_one, fun b hb => ⟨(k + 1, some b), ?_⟩⟩
   simp only [hy]
   refine ⟨⟨rfl, by rw [IntWalk.i64_in _ (by omega)]; rfl⟩, aXL (A := []) (x := .sl 1 [[I args[k]]] true) (y := ints [args[k]]) (aU _ _ _) (Sub.loose _ _ _) (by rw [aF]; exact aB.le_refl _), ⟨by omega, hb⟩, by omega⟩
  |some n =>
   rw [cQ] at hos
   simp -dsimp -implicitDefEqProofs only [go_sem, ↓reduceIte, Tryz.f81, cI, aG, hlt, ea]
   intro _
   refine ⟨Nat.zero_lt_one, Nat.zero_lt_one, Nat.zero_lt_one, Nat.zero_lt_one, Nat.zero_lt_one, Nat.le_refl _, by omega, by omega, fun b hb => ⟨(k + 1, some b), ?_⟩⟩
   simp only [hy, aG, cI, cQ]
   refine ⟨⟨by rw [List.length_append]; rfl, by rw [IntWalk.i64_in _ (by omega)]; rfl⟩, aXL (x := .sl 1 [[I args[k]]] true) (y := ints [args[k]]) (aU _ _ _) (Sub.loose _ _ _) ?_, ⟨by omega, hb.2⟩, by omega⟩
   have hl2 : (args.take k).length = ((args.take k).map fun n => [n]).length := by rw [List.length_map]
   rw [aF, List.map_append, show ((args.take k).map fun n => [n]) ++ [args[k]].map (fun n => [n]) = ((args.take k).map fun n => [n]) ++ [[args[k]]] from rfl, ← jN ints, hl2]
   exact qA hos
 have hk' : k = args.length := by omega
 subst hk'
 rw [List.take_length] at hos ⊢
 have hserA : ∀ s ∈ args.map (fun n => [n]), fK 1 s := fun s hs => by
  obtain ⟨n, hn, rfl⟩ := List.mem_map.1 hs
  refine ⟨rfl, fun x hx => ?_⟩
  rw [List.mem_singleton.1 hx]
  exact na n hn
 have hlA : ((args.map fun n => [n]).length : Int) = F.bE := by rw [List.length_map]; exact hlF
 have hnbB : ∀ {m : Nat}, hB m = none → ¬ nb = m := fun hm e => by rw [← e, hB0] at hm; cases hm
 cases o with
 |none =>
  rw [dB] at hos
  subst hos
  simp -dsimp -implicitDefEqProofs only [go_sem, ↓reduceIte, Tryz.f81, dN, aK, Nat.lt_irrefl, Int.lt_irrefl, ef]
  refine ⟨hf.1, by omega, ?_⟩
  have ho := aO4 (run hp (by decide : 1 ≤ 1 ∧ 1 ≤ 1048576) 3001) hB nb 0 0 F [] f hB0 (by omega) (by omega) (by omega) (by rw [List.length_map] at hlA; rw [show (([] : List (List Int)).length : Int) = F.bE from hlA]; exact hF4) hf.1 (by omega) (by simp) (by simp)
  refine aJ.iF (fO.sub (.cons (.refl _) (.cons (Sub.ip (by rw [List.getElem?_map, ef]; rfl) (by simp [aV.aN])) (.cons (Sub.loose _ _ _) .nil))) ho) ?_
  rintro r h' ⟨vs, t, c, rfl, rfl, hvl, hvs, a1, a2, a3⟩
  have hCl : h.le (bK hB nb (eQ p 1 t c)) := aB.bD zb hBl
  have hCn : (bK hB nb (eQ p 1 t c)) nb = some (.row 4 [[.v (.ip 1 [p.c] 0 0), .v (I 1), .v (I t), .v (I c)]]) := aU _ _ _
  generalize bK hB nb (eQ p 1 t c) = hC at hCn hCl ⊢
  rw [fD, ← hF3] at a3
  simp -dsimp -implicitDefEqProofs only [go_sem, ↓reduceIte, Tryz.f81, hCn]
  have hev := aR6 (show lN (evF p 1 f _) vs t c from a3)
  refine ⟨fun hc => ⟨Nat.zero_lt_one, ?_⟩, fun hc => ⟨Nat.zero_lt_one, ?_⟩⟩
  ·try simp only [List.map_nil]
   rw [hev, if_neg hc]
   exact Shift.of (Sub.lR (.cons (Sub.loose _ _ _) (.cons (.refl _) (.cons (.refl _) .nil)))) hCl
  subst hc
  rw [if_pos rfl] at hev
  have hcv : (vs.map fun s => s.getD 0 0).length = vs.length := List.length_map _
  refine cS (keep := aPQ) (ib := a7M) (mk := a7N) mix (by kernel_rfl) (fun x : Nat × Option Nat => [(9, .op nb 4 0 0), (12, mR vs), (13, nO 1 ((vs.map fun s => s.getD 0 0).take x.1).length x.2), (14, I x.1)]) (fun x => dD hC (.row 1 ((((vs.map fun s => s.getD 0 0).take x.1).map fun n => [I n]).map (List.map .v))) x.2) (fun x => x.1 ≤ vs.length ∧ lQ hC ((vs.map fun s => s.getD 0 0).take x.1) x.2) (fun x => vs.length - x.1) (0, none) ⟨by simp [dA, cH, nO], by simp only [aK]; exact aB.le_refl _, Nat.zero_le _, by simp [lQ]⟩ ?_
  rintro ⟨k, o⟩ ⟨hk, hos⟩
  simp only at hk hos ⊢
  rcases Nat.lt_or_ge k vs.length with hlt | hge
  ·have ea : vs[k]? = some vs[k] := List.getElem?_eq_getElem hlt
   have h0 := hvs _ (List.getElem_mem hlt)
   have e0 : (vs[k])[Int.toNat 0]? = some (vs[k].getD 0 0) := eZ (by rw [h0.1]; decide)
   have h0l := h0.1
   have hy : (vs.map fun s => s.getD 0 0).take (k + 1) = (vs.map fun s => s.getD 0 0).take k ++ [(vs.map fun s => s.getD 0 0)[k]'(by omega)] := List.take_succ_eq_append_getElem (by omega)
   have hlk : ((vs.map fun s => s.getD 0 0).take k).length = k := by rw [List.length_take]; omega
   rw [List.getElem_map] at hy
   cases o with
   |none =>
    rw [dB] at hos
    rw [hos] at hy ⊢
    simp -dsimp -implicitDefEqProofs only [go_sem, ↓reduceIte, Tryz.f81, dN, aK, hlt, ea, e0]
    repeat' (with_reducible first | intro _ | refine And.intro ?_ ?_)
    all_goals try (first | omega | decide)
    rename_i b hb
    refine ⟨(k + 1, some b), ?_⟩
    simp only [hy]
    refine ⟨⟨rfl, ?_⟩, aB.le_refl _, ⟨by omega, hb⟩, by omega⟩
    rw [IntWalk.i64_in _ (by omega)]; rfl
   |some n =>
    rw [cQ] at hos
    simp -dsimp -implicitDefEqProofs only [go_sem, ↓reduceIte, Tryz.f81, cI, aG, hlt, ea, e0]
    repeat' (with_reducible first | intro _ | refine And.intro ?_ ?_)
    all_goals try (first | omega | decide | exact Nat.le_refl _)
    rename_i b hb
    refine ⟨(k + 1, some b), ?_⟩
    simp only [hy, aG, cI, cQ]
    refine ⟨⟨by rw [List.length_append]; rfl, ?_⟩, ?_, ⟨by omega, hb.2⟩, by omega⟩
    ·rw [IntWalk.i64_in _ (by omega)]; rfl
    ·rw [← jN]; exact qA hos
  ·have hk' : k = vs.length := by omega
   subst hk'
   rw [List.take_of_length_le (by omega)] at hos ⊢
   cases o with
   |none =>
    rw [dB] at hos
    simp -dsimp -implicitDefEqProofs only [go_sem, ↓reduceIte, Tryz.f81, dN, aK, Nat.lt_irrefl, Int.lt_irrefl, hCn]
    intro _
    try simp only [List.map_nil]
    rw [hev, hos]
    exact Shift.of (Sub.lR (.cons (Sub.loose _ _ _) (.cons (.refl _) (.cons (.refl _) .nil)))) hCl
   |some n =>
    rw [cQ] at hos
    have vD : ¬ n = nb := fun e => by rw [e, hCn] at hos; cases hos
    have aDI : ¬ nb = n := Ne.symm vD
    have vE : (n = nb) = False := eq_false vD
    have vF : (nb = n) = False := eq_false aDI
    simp -dsimp -implicitDefEqProofs only [go_sem, ↓reduceIte, Tryz.f81, cI, aG, Nat.lt_irrefl, Int.lt_irrefl, aC, vE, vF, hCn]
    intro _
    try simp only [List.map_nil]
    rw [hev]
    refine Shift.trans (lP ((vs.map fun s => s.getD 0 0).map fun n => [I n]) hos (aB.le_refl _) (by simp [iK, iC]) ?_) (eA hCl)
    simp [aD.fZ, nQ, List.take_of_length_le]
 |some n =>
  rw [cQ] at hos
  simp -dsimp -implicitDefEqProofs only [go_sem, ↓reduceIte, Tryz.f81, cI, aG, Nat.lt_irrefl, Int.lt_irrefl, ef]
  intro _
  refine ⟨hf.1, by omega, ?_⟩
  have hnn := hnbB hos
  refine aJ.aHH rfl rfl hnn (by rw [List.length_map, List.length_map]) hos ?_
  have ho := aO4 (run hp (by decide : 1 ≤ 1 ∧ 1 ≤ 1048576) 3001) (bK hB n .gone) nb 0 0 F (args.map fun n => [n]) f (by rw [aC _ _ _ _ hnn]; exact hB0) (by omega) (by omega) (by omega) (by rw [hlA]; exact hF4) hf.1 (by omega) hserA (by rw [List.length_map]; omega)
  refine fO.mono (fO.sub (.cons (.refl _) (.cons (Sub.ip (by rw [List.getElem?_map, ef]; rfl) (by simp [aV.aN])) (.cons (.refl _) .nil))) ho) ?_
  rintro r h' ⟨vs, t, c, rfl, rfl, hvl, hvs, a1, a2, a3⟩
  have hhn : h n = none := by rw [← hgB, aC _ _ _ _ (Ne.symm hnn)] at hos; exact hos
  have hCl : h.le (bK (bK hB n .gone) nb (eQ p 1 t c)) := aB.bD zb (aB.bD hhn hBl)
  have hCn : (bK (bK hB n .gone) nb (eQ p 1 t c)) nb = some (.row 4 [[.v (.ip 1 [p.c] 0 0), .v (I 1), .v (I t), .v (I c)]]) := aU _ _ _
  generalize bK (bK hB n .gone) nb (eQ p 1 t c) = hC at hCn hCl ⊢
  rw [fD, ← hF3] at a3
  simp -dsimp -implicitDefEqProofs only [go_sem, ↓reduceIte, Tryz.f81, hCn]
  have hev := aR6 (show lN (evF p 1 f _) vs t c from a3)
  refine ⟨fun hc => ⟨Nat.zero_lt_one, ?_⟩, fun hc => ⟨Nat.zero_lt_one, ?_⟩⟩
  ·try simp only [List.map_nil]
   rw [hev, if_neg hc]
   exact Shift.of (Sub.lR (.cons (Sub.loose _ _ _) (.cons (.refl _) (.cons (.refl _) .nil)))) hCl
  subst hc
  rw [if_pos rfl] at hev
  have hcv : (vs.map fun s => s.getD 0 0).length = vs.length := List.length_map _
  refine cS (keep := aPQ) (ib := a7M) (mk := a7N) mix (by kernel_rfl) (fun x : Nat × Option Nat => [(9, .op nb 4 0 0), (12, mR vs), (13, nO 1 ((vs.map fun s => s.getD 0 0).take x.1).length x.2), (14, I x.1)]) (fun x => dD hC (.row 1 ((((vs.map fun s => s.getD 0 0).take x.1).map fun n => [I n]).map (List.map .v))) x.2) (fun x => x.1 ≤ vs.length ∧ lQ hC ((vs.map fun s => s.getD 0 0).take x.1) x.2) (fun x => vs.length - x.1) (0, none) ⟨by simp [dA, cH, nO], by simp only [aK]; exact aB.le_refl _, Nat.zero_le _, by simp [lQ]⟩ ?_
  rintro ⟨k, o⟩ ⟨hk, hos⟩
  simp only at hk hos ⊢
  rcases Nat.lt_or_ge k vs.length with hlt | hge
  ·have ea : vs[k]? = some vs[k] := List.getElem?_eq_getElem hlt
   have h0 := hvs _ (List.getElem_mem hlt)
   have e0 : (vs[k])[Int.toNat 0]? = some (vs[k].getD 0 0) := eZ (by rw [h0.1]; decide)
   have h0l := h0.1
   have hy : (vs.map fun s => s.getD 0 0).take (k + 1) = (vs.map fun s => s.getD 0 0).take k ++ [(vs.map fun s => s.getD 0 0)[k]'(by omega)] := List.take_succ_eq_append_getElem (by omega)
   have hlk : ((vs.map fun s => s.getD 0 0).take k).length = k := by rw [List.length_take]; omega
   rw [List.getElem_map] at hy
   cases o with
   |none =>
    rw [dB] at hos
    rw [hos] at hy ⊢
    simp -dsimp -implicitDefEqProofs only [go_sem, ↓reduceIte, Tryz.f81, dN, aK, hlt, ea, e0]
    repeat' (with_reducible first | intro _ | refine And.intro ?_ ?_)
    all_goals try (first | omega | decide)
    rename_i b hb
    refine ⟨(k + 1, some b), ?_⟩
    simp only [hy]
    refine ⟨⟨rfl, ?_⟩, aB.le_refl _, ⟨by omega, hb⟩, by omega⟩
    rw [IntWalk.i64_in _ (by omega)]; rfl
   |some n =>
    rw [cQ] at hos
    simp -dsimp -implicitDefEqProofs only [go_sem, ↓reduceIte, Tryz.f81, cI, aG, hlt, ea, e0]
    repeat' (with_reducible first | intro _ | refine And.intro ?_ ?_)
    all_goals try (first | omega | decide | exact Nat.le_refl _)
    rename_i b hb
    refine ⟨(k + 1, some b), ?_⟩
    simp only [hy, aG, cI, cQ]
    refine ⟨⟨by rw [List.length_append]; rfl, ?_⟩, ?_, ⟨by omega, hb.2⟩, by omega⟩
    ·rw [IntWalk.i64_in _ (by omega)]; rfl
    ·rw [← jN]; exact qA hos
  ·have hk' : k = vs.length := by omega
   subst hk'
   rw [List.take_of_length_le (by omega)] at hos ⊢
   cases o with
   |none =>
    rw [dB] at hos
    simp -dsimp -implicitDefEqProofs only [go_sem, ↓reduceIte, Tryz.f81, dN, aK, Nat.lt_irrefl, Int.lt_irrefl, hCn]
    intro _
    try simp only [List.map_nil]
    rw [hev, hos]
    exact Shift.of (Sub.lR (.cons (Sub.loose _ _ _) (.cons (.refl _) (.cons (.refl _) .nil)))) hCl
   |some n =>
    rw [cQ] at hos
    have vD : ¬ n = nb := fun e => by rw [e, hCn] at hos; cases hos
    have aDI : ¬ nb = n := Ne.symm vD
    have vE : (n = nb) = False := eq_false vD
    have vF : (nb = n) = False := eq_false aDI
    simp -dsimp -implicitDefEqProofs only [go_sem, ↓reduceIte, Tryz.f81, cI, aG, Nat.lt_irrefl, Int.lt_irrefl, aC, vE, vF, hCn]
    intro _
    try simp only [List.map_nil]
    rw [hev]
    refine Shift.trans (lP ((vs.map fun s => s.getD 0 0).map fun n => [I n]) hos (aB.le_refl _) (by simp [iK, iC]) ?_) (eA hCl)
    simp [aD.fZ, nQ, List.take_of_length_le]
set_option maxRecDepth 100000
open Go.Proofs
set_option linter.unusedVariables false
set_option linter.unusedSimpArgs false
def cR (p : aI) (inp : Int) (S : dV) (om og ov : Option Nat) : bM :=
 .row 6 [[.v (.ip 1 [[c5 3 aV.c p.aH]] 0 0), .v (I inp), .v (gV 4 S.code.length om), .v (gV 2 S.guards.length og), .v .bC, .v (gV 1 S.fS.length ov)]]
theorem aR7 (p : aI) (inp : Int) : ∀ S om og ov, ∃ sz cs, cR p inp S om og ov = .row sz cs ∧ ¬ sz = 1 ∧ ¬ sz = 2 ∧ ¬ sz = 4 := fun S om og ov => ⟨6, _, rfl, by decide, by decide, by decide⟩
@[go_sem] def aXP : List Nat := [0, 1, 2, 4, 6]
@[go_sem] def bAR : List Nat := [4, 14, 25]
@[go_sem] def bAS : Marks := fun id => match id with | 1 => ([5, 8, 12], (.op 0 (.op 1 (.op 2 (.op 3 (.op 4 (.op 6 (.op 7 (.op 5 (.op 8 (.op 9 (.op 10 (.op 11 (.op 12 .nil))))))))))))), []) | _ => ([], .nil, [])
theorem aA5 {h0 h : aB} {nb : Nat} {p : aI} {inp : Int} {S : dV} (H : dT (cR p inp) h0 nb S h) (x : cC) (v : Int) (hl : S.code.length = S.fS.length) (hcap : S.fS.length ≤ 1048576) :
  fO Tryz.prog 102 [.op nb 6 0 0, .agg x.c, I v] h fun r h' => r = I S.fS.length ∧ dT (cR p inp) h0 nb (S.put x v) h' := by
 obtain ⟨om, og, ov, H⟩ := H
 have hb := H.box
 have hc := H.code
 have hv := H.fS
 unfold cR at hb
 rw [cC.aN]
 cases om with
 |none =>
  have oB : S.code = [] := gY.1 hc
  cases ov with
  |some v =>
   have xK : S.fS = [] := List.eq_nil_of_length_eq_zero (by rw [← hl, oB]; rfl)
   exact absurd (by rw [xK]; rfl) hv.1
  |none =>
   have xK : S.fS = [] := gY.1 hv
   refine kO 36 aXP bAR bAS mix Tryz.func102 rfl (by kernel_rfl) (by simp) ?_
   simp -dsimp -implicitDefEqProofs only [go_sem, ↓reduceIte, Tryz.f102, hb, aW]
   refine ⟨by decide, by decide, by decide, fun m hm => ?_⟩
   have eJ : ¬ m = nb := fun e => by rw [e, hb] at hm; cases hm
   have dR : ¬ nb = m := Ne.symm eJ
   have eG : (m = nb) = False := eq_false eJ
   have eH : (nb = m) = False := eq_false dR
   simp -dsimp -implicitDefEqProofs only [go_sem, ↓reduceIte, Tryz.f102, hb, aW, eG, eH, aC]
   refine ⟨by decide, by decide, by decide, fun w ⟨hwb, hwm, hw⟩ => ?_⟩
   have pP : ¬ w = nb := hwb
   have yW : ¬ nb = w := Ne.symm pP
   have mZ : (w = nb) = False := eq_false pP
   have m2 : (nb = w) = False := eq_false yW
   have xE : ¬ w = m := hwm
   have aE0 : ¬ m = w := Ne.symm xE
   have wA : (w = m) = False := eq_false xE
   have wB : (m = w) = False := eq_false aE0
   try simp -dsimp -implicitDefEqProofs only [go_sem, ↓reduceIte, Tryz.f102, hb, eG, wB, eH, m2, wA, mZ, aC]
   obtain ⟨g, hg, hR⟩ := H.put x v hm hw xE (F := bK (bK (bK h m (.row 4 [x.c.map .v])) w (.row 1 [[.v (I v)]])) nb (cR p inp (S.put x v) (some m) og (some w))) (aU _ _ _)
    (by rw [aC _ _ _ _ eJ, aC _ _ _ _ aE0, aU, oB]; rfl) (by rw [aC _ _ _ _ pP, aU, xK]; rfl) (fun n h1 h2 h3 _ _ => by rw [aC _ _ _ _ h1, aC _ _ _ _ h3, aC _ _ _ _ h2])
   refine ⟨_, g, eA (aB.le_trans hg ?_), by rw [xK]; rfl, hR⟩
   unfold cR
   simp only [dV.put, oB, xK, aQ, cC.aN, List.nil_append, List.length_singleton, List.map_cons, List.map_nil]
   exact (jJ (by repeat' (first | exact gJ _ _ | refine jK (by simp only [dZ, ↓reduceIte, eq_self, if_true, eG, wB, eH, m2, wA, mZ]) ?_ | refine fM (by first | exact .inr (by assumption) | exact .inl (by simp)) ?_)))
 |some m =>
  cases ov with
  |none =>
   have xK : S.fS = [] := gY.1 hv
   have oB : S.code = [] := List.eq_nil_of_length_eq_zero (by rw [hl, xK]; rfl)
   exact absurd (by rw [oB]; rfl) hc.1
  |some w =>
   have hm := hc.2
   have hw := hv.2
   have eJ : ¬ m = nb := fun e => by rw [e, hb] at hm; cases hm
   have dR : ¬ nb = m := Ne.symm eJ
   have eG : (m = nb) = False := eq_false eJ
   have eH : (nb = m) = False := eq_false dR
   have pP : ¬ w = nb := fun e => by rw [e, hb] at hw; cases hw
   have yW : ¬ nb = w := Ne.symm pP
   have mZ : (w = nb) = False := eq_false pP
   have m2 : (nb = w) = False := eq_false yW
   have xE : ¬ w = m := fun e => by rw [e, hm] at hw; cases hw
   have aE0 : ¬ m = w := Ne.symm xE
   have wA : (w = m) = False := eq_false xE
   have wB : (m = w) = False := eq_false aE0
   refine kO 36 aXP bAR bAS mix Tryz.func102 rfl (by kernel_rfl) (by simp) ?_
   simp -dsimp -implicitDefEqProofs only [go_sem, ↓reduceIte, Tryz.f102, hb, aQ, hm, hw, eG, wB, eH, m2, wA, mZ, aC]
   refine ⟨by decide, by decide, by decide, by rw [eW]; exact Nat.le_refl _, by omega, by omega, fun b kT => ?_⟩
   have dU : ¬ b = nb := fun e => by rw [e, hb] at kT; cases kT
   have iI : ¬ nb = b := Ne.symm dU
   have iG : (b = nb) = False := eq_false dU
   have iH : (nb = b) = False := eq_false iI
   have lF : ¬ b = m := fun e => by rw [e, hm] at kT; cases kT
   have v9 : ¬ m = b := Ne.symm lF
   have sJ : (b = m) = False := eq_false lF
   have sK : (m = b) = False := eq_false v9
   have aKS : ¬ b = w := fun e => by rw [e, hw] at kT; cases kT
   have a2N : ¬ w = b := Ne.symm aKS
   have aKT : (b = w) = False := eq_false aKS
   have aKU : (w = b) = False := eq_false a2N
   simp -dsimp -implicitDefEqProofs only [go_sem, ↓reduceIte, Tryz.f102, hb, hw, eG, wB, sK, eH, m2, iH, wA, mZ, aKU, sJ, iG, aKT, aC]
   rw [aQ]
   simp -dsimp -implicitDefEqProofs only [go_sem, ↓reduceIte, Tryz.f102, hb, hw, eG, wB, sK, eH, m2, iH, wA, mZ, aKU, sJ, iG, aKT, aC]
   refine ⟨by decide, by decide, by decide, by rw [eW]; exact Nat.le_refl _, by omega, by omega, fun b2 ⟨bSM, bEX, bEY, kU⟩ => ?_⟩
   have yX : ¬ b2 = nb := bSM
   have aPD : ¬ nb = b2 := Ne.symm yX
   have aH7 : (b2 = nb) = False := eq_false yX
   have aH8 : (nb = b2) = False := eq_false aPD
   have aKV : ¬ b2 = m := bEY
   have aUW : ¬ m = b2 := Ne.symm aKV
   have aPE : (b2 = m) = False := eq_false aKV
   have aPF : (m = b2) = False := eq_false aUW
   have aKW : ¬ b2 = w := fun e => by rw [e, hw] at kU; cases kU
   have aUX : ¬ w = b2 := Ne.symm aKW
   have aPG : (b2 = w) = False := eq_false aKW
   have aPH : (w = b2) = False := eq_false aUX
   have aDH : ¬ b2 = b := bEX
   have aKX : ¬ b = b2 := Ne.symm aDH
   have aPI : (b2 = b) = False := eq_false aDH
   have aPJ : (b = b2) = False := eq_false aKX
   simp -dsimp -implicitDefEqProofs only [go_sem, ↓reduceIte, Tryz.f102, hb, hw, eG, wB, sK, aPF, eH, m2, iH, aH8, wA, mZ, aKU, aPH, sJ, iG, aKT, aPJ, aPE, aH7, aPG, aPI, aC]
   rw [List.take_of_length_le (by rw [eW]; exact Nat.le_refl _), List.take_of_length_le (by rw [eW]; exact Nat.le_refl _)]
   obtain ⟨g, hg, hR⟩ := H.put x v kT kU aDH (F := bK (bK (bK (bK (bK h m .gone) b (.row 4 (rowsOf cC.c S.code ++ [x.c.map .v]))) w .gone) b2 (.row 1 (rowsOf (fun n => [I n]) S.fS ++ [[.v (I v)]]))) nb (cR p inp (S.put x v) (some b) og (some b2))) (aU _ _ _)
    (by rw [aC _ _ _ _ dU, aC _ _ _ _ aKX, aC _ _ _ _ aKS, aU, mS]) (by rw [aC _ _ _ _ yX, aU, mS]; rfl)
    (fun n h1 h2 h3 h4 h5 => by rw [aC _ _ _ _ h1, aC _ _ _ _ h3, aC _ _ _ _ (fun q => h5 (by rw [q])), aC _ _ _ _ h2, aC _ _ _ _ (fun q => h4 (by rw [q]))])
   refine fun _ => ⟨_, g, eA (aB.le_trans hg ?_), ?_, hR⟩
   ·unfold cR
    simp only [dV.put, aQ, cC.aN, List.length_append, List.length_singleton, List.map_cons, List.map_nil]
    exact (jJ (by repeat' (first | exact gJ _ _ | refine jK (by simp only [dZ, ↓reduceIte, eq_self, if_true, eG, wB, sK, aPF, eH, m2, iH, aH8, wA, mZ, aKU, aPH, sJ, iG, aKT, aPJ, aPE, aH7, aPG, aPI]) ?_ | refine fM (by first | exact .inr (by assumption) | exact .inl (by simp)) ?_)))
   ·rw [IntWalk.i64_in _ (by omega)]
    congr 1
    omega
set_option maxRecDepth 100000
open Go.Proofs
set_option linter.unusedVariables false
set_option linter.unusedSimpArgs false
@[go_sem] def a7P : List Nat := [0, 2]
@[go_sem] def bMJ : List Nat := []
@[go_sem] def bMK : Marks := fun _ => ([], .nil, [])
theorem aPR (a : Int) (ha : nZ a) : e8 Tryz.prog 142 [I a] (I ((0 - a) % 1000003)) := by
 unfold nZ at ha
 refine eI 6 a7P bMJ bMK mix Tryz.func142 rfl (by kernel_rfl) (by simp) fun h => ?_
 simp -dsimp -implicitDefEqProofs only [go_sem, ↓reduceIte, Tryz.f142]
 rw [IntWalk.i64_in _ (by omega)]
 first | refine aJ.mk (dI (0 - a)) ?_ | refine aL.mk (dI (0 - a)) ?_ | refine aJ.dF (dI (0 - a)) ?_ | refine aL.mk (cZ.gC (dI (0 - a))) ?_
 simp -dsimp -implicitDefEqProofs only [go_sem, ↓reduceIte, Tryz.f142]
@[go_sem] def a7Q : List Nat := [0, 2, 3, 4, 6, 8]
@[go_sem] def bML : List Nat := []
@[go_sem] def bMM : Marks := fun _ => ([], .nil, [])
theorem aXQ (k : Int) (hk : k = 3 ∨ k = 4 ∨ k = 5 ∨ k = 6) : e8 Tryz.prog 144 [I k] (I k) := by
 refine eI 10 a7Q bML bMM mix Tryz.func144 rfl (by kernel_rfl) (by simp) fun h => ?_
 simp -dsimp -implicitDefEqProofs only [go_sem, ↓reduceIte, Tryz.f144]
 refine ⟨fun q => by rw [q], fun q => ⟨fun q4 => by rw [q4], fun q4 => ⟨fun q5 => by rw [q5], fun q5 => ?_⟩⟩⟩
 rw [show k = 6 by omega]
@[go_sem] def a7R : List Nat := [0, 1, 2, 6, 7, 8, 13, 18]
@[go_sem] def bMN : List Nat := []
@[go_sem] def bMO : Marks := fun _ => ([], .nil, [])
theorem j2 (k a b v : Int) (ha : nZ a) (hb : nZ b) (hk : k = 3 ∨ k = 4 ∨ k = 5 ∨ k = 6) (hv : opV k a b = some v) : e8 Tryz.prog 145 [I k, I a, I b] (I v) := by
 have hni : nZ (sF b) := num_inv b
 refine eI 27 a7R bMN bMO mix Tryz.func145 rfl (by kernel_rfl) (by simp) fun h => ?_
 simp -dsimp -implicitDefEqProofs only [go_sem, ↓reduceIte, Tryz.f145]
 refine ⟨fun q => ?_, fun q => ⟨fun q4 => ?_, fun q4 => ⟨fun q5 => ?_, fun q5 => ?_⟩⟩⟩
 ·first | refine aJ.mk (hP a b) ?_ | refine aL.mk (hP a b) ?_ | refine aJ.dF (hP a b) ?_ | refine aL.mk (cZ.gC (hP a b)) ?_
  simp -dsimp -implicitDefEqProofs only [go_sem, ↓reduceIte, Tryz.f145]
  unfold opV at hv; rw [if_pos q] at hv; rw [Option.some.inj hv]
 ·first | refine aJ.mk (tI a b ha hb) ?_ | refine aL.mk (tI a b ha hb) ?_ | refine aJ.dF (tI a b ha hb) ?_ | refine aL.mk (cZ.gC (tI a b ha hb)) ?_
  simp -dsimp -implicitDefEqProofs only [go_sem, ↓reduceIte, Tryz.f145]
  unfold opV at hv; rw [if_neg q, if_pos q4] at hv; rw [Option.some.inj hv]
 ·first | refine aJ.mk (cT a b ha hb) ?_ | refine aL.mk (cT a b ha hb) ?_ | refine aJ.dF (cT a b ha hb) ?_ | refine aL.mk (cZ.gC (cT a b ha hb)) ?_
  simp -dsimp -implicitDefEqProofs only [go_sem, ↓reduceIte, Tryz.f145]
  unfold opV at hv; rw [if_neg q, if_neg q4, if_pos q5] at hv; rw [Option.some.inj hv]
 ·first | refine aJ.mk (aAY b) ?_ | refine aL.mk (aAY b) ?_ | refine aJ.dF (aAY b) ?_ | refine aL.mk (cZ.gC (aAY b)) ?_
  simp -dsimp -implicitDefEqProofs only [go_sem, ↓reduceIte, Tryz.f145]
  first | refine aJ.mk (cT a (sF b) ha hni) ?_ | refine aL.mk (cT a (sF b) ha hni) ?_ | refine aJ.dF (cT a (sF b) ha hni) ?_ | refine aL.mk (cZ.gC (cT a (sF b) ha hni)) ?_
  simp -dsimp -implicitDefEqProofs only [go_sem, ↓reduceIte, Tryz.f145]
  unfold opV at hv
  rw [if_neg q, if_neg q4, if_neg q5, if_neg (by omega)] at hv
  by_cases hz : b = 0
  ·rw [if_pos hz] at hv; cases hv
  ·rw [if_neg hz] at hv; rw [Option.some.inj hv]
@[go_sem] def r9 : List Nat := [0, 1, 2, 6, 7, 8, 9, 10, 11, 12, 13, 17, 18, 31, 40, 62, 94, 111, 133]
@[go_sem] def aA6 : List Nat := [89, 130]
@[go_sem] def aA7 : Marks := fun id => match id with | 3 => ([10], (.op 0 (.op 1 (.op 2 (.op 3 (.op 4 (.op 5 (.op 6 (.op 7 (.op 8 (.op 9 (.op 10 (.op 11 .nil)))))))))))), []) | 18 => ([7, 10, 11], (.op 0 (.op 1 (.op 2 (.op 3 (.op 4 (.op 5 (.op 6 (.op 8 (.op 9 (.op 7 (.op 10 (.op 11 (.op 12 .nil))))))))))))), []) | 25 => ([9, 12, 16, 19, 20, 21], (.op 0 (.op 1 (.op 2 (.op 3 (.op 4 (.op 5 (.op 6 (.op 7 (.op 8 (.op 10 (.op 13 (.op 14 (.op 15 (.op 17 (.op 9 (.op 11 (.op 12 (.op 16 (.op 18 (.op 19 (.op 20 (.op 21 (.op 22 .nil))))))))))))))))))))))), []) | _ => ([], .nil, [])
def sA (p : aI) (inp : Int) (n : Nat) : Prop := ∀ (h0 h : aB) (nb st : Nat) (e : aA) (env : List Int) (S : dV) (funcs : Int) (k : Int) (S' : dV) (t : Nat), dT (cR p inp) h0 nb S h → st ≤ 3000 → e.ok p funcs env.length → 0 ≤ funcs → funcs ≤ p.aH.length → Good inp S st → (∀ x ∈ env, oV S x) → env.length ≤ 412 + st → eT p n st e env S = .ok ((k, S'), t) →
 fO Tryz.prog 119 [.op nb 6 0 0, .ip 5 [e.c] 0 0, ints env] h fun r h' => r = I k ∧ dT (cR p inp) h0 nb S' h'
theorem hU {α β : Type} {X : Out α} {F : α → Nat → Out β} {v : β} {t : Nat} (h : X.andThen F = .ok (v, t)) : ∃ w u, X = .ok (w, u) ∧ F w u = .ok (v, t) := by
 cases X with
 |ok q => exact ⟨q.1, q.2, rfl, h⟩
 |error c => cases h
theorem aR8 (ev : Nat → aA → dV → Out (Int × dV)) (b : List aA) : ∀ (a : List aA) (t : Nat) (S : dV), mE ev (a ++ b) t S = (mE ev a t S).andThen fun q t => (mE ev b t q.2).andThen fun r t => .ok ((q.1 ++ r.1, r.2), t)
 | [], t, S => by
  show mE ev b t S = (mE ev b t S).andThen fun r t => .ok (([] ++ r.1, r.2), t)
  cases mE ev b t S with
  |ok q => rfl
  |error c => rfl
 |x :: a, t, S => by
  simp only [List.cons_append, mE, aR8 ev b a, Out.lO, Out.andThen_ok]
theorem mH {ev : Nat → aA → dV → Out (Int × dV)} {l : List aA} {st : Nat} {S : dV} {v : List Int × dV} {t : Nat} (h : mE ev l st S = .ok (v, t)) {k : Nat} (hk : k < l.length) {vs : List Int} {S1 : dV} {t1 : Nat} (h1 : mE ev (l.take k) st S = .ok ((vs, S1), t1)) :
  ∃ j S2 t2, ev t1 l[k] S1 = .ok ((j, S2), t2) ∧ mE ev (l.take (k + 1)) st S = .ok ((vs ++ [j], S2), t2) := by
 have e : l = l.take k ++ (l[k] :: l.drop (k + 1)) := by rw [← List.drop_eq_getElem_cons hk, List.take_append_drop]
 rw [e, aR8, h1] at h
 have h' : (mE ev (l[k] :: l.drop (k + 1)) t1 S1).andThen (fun r t => .ok ((vs ++ r.1, r.2), t)) = .ok (v, t) := h
 obtain ⟨w, u, h2, _⟩ := hU h'
 obtain ⟨r, u2, h3, _⟩ := hU h2
 refine ⟨r.1, r.2, u2, h3, ?_⟩
 rw [List.take_succ_eq_append_getElem hk, aGG, h1]
 show (ev t1 l[k] S1).andThen _ = _
 rw [h3]; rfl
set_option maxRecDepth 100000
open Go.Proofs
set_option linter.unusedVariables false
set_option linter.unusedSimpArgs false
@[go_sem] def aXR : List Nat := [0, 1, 2, 6, 7, 8, 16]
@[go_sem] def bAT : List Nat := [9, 29]
@[go_sem] def bAU : Marks := fun _ => ([], .nil, [])
theorem aR9 {p : aI} (hp : p.ok) {inp : Int} {n : Nat} (hv : sA p inp n) (h0 h : aB) (nb st : Nat) (f : aV) (env : List Int) (S : dV) (funcs : Int) (l : List Int) (S' : dV) (t : Nat) (hb : dT (cR p inp) h0 nb S h) (hst : st ≤ 3000)
  (hl : f.aZ.length ≤ 1048576) (hok : ∀ e ∈ f.aZ, e.ok p funcs env.length) (fH : 0 ≤ funcs) (hf : funcs ≤ p.aH.length) (hg : Good inp S st) (henv : ∀ x ∈ env, oV S x) (hel : env.length ≤ 412 + st) (hr : mE (fun t e S => eT p n t e env S) f.aZ st S = .ok ((l, S'), t)) :
  fO Tryz.prog 103 [.op nb 6 0 0, .ip 3 [f.c] 0 0, ints env] h fun r h' => r = ints l ∧ dT (cR p inp) h0 nb S' h' := by
 rw [aV.aN]
 refine kO 32 aXR bAT bAU mix Tryz.func103 rfl (by kernel_rfl) (by simp) ?_
 simp -dsimp -implicitDefEqProofs only [go_sem, ↓reduceIte, Tryz.f103]
 refine ⟨by decide, ?_⟩
 refine cS (keep := aXR) (ib := bAT) (mk := bAU) mix (by kernel_rfl) (fun x : Nat × List Int × dV × Nat × aB × Option Nat => [(0, .op nb 6 0 0), (1, .ip 3 [f.c] 0 0), (2, ints env), (7, nO 1 x.2.1.length x.2.2.2.2.2), (8, I x.1)]) (fun x => dD x.2.2.2.2.1 (.row 1 ((x.2.1.map fun n => [I n]).map (List.map .v))) x.2.2.2.2.2) (fun x => x.1 ≤ f.aZ.length ∧ x.2.1.length = x.1 ∧ mE (fun t e S => eT p n t e env S) (f.aZ.take x.1) st S = .ok ((x.2.1, x.2.2.1), x.2.2.2.1) ∧ dT (cR p inp) h0 nb x.2.2.1 x.2.2.2.2.1 ∧ lQ x.2.2.2.2.1 x.2.1 x.2.2.2.2.2) (fun x => f.aZ.length - x.1) (0, [], S, st, h, none) ⟨by simp [dA, cH, nO, aV.aN], aB.le_refl _, Nat.zero_le _, rfl, rfl, hb, rfl⟩ ?_
 rintro ⟨k, vs, S1, t1, g, o⟩ ⟨hk, hvl, hs, hR, hos⟩
 simp only at hk hvl hs hR hos ⊢
 rw [aV.aN]
 rcases Nat.lt_or_ge k f.aZ.length with hlt | hge
 ·have ek : f.aZ[k]? = some f.aZ[k] := List.getElem?_eq_getElem hlt
  obtain ⟨j, S2, t2, hj, jX⟩ := mH hr hlt hs
  obtain ⟨b1, b2, b3, b4⟩ := gH hp (l := f.aZ.take k) hg hst henv (fun x hx => hok x (List.mem_of_mem_take hx)) hf _ _ hs
  simp only at b1 b2 b3
  have hsub : cD [.op nb 6 0 0, .ip 5 (f.aZ.map aA.c) k 0, ints env] [.op nb 6 0 0, .ip 5 [f.aZ[k].c] 0 0, ints env] := .cons (.refl _) (.cons (Sub.ip (bS hlt) (by simp)) (.cons (.refl _) .nil))
  cases o with
  |none =>
   rw [dB] at hos
   subst hos
   simp -dsimp -implicitDefEqProofs only [go_sem, ↓reduceIte, Tryz.f103, dN, aK, hlt, ek]
   refine fun _ => aJ.iF (fO.sub hsub (hv h0 g nb t1 f.aZ[k] env S1 funcs j S2 t2 hR b4.2.2.2 (hok _ (List.getElem_mem _)) fH hf b1 (fun x hx => (henv x hx).ext b2) (by have := b4.2.2.1; omega) hj)) ?_
   rintro r h' ⟨rfl, nL⟩
   simp -dsimp -implicitDefEqProofs only [go_sem, ↓reduceIte, Tryz.f103]
   refine ⟨Nat.zero_lt_one, Nat.zero_lt_one, Nat.zero_lt_one, fun b kU => ?_⟩
   refine ⟨(k + 1, [j], S2, t2, h', some b), ⟨rfl, by rw [IntWalk.i64_in _ (by omega)]; rfl⟩, aB.le_refl _, ⟨by omega, by simp only [List.length_nil] at hvl; subst hvl; rfl, jX, nL, kU⟩, by simp only; omega⟩
  |some m =>
   rw [cQ] at hos
   simp -dsimp -implicitDefEqProofs only [go_sem, ↓reduceIte, Tryz.f103, cI, aG, hlt, ek]
   refine fun _ => aJ.iF (fO.sub hsub (hv _ _ nb t1 f.aZ[k] env S1 funcs j S2 t2 (hR.wO hos) b4.2.2.2 (hok _ (List.getElem_mem _)) fH hf b1 (fun x hx => (henv x hx).ext b2) (by have := b4.2.2.1; omega) hj)) ?_
   rintro r h' ⟨rfl, nL⟩
   obtain ⟨g2, rfl, hg2, nL⟩ := nL.base (hR.none hos)
   simp -dsimp -implicitDefEqProofs only [go_sem, ↓reduceIte, Tryz.f103]
   refine ⟨Nat.zero_lt_one, Nat.zero_lt_one, Nat.zero_lt_one, Nat.le_refl _, by omega, by omega, fun b ⟨hbm, kU⟩ => ?_⟩
   have lF : ¬ b = m := hbm
   have v9 : ¬ m = b := Ne.symm lF
   have sJ : (b = m) = False := eq_false lF
   have sK : (m = b) = False := eq_false v9
   refine ⟨(k + 1, vs ++ [j], S2, t2, g2, some b), ⟨by rw [cI, List.length_append]; rfl, by rw [IntWalk.i64_in _ (by omega)]; rfl⟩, ?_, ⟨by omega, by rw [List.length_append, hvl]; rfl, jX, nL, kU⟩, by simp only; omega⟩
   simp only [aG]
   rw [← jN]
   exact qA hg2
 ·have hk' : k = f.aZ.length := by omega
  subst hk'
  rw [List.take_length, hr] at hs
  obtain ⟨rfl, rfl⟩ := Prod.mk.inj (Prod.mk.inj (Except.ok.inj hs)).1
  cases o with
  |none =>
   rw [dB] at hos
   subst hos
   simp -dsimp -implicitDefEqProofs only [go_sem, ↓reduceIte, Tryz.f103, dN, aK, Nat.lt_irrefl, Int.lt_irrefl]
   exact fun _ => ⟨ints [], _, Shift.of (Sub.loose _ _ _) (aB.le_refl _), rfl, hR⟩
  |some m =>
   rw [cQ] at hos
   simp -dsimp -implicitDefEqProofs only [go_sem, ↓reduceIte, Tryz.f103, cI, aG, Nat.lt_irrefl, Int.lt_irrefl]
   exact fun _ => ⟨ints l, g, kQ l hos (aB.le_refl _) rfl, rfl, hR⟩
set_option maxRecDepth 100000
open Go.Proofs
set_option linter.unusedVariables false
set_option linter.unusedSimpArgs false
theorem eM.single {h g : aB} {m : Nat} {o : bM} (w : eM h [(m, o)] g) : h m = none ∧ g = bK h m o := by
 refine ⟨w.fresh m (by simp [bR]), ?_⟩
 funext q
 by_cases e : q = m
 ·subst e; rw [aU]; exact w.fI (q, o) (by simp)
 ·rw [aC _ _ _ _ e]; exact w.upto q (by simpa [bR] using e)
theorem a7S {p : aI} (hp : p.ok) {inp : Int} {n : Nat} (hv : sA p inp n) {h0 h : aB} {nb st : Nat} {e : aA} {env : List Int} {S : dV} {funcs : Int} {k : Int} {S' : dV} {t : Nat} (hR : dT (cR p inp) h0 nb S h) (hst : st < 3000)
  (hok : e.ok p funcs env.length) (fH : 0 ≤ funcs) (hf : funcs ≤ p.aH.length) (hg : Good inp S st) (henv : ∀ x ∈ env, oV S x) (hel : env.length ≤ 412 + st) (hr : eT p (n + 1) st e env S = .ok ((k, S'), t)) (hk : e.a6 = 1) :
  fO Tryz.prog 119 [.op nb 6 0 0, .ip 5 [e.c] 0 0, ints env] h fun r h' => r = I k ∧ dT (cR p inp) h0 nb S' h' := by
 rw [aA.aN]
 have hnode := (aA.eP _ _ _ _).1 hok
 have h3 : ¬ st = 3000 := by omega
 have hcap := hg.cap
 have hgcap := hg.rK
 have l8 := hg.nH (Nat.le_succ st)
 rw [aO8 h3 hk] at hr
 cases hr
 refine kO 183 r9 aA6 aA7 mix Tryz.func119 rfl (by kernel_rfl) (by simp) ?_
 simp -dsimp -implicitDefEqProofs only [go_sem, ↓reduceIte, Tryz.f119, hk]
 refine aJ.iF (aA5 hR ⟨2, 0, 0, e.bQ⟩ e.bQ hg.len (by omega)) ?_
 rintro r h' ⟨rfl, nL⟩
 simp -dsimp -implicitDefEqProofs only [go_sem, ↓reduceIte, Tryz.f119]
 exact ⟨_, _, bX _ _, rfl, nL⟩
theorem a7T {p : aI} (hp : p.ok) {inp : Int} {n : Nat} (hv : sA p inp n) {h0 h : aB} {nb st : Nat} {e : aA} {env : List Int} {S : dV} {funcs : Int} {k : Int} {S' : dV} {t : Nat} (hR : dT (cR p inp) h0 nb S h) (hst : st < 3000)
  (hok : e.ok p funcs env.length) (fH : 0 ≤ funcs) (hf : funcs ≤ p.aH.length) (hg : Good inp S st) (henv : ∀ x ∈ env, oV S x) (hel : env.length ≤ 412 + st) (hr : eT p (n + 1) st e env S = .ok ((k, S'), t)) (hk : e.a6 = 2) :
  fO Tryz.prog 119 [.op nb 6 0 0, .ip 5 [e.c] 0 0, ints env] h fun r h' => r = I k ∧ dT (cR p inp) h0 nb S' h' := by
 rw [aA.aN]
 have hnode := (aA.eP _ _ _ _).1 hok
 have h3 : ¬ st = 3000 := by omega
 have hcap := hg.cap
 have hgcap := hg.rK
 have l8 := hg.nH (Nat.le_succ st)
 rw [aO9 h3 hk] at hr
 cases hr
 have hnum := ((fP (by omega)).1 hnode.1).2.2.2.2.1 hk
 have hlt : e.bQ.toNat < env.length := by omega
 refine kO 183 r9 aA6 aA7 mix Tryz.func119 rfl (by kernel_rfl) (by simp) ?_
 simp -dsimp -implicitDefEqProofs only [go_sem, ↓reduceIte, Tryz.f119, hk, eZ hlt]
 exact ⟨hnum.1, by omega, _, _, bX _ _, rfl, hR⟩
theorem a7U {p : aI} (hp : p.ok) {inp : Int} {n : Nat} (hv : sA p inp n) {h0 h : aB} {nb st : Nat} {e : aA} {env : List Int} {S : dV} {funcs : Int} {k : Int} {S' : dV} {t : Nat} (hR : dT (cR p inp) h0 nb S h) (hst : st < 3000)
  (hok : e.ok p funcs env.length) (fH : 0 ≤ funcs) (hf : funcs ≤ p.aH.length) (hg : Good inp S st) (henv : ∀ x ∈ env, oV S x) (hel : env.length ≤ 412 + st) (hr : eT p (n + 1) st e env S = .ok ((k, S'), t)) (hk : e.a6 = 9) :
  fO Tryz.prog 119 [.op nb 6 0 0, .ip 5 [e.c] 0 0, ints env] h fun r h' => r = I k ∧ dT (cR p inp) h0 nb S' h' := by
 rw [aA.aN]
 have hnode := (aA.eP _ _ _ _).1 hok
 have h3 : ¬ st = 3000 := by omega
 have hcap := hg.cap
 have hgcap := hg.rK
 have l8 := hg.nH (Nat.le_succ st)
 have hlen := fE hok (by omega)
 rw [hk, show gK 9 = 2 from rfl] at hlen
 have g0 : e.aM[Int.toNat 0]? = some (e.pV 0) := aA.iX (by omega)
 have g1 : e.aM[Int.toNat 1]? = some (e.pV 1) := aA.iX (by omega)
 have o0 := aA.gX hok (i := 0) (by omega)
 have o1 := aA.gX hok (i := 1) (by omega)
 rw [kP (by omega)] at o0
 rw [hk, show mP 9 1 (env.length : Int) = env.length + 1 from rfl] at o1
 rw [aPA h3 hk] at hr
 obtain ⟨⟨k1, S1⟩, t1, e1, e2⟩ := hU hr
 obtain ⟨b1, b2, b3, b4⟩ := p4 hp n (st + 1) (e.pV 0) env S funcs o0 hf l8 (by omega) henv _ _ e1
 simp only at b1 b2 b3
 have hsub : ∀ (i : Nat), i < e.aM.length → cD [.op nb 6 0 0, .ip 5 (e.aM.map aA.c) i 0, ints env] [.op nb 6 0 0, .ip 5 [(e.pV i).c] 0 0, ints env] := fun i hi => by
  rw [aA.vC hi]
  exact .cons (.refl _) (.cons (Sub.ip (bS hi) (by simp)) (.cons (.refl _) .nil))
 refine kO 183 r9 aA6 aA7 mix Tryz.func119 rfl (by kernel_rfl) (by simp) ?_
 simp -dsimp -implicitDefEqProofs only [go_sem, ↓reduceIte, Tryz.f119, hk]
 refine ⟨by omega, aJ.iF (fO.sub (hsub 0 (by omega)) (hv h0 _ nb (st + 1) (e.pV 0) env S funcs k1 S1 t1 hR (by omega) o0 fH hf l8 henv (by omega) e1)) ?_⟩
 rintro r h' ⟨rfl, nL⟩
 simp -dsimp -implicitDefEqProofs only [go_sem, ↓reduceIte, Tryz.f119]
 refine ⟨by omega, by decide, by decide, aJ.wn0 (kV env (by omega)) ?_⟩
 rintro r l g ⟨y, oy, rfl, rfl⟩ wn
 have bSN : ∀ x ∈ env ++ [k1], oV S1 x := fun x hx => by
  rcases List.mem_append.1 hx with hx | hx
  ·exact (henv x hx).ext b2
  ·rw [List.mem_singleton.1 hx]; exact b3
 have hfin : ∀ {h1 g1 : aB}, dT (cR p inp) h1 nb S1 g1 → fO Tryz.prog 119 [.op nb 6 0 0, .ip 5 (e.aM.map aA.c) 1 0, ints (env ++ [k1])] g1 fun r h' => r = I k ∧ dT (cR p inp) h1 nb S' h' := fun sH =>
  fO.sub (.cons (.refl _) (.cons (by rw [aA.vC (show 1 < e.aM.length by omega)]; exact Sub.ip (bS (by omega)) (by simp)) (.cons (.refl _) .nil))) (hv _ _ nb t1 (e.pV 1) (env ++ [k1]) S1 funcs k S' t sH b4.2.2.2 (by rw [List.length_append]; exact o1) fH hf b1 bSN (by rw [List.length_append]; have := b4.2.2.1; show env.length + 1 ≤ _; omega) e2)
 rcases oy.aEB with ⟨rfl, rfl⟩ | ⟨m, rfl⟩
 ·rw [OV.lY] at wn
  have hgh : g = h' := funext fun q => wn.upto q (by simp [bR])
  subst hgh
  simp -dsimp -implicitDefEqProofs only [go_sem, ↓reduceIte, Tryz.f119, OV.val]
  refine ⟨by decide, fun b kU => ?_⟩
  have iI : ¬ nb = b := fun e => by obtain ⟨_, _, _, H2⟩ := nL; have := H2.box; rw [e, kU] at this; cases this
  have dU : ¬ b = nb := Ne.symm iI
  have iH : (nb = b) = False := eq_false iI
  have iG : (b = nb) = False := eq_false dU
  refine aJ.aHH (x := .ip 5 (e.aM.map aA.c) 1 0) (es := [[I k1]]) (len := 1) rfl rfl iI rfl kU ?_
  refine fO.mono (hfin (nL.wO (o := .gone) kU)) ?_
  rintro r h2 ⟨rfl, sH⟩
  obtain ⟨g3, rfl, hg3, sH⟩ := sH.base (nL.none kU)
  simp -dsimp -implicitDefEqProofs only [go_sem, ↓reduceIte, Tryz.f119]
  exact ⟨_, g3, eA (aB.bD hg3 (aB.le_refl _)), rfl, sH⟩
 ·rw [OV.eV, tC, rD] at wn
  obtain ⟨hm, rfl⟩ := wn.single
  simp -dsimp -implicitDefEqProofs only [go_sem, ↓reduceIte, Tryz.f119, OV.val]
  refine ⟨by decide, Nat.le_refl _, by omega, by omega, fun b ⟨hbm, kU⟩ => ?_⟩
  have lF : ¬ b = m := hbm
  have v9 : ¬ m = b := Ne.symm lF
  have sJ : (b = m) = False := eq_false lF
  have sK : (m = b) = False := eq_false v9
  have iI : ¬ nb = b := fun e => by obtain ⟨_, _, _, H2⟩ := nL; have := H2.box; rw [e, kU] at this; cases this
  have dU : ¬ b = nb := Ne.symm iI
  have iH : (nb = b) = False := eq_false iI
  have iG : (b = nb) = False := eq_false dU
  have hb3 : (bK h' m .gone) b = none := by rw [aC _ _ _ _ hbm]; exact kU
  rw [aF, List.take_of_length_le (by simp), show (env.map fun x => [I x]).map (List.map Cell.v) ++ [[Cell.v (aD.int .i64 k1)]] = ((env ++ [k1]).map fun n => [I n]).map (List.map .v) by simp]
  refine aJ.aHH (x := .ip 5 (e.aM.map aA.c) 1 0) (es := (env ++ [k1]).map fun n => [I n]) (len := env.length + 1) rfl rfl iI (by simp) hb3 ?_
  refine fO.mono (hfin ((nL.wO (o := .gone) hm).wO (o := .gone) hb3)) ?_
  rintro r h2 ⟨rfl, sH⟩
  obtain ⟨g3, rfl, hg3, sH⟩ := sH.base ((nL.wO (o := .gone) hm).none hb3)
  obtain ⟨g4, rfl, hg4, sH⟩ := sH.base (nL.none hm)
  rw [aC _ _ _ _ hbm] at hg3
  simp -dsimp -implicitDefEqProofs only [go_sem, ↓reduceIte, Tryz.f119]
  exact ⟨_, g4, eA (aB.bD hg3 (aB.bD hg4 (aB.le_refl _))), rfl, sH⟩
theorem a7V {p : aI} (hp : p.ok) {inp : Int} {n : Nat} (hv : sA p inp n) {h0 h : aB} {nb st : Nat} {e : aA} {env : List Int} {S : dV} {funcs : Int} {k : Int} {S' : dV} {t : Nat} (hR : dT (cR p inp) h0 nb S h) (hst : st < 3000)
  (hok : e.ok p funcs env.length) (fH : 0 ≤ funcs) (hf : funcs ≤ p.aH.length) (hg : Good inp S st) (henv : ∀ x ∈ env, oV S x) (hel : env.length ≤ 412 + st) (hr : eT p (n + 1) st e env S = .ok ((k, S'), t)) (hk : e.a6 = 7) :
  fO Tryz.prog 119 [.op nb 6 0 0, .ip 5 [e.c] 0 0, ints env] h fun r h' => r = I k ∧ dT (cR p inp) h0 nb S' h' := by
 rw [aA.aN]
 have hnode := (aA.eP _ _ _ _).1 hok
 have h3 : ¬ st = 3000 := by omega
 have hcap := hg.cap
 have hgcap := hg.rK
 have l8 := hg.nH (Nat.le_succ st)
 have hlen := fE hok (by omega)
 rw [hk, show gK 7 = 1 from rfl] at hlen
 have o0 := fU hok (by omega)
 rw [lG h3 (by omega)] at hr
 obtain ⟨⟨vs, S1⟩, t1, e1, e2⟩ := hU hr
 obtain ⟨b1, b2, b3, b4⟩ := gH hp l8 (by omega) henv o0 hf _ _ e1
 simp only at b1 b2 b3
 obtain ⟨j, S2, t2, hj, jX⟩ := mH e1 (k := 0) (by omega) (vs := []) (S1 := S) (t1 := st + 1) rfl
 rw [List.take_of_length_le (by omega), e1] at jX
 obtain ⟨rfl, rfl⟩ := Prod.mk.inj (Prod.mk.inj (Except.ok.inj jX)).1
 obtain rfl := (Prod.mk.inj (Except.ok.inj jX)).2
 have hsub : cD [.op nb 6 0 0, .ip 5 (e.aM.map aA.c) 0 0, ints env] [.op nb 6 0 0, .ip 5 [e.aM[0].c] 0 0, ints env] := .cons (.refl _) (.cons (Sub.ip (bS (by omega)) (by simp)) (.cons (.refl _) .nil))
 have hj0 : oV S1 j := b3.2 j (by simp)
 have hvj := b1.val j
 refine kO 183 r9 aA6 aA7 mix Tryz.func119 rfl (by kernel_rfl) (by simp) ?_
 simp -dsimp -implicitDefEqProofs only [go_sem, ↓reduceIte, Tryz.f119, hk]
 refine ⟨by omega, aJ.iF (fO.sub hsub (hv h0 _ nb (st + 1) e.aM[0] env S funcs j S1 t1 hR (by omega) (o0 _ (List.getElem_mem _)) fH hf l8 henv (by omega) hj)) ?_⟩
 rintro r h' ⟨rfl, ⟨om, og, ov, H1⟩⟩
 obtain ⟨w, rfl, hw, dw⟩ := H1.row hj0
 have kT := H1.box
 unfold cR at kT
 rw [aQ] at kT
 have rk := jF hj0
 have k0 := hj0.1
 have k2 := hj0.2
 have lw := eW (fun n => [I n]) S1.fS
 simp -dsimp -implicitDefEqProofs only [go_sem, ↓reduceIte, Tryz.f119, kT, hw, rk]
 refine ⟨k0, by omega, ?_⟩
 first | refine aJ.mk (aPR (S1.val j) hvj) ?_ | refine aL.mk (aPR (S1.val j) hvj) ?_ | refine aJ.dF (aPR (S1.val j) hvj) ?_ | refine aL.mk (cZ.gC (aPR (S1.val j) hvj)) ?_
 simp -dsimp -implicitDefEqProofs only [go_sem, ↓reduceIte, Tryz.f119]
 have e3 : opR 7 [j] S1 t1 = .ok (((S1.fS.length : Int), S1.put ⟨7, j, 0, 0⟩ ((0 - S1.val j) % 1000003)), t1) := rfl
 rw [hk] at e2
 have e4 := e3.symm.trans e2
 have e5 := (Prod.mk.inj (Prod.mk.inj (Except.ok.inj e4)).1)
 unfold pG at b4
 simp only at b4
 refine aJ.iF (aA5 ⟨om, og, some w, H1⟩ ⟨7, j, 0, 0⟩ ((0 - S1.val j) % 1000003) b1.len (by have := b1.cap; omega)) ?_
 rintro r h2 ⟨rfl, nL⟩
 simp -dsimp -implicitDefEqProofs only [go_sem, ↓reduceIte, Tryz.f119]
 rw [e5.2] at nL
 exact ⟨_, _, bX _ _, by rw [e5.1], nL⟩
theorem a7W {p : aI} (hp : p.ok) {inp : Int} {n : Nat} (hv : sA p inp n) {h0 h : aB} {nb st : Nat} {e : aA} {env : List Int} {S : dV} {funcs : Int} {k : Int} {S' : dV} {t : Nat} (hR : dT (cR p inp) h0 nb S h) (hst : st < 3000)
  (hok : e.ok p funcs env.length) (fH : 0 ≤ funcs) (hf : funcs ≤ p.aH.length) (hg : Good inp S st) (henv : ∀ x ∈ env, oV S x) (hel : env.length ≤ 412 + st) (hr : eT p (n + 1) st e env S = .ok ((k, S'), t)) (hk : e.a6 = 3) :
  fO Tryz.prog 119 [.op nb 6 0 0, .ip 5 [e.c] 0 0, ints env] h fun r h' => r = I k ∧ dT (cR p inp) h0 nb S' h' := by
 rw [aA.aN]
 have hnode := (aA.eP _ _ _ _).1 hok
 have h3 : ¬ st = 3000 := by omega
 have hcap := hg.cap
 have hgcap := hg.rK
 have l8 := hg.nH (Nat.le_succ st)
 have hlen := fE hok (by omega)
 rw [hk, show gK 3 = 2 from rfl] at hlen
 have o0 := fU hok (by omega)
 rw [lG h3 (by omega)] at hr
 obtain ⟨⟨vs, S1⟩, t1, e1, e2⟩ := hU hr
 obtain ⟨b1, b2, b3, b4⟩ := gH hp l8 (by omega) henv o0 hf _ _ e1
 simp only at b1 b2 b3
 obtain ⟨j0, S0, t0, hj0, zO⟩ := mH e1 (k := 0) (by omega) (vs := []) (S1 := S) (t1 := st + 1) rfl
 obtain ⟨c1, c2, c3, c4⟩ := p4 hp n (st + 1) e.aM[0] env S funcs (o0 _ (List.getElem_mem _)) hf l8 (by omega) henv _ _ hj0
 simp only at c1 c2 c3
 obtain ⟨j1, S2, t2, hj1, kD⟩ := mH e1 (k := 1) (by omega) zO
 rw [List.take_of_length_le (by omega), e1] at kD
 obtain ⟨rfl, rfl⟩ := Prod.mk.inj (Prod.mk.inj (Except.ok.inj kD)).1
 obtain rfl := (Prod.mk.inj (Except.ok.inj kD)).2
 have hsub : ∀ (i : Nat) (hi : i < e.aM.length), cD [.op nb 6 0 0, .ip 5 (e.aM.map aA.c) i 0, ints env] [.op nb 6 0 0, .ip 5 [e.aM[i].c] 0 0, ints env] := fun i hi => .cons (.refl _) (.cons (Sub.ip (bS hi) (by simp)) (.cons (.refl _) .nil))
 have i0 : oV S1 j0 := b3.2 j0 (by simp)
 have i1 : oV S1 j1 := b3.2 j1 (by simp)
 have xK := b1.val j0
 have hv1 := b1.val j1
 refine kO 183 r9 aA6 aA7 mix Tryz.func119 rfl (by kernel_rfl) (by simp) ?_
 simp -dsimp -implicitDefEqProofs only [go_sem, ↓reduceIte, Tryz.f119, hk]
 refine ⟨by omega, aJ.iF (fO.sub (hsub 0 (by omega)) (hv h0 _ nb (st + 1) e.aM[0] env S funcs j0 S0 t0 hR (by omega) (o0 _ (List.getElem_mem _)) fH hf l8 henv (by omega) hj0)) ?_⟩
 rintro r h' ⟨rfl, hR1⟩
 simp -dsimp -implicitDefEqProofs only [go_sem, ↓reduceIte, Tryz.f119]
 refine ⟨by omega, aJ.iF (fO.sub (hsub 1 (by omega)) (hv h0 _ nb t0 e.aM[1] env S0 funcs j1 S1 t1 hR1 c4.2.2.2 (o0 _ (List.getElem_mem _)) fH hf c1 (fun x hx => (henv x hx).ext c2) (by have := c4.2.2.1; omega) hj1)) ?_⟩
 rintro r h2 ⟨rfl, ⟨om, og, ov, H1⟩⟩
 obtain ⟨w, rfl, hw, dw⟩ := H1.row i0
 have kT := H1.box
 unfold cR at kT
 rw [aQ] at kT
 have rk0 := jF i0
 have rk1 := jF i1
 have k0 := i0.1
 have k1 := i0.2
 have k2 := i1.1
 have k3 := i1.2
 have lw := eW (fun n => [I n]) S1.fS
 have hop := aXQ 3 (by decide)
 try simp -dsimp -implicitDefEqProofs only [go_sem, ↓reduceIte, Tryz.f119, hk]
 first | refine aJ.mk (hop) ?_ | refine aL.mk (hop) ?_ | refine aJ.dF (hop) ?_ | refine aL.mk (cZ.gC (hop)) ?_
 simp -dsimp -implicitDefEqProofs only [go_sem, ↓reduceIte, Tryz.f119]
 try simp -dsimp -implicitDefEqProofs only [go_sem, ↓reduceIte, Tryz.f119, kT, hw, rk0, rk1]
 refine ⟨k0, by omega, k2, by omega, ?_⟩
 rw [hk] at e2
 cases hv : opV 3 (S1.val j0) (S1.val j1) with
 |none =>
  have e3 : opR 3 [j0, j1] S1 t1 = .error 6 := by
   unfold opR
   rw [show ([j0, j1].getD 0 0) = j0 from rfl, show opB 3 [j0, j1] = j1 from rfl, hv]
  have e4 := e3.symm.trans e2
  cases e4
 |some v =>
  have e3 : opR 3 [j0, j1] S1 t1 = .ok (((S1.fS.length : Int), S1.put ⟨3, j0, j1, 0⟩ v), t1) := by
   unfold opR
   rw [show ([j0, j1].getD 0 0) = j0 from rfl, show opB 3 [j0, j1] = j1 from rfl, hv]
  have e4 := e3.symm.trans e2
  have e5 := (Prod.mk.inj (Prod.mk.inj (Except.ok.inj e4)).1)
  first | refine aJ.mk (j2 3 (S1.val j0) (S1.val j1) v xK hv1 (by decide) hv) ?_ | refine aL.mk (j2 3 (S1.val j0) (S1.val j1) v xK hv1 (by decide) hv) ?_ | refine aJ.dF (j2 3 (S1.val j0) (S1.val j1) v xK hv1 (by decide) hv) ?_ | refine aL.mk (cZ.gC (j2 3 (S1.val j0) (S1.val j1) v xK hv1 (by decide) hv)) ?_
  simp -dsimp -implicitDefEqProofs only [go_sem, ↓reduceIte, Tryz.f119]
  unfold pG at b4
  simp only at b4
  refine aJ.iF (aA5 ⟨om, og, some w, H1⟩ ⟨3, j0, j1, 0⟩ v b1.len (by have := b1.cap; omega)) ?_
  rintro r h3 ⟨rfl, nL⟩
  simp -dsimp -implicitDefEqProofs only [go_sem, ↓reduceIte, Tryz.f119]
  rw [e5.2] at nL
  exact ⟨_, _, bX _ _, by rw [e5.1], nL⟩
theorem a7X {p : aI} (hp : p.ok) {inp : Int} {n : Nat} (hv : sA p inp n) {h0 h : aB} {nb st : Nat} {e : aA} {env : List Int} {S : dV} {funcs : Int} {k : Int} {S' : dV} {t : Nat} (hR : dT (cR p inp) h0 nb S h) (hst : st < 3000)
  (hok : e.ok p funcs env.length) (fH : 0 ≤ funcs) (hf : funcs ≤ p.aH.length) (hg : Good inp S st) (henv : ∀ x ∈ env, oV S x) (hel : env.length ≤ 412 + st) (hr : eT p (n + 1) st e env S = .ok ((k, S'), t)) (hk : e.a6 = 4) :
  fO Tryz.prog 119 [.op nb 6 0 0, .ip 5 [e.c] 0 0, ints env] h fun r h' => r = I k ∧ dT (cR p inp) h0 nb S' h' := by
 rw [aA.aN]
 have hnode := (aA.eP _ _ _ _).1 hok
 have h3 : ¬ st = 3000 := by omega
 have hcap := hg.cap
 have hgcap := hg.rK
 have l8 := hg.nH (Nat.le_succ st)
 have hlen := fE hok (by omega)
 rw [hk, show gK 4 = 2 from rfl] at hlen
 have o0 := fU hok (by omega)
 rw [lG h3 (by omega)] at hr
 obtain ⟨⟨vs, S1⟩, t1, e1, e2⟩ := hU hr
 obtain ⟨b1, b2, b3, b4⟩ := gH hp l8 (by omega) henv o0 hf _ _ e1
 simp only at b1 b2 b3
 obtain ⟨j0, S0, t0, hj0, zO⟩ := mH e1 (k := 0) (by omega) (vs := []) (S1 := S) (t1 := st + 1) rfl
 obtain ⟨c1, c2, c3, c4⟩ := p4 hp n (st + 1) e.aM[0] env S funcs (o0 _ (List.getElem_mem _)) hf l8 (by omega) henv _ _ hj0
 simp only at c1 c2 c3
 obtain ⟨j1, S2, t2, hj1, kD⟩ := mH e1 (k := 1) (by omega) zO
 rw [List.take_of_length_le (by omega), e1] at kD
 obtain ⟨rfl, rfl⟩ := Prod.mk.inj (Prod.mk.inj (Except.ok.inj kD)).1
 obtain rfl := (Prod.mk.inj (Except.ok.inj kD)).2
 have hsub : ∀ (i : Nat) (hi : i < e.aM.length), cD [.op nb 6 0 0, .ip 5 (e.aM.map aA.c) i 0, ints env] [.op nb 6 0 0, .ip 5 [e.aM[i].c] 0 0, ints env] := fun i hi => .cons (.refl _) (.cons (Sub.ip (bS hi) (by simp)) (.cons (.refl _) .nil))
 have i0 : oV S1 j0 := b3.2 j0 (by simp)
 have i1 : oV S1 j1 := b3.2 j1 (by simp)
 have xK := b1.val j0
 have hv1 := b1.val j1
 refine kO 183 r9 aA6 aA7 mix Tryz.func119 rfl (by kernel_rfl) (by simp) ?_
 simp -dsimp -implicitDefEqProofs only [go_sem, ↓reduceIte, Tryz.f119, hk]
 refine ⟨by omega, aJ.iF (fO.sub (hsub 0 (by omega)) (hv h0 _ nb (st + 1) e.aM[0] env S funcs j0 S0 t0 hR (by omega) (o0 _ (List.getElem_mem _)) fH hf l8 henv (by omega) hj0)) ?_⟩
 rintro r h' ⟨rfl, hR1⟩
 simp -dsimp -implicitDefEqProofs only [go_sem, ↓reduceIte, Tryz.f119]
 refine ⟨by omega, aJ.iF (fO.sub (hsub 1 (by omega)) (hv h0 _ nb t0 e.aM[1] env S0 funcs j1 S1 t1 hR1 c4.2.2.2 (o0 _ (List.getElem_mem _)) fH hf c1 (fun x hx => (henv x hx).ext c2) (by have := c4.2.2.1; omega) hj1)) ?_⟩
 rintro r h2 ⟨rfl, ⟨om, og, ov, H1⟩⟩
 obtain ⟨w, rfl, hw, dw⟩ := H1.row i0
 have kT := H1.box
 unfold cR at kT
 rw [aQ] at kT
 have rk0 := jF i0
 have rk1 := jF i1
 have k0 := i0.1
 have k1 := i0.2
 have k2 := i1.1
 have k3 := i1.2
 have lw := eW (fun n => [I n]) S1.fS
 have hop := aXQ 4 (by decide)
 try simp -dsimp -implicitDefEqProofs only [go_sem, ↓reduceIte, Tryz.f119, hk]
 first | refine aJ.mk (hop) ?_ | refine aL.mk (hop) ?_ | refine aJ.dF (hop) ?_ | refine aL.mk (cZ.gC (hop)) ?_
 simp -dsimp -implicitDefEqProofs only [go_sem, ↓reduceIte, Tryz.f119]
 try simp -dsimp -implicitDefEqProofs only [go_sem, ↓reduceIte, Tryz.f119, kT, hw, rk0, rk1]
 refine ⟨k0, by omega, k2, by omega, ?_⟩
 rw [hk] at e2
 cases hv : opV 4 (S1.val j0) (S1.val j1) with
 |none =>
  have e3 : opR 4 [j0, j1] S1 t1 = .error 6 := by
   unfold opR
   rw [show ([j0, j1].getD 0 0) = j0 from rfl, show opB 4 [j0, j1] = j1 from rfl, hv]
  have e4 := e3.symm.trans e2
  cases e4
 |some v =>
  have e3 : opR 4 [j0, j1] S1 t1 = .ok (((S1.fS.length : Int), S1.put ⟨4, j0, j1, 0⟩ v), t1) := by
   unfold opR
   rw [show ([j0, j1].getD 0 0) = j0 from rfl, show opB 4 [j0, j1] = j1 from rfl, hv]
  have e4 := e3.symm.trans e2
  have e5 := (Prod.mk.inj (Prod.mk.inj (Except.ok.inj e4)).1)
  first | refine aJ.mk (j2 4 (S1.val j0) (S1.val j1) v xK hv1 (by decide) hv) ?_ | refine aL.mk (j2 4 (S1.val j0) (S1.val j1) v xK hv1 (by decide) hv) ?_ | refine aJ.dF (j2 4 (S1.val j0) (S1.val j1) v xK hv1 (by decide) hv) ?_ | refine aL.mk (cZ.gC (j2 4 (S1.val j0) (S1.val j1) v xK hv1 (by decide) hv)) ?_
  simp -dsimp -implicitDefEqProofs only [go_sem, ↓reduceIte, Tryz.f119]
  unfold pG at b4
  simp only at b4
  refine aJ.iF (aA5 ⟨om, og, some w, H1⟩ ⟨4, j0, j1, 0⟩ v b1.len (by have := b1.cap; omega)) ?_
  rintro r h3 ⟨rfl, nL⟩
  simp -dsimp -implicitDefEqProofs only [go_sem, ↓reduceIte, Tryz.f119]
  rw [e5.2] at nL
  exact ⟨_, _, bX _ _, by rw [e5.1], nL⟩
theorem a7Y {p : aI} (hp : p.ok) {inp : Int} {n : Nat} (hv : sA p inp n) {h0 h : aB} {nb st : Nat} {e : aA} {env : List Int} {S : dV} {funcs : Int} {k : Int} {S' : dV} {t : Nat} (hR : dT (cR p inp) h0 nb S h) (hst : st < 3000)
  (hok : e.ok p funcs env.length) (fH : 0 ≤ funcs) (hf : funcs ≤ p.aH.length) (hg : Good inp S st) (henv : ∀ x ∈ env, oV S x) (hel : env.length ≤ 412 + st) (hr : eT p (n + 1) st e env S = .ok ((k, S'), t)) (hk : e.a6 = 5) :
  fO Tryz.prog 119 [.op nb 6 0 0, .ip 5 [e.c] 0 0, ints env] h fun r h' => r = I k ∧ dT (cR p inp) h0 nb S' h' := by
 rw [aA.aN]
 have hnode := (aA.eP _ _ _ _).1 hok
 have h3 : ¬ st = 3000 := by omega
 have hcap := hg.cap
 have hgcap := hg.rK
 have l8 := hg.nH (Nat.le_succ st)
 have hlen := fE hok (by omega)
 rw [hk, show gK 5 = 2 from rfl] at hlen
 have o0 := fU hok (by omega)
 rw [lG h3 (by omega)] at hr
 obtain ⟨⟨vs, S1⟩, t1, e1, e2⟩ := hU hr
 obtain ⟨b1, b2, b3, b4⟩ := gH hp l8 (by omega) henv o0 hf _ _ e1
 simp only at b1 b2 b3
 obtain ⟨j0, S0, t0, hj0, zO⟩ := mH e1 (k := 0) (by omega) (vs := []) (S1 := S) (t1 := st + 1) rfl
 obtain ⟨c1, c2, c3, c4⟩ := p4 hp n (st + 1) e.aM[0] env S funcs (o0 _ (List.getElem_mem _)) hf l8 (by omega) henv _ _ hj0
 simp only at c1 c2 c3
 obtain ⟨j1, S2, t2, hj1, kD⟩ := mH e1 (k := 1) (by omega) zO
 rw [List.take_of_length_le (by omega), e1] at kD
 obtain ⟨rfl, rfl⟩ := Prod.mk.inj (Prod.mk.inj (Except.ok.inj kD)).1
 obtain rfl := (Prod.mk.inj (Except.ok.inj kD)).2
 have hsub : ∀ (i : Nat) (hi : i < e.aM.length), cD [.op nb 6 0 0, .ip 5 (e.aM.map aA.c) i 0, ints env] [.op nb 6 0 0, .ip 5 [e.aM[i].c] 0 0, ints env] := fun i hi => .cons (.refl _) (.cons (Sub.ip (bS hi) (by simp)) (.cons (.refl _) .nil))
 have i0 : oV S1 j0 := b3.2 j0 (by simp)
 have i1 : oV S1 j1 := b3.2 j1 (by simp)
 have xK := b1.val j0
 have hv1 := b1.val j1
 refine kO 183 r9 aA6 aA7 mix Tryz.func119 rfl (by kernel_rfl) (by simp) ?_
 simp -dsimp -implicitDefEqProofs only [go_sem, ↓reduceIte, Tryz.f119, hk]
 refine ⟨by omega, aJ.iF (fO.sub (hsub 0 (by omega)) (hv h0 _ nb (st + 1) e.aM[0] env S funcs j0 S0 t0 hR (by omega) (o0 _ (List.getElem_mem _)) fH hf l8 henv (by omega) hj0)) ?_⟩
 rintro r h' ⟨rfl, hR1⟩
 simp -dsimp -implicitDefEqProofs only [go_sem, ↓reduceIte, Tryz.f119]
 refine ⟨by omega, aJ.iF (fO.sub (hsub 1 (by omega)) (hv h0 _ nb t0 e.aM[1] env S0 funcs j1 S1 t1 hR1 c4.2.2.2 (o0 _ (List.getElem_mem _)) fH hf c1 (fun x hx => (henv x hx).ext c2) (by have := c4.2.2.1; omega) hj1)) ?_⟩
 rintro r h2 ⟨rfl, ⟨om, og, ov, H1⟩⟩
 obtain ⟨w, rfl, hw, dw⟩ := H1.row i0
 have kT := H1.box
 unfold cR at kT
 rw [aQ] at kT
 have rk0 := jF i0
 have rk1 := jF i1
 have k0 := i0.1
 have k1 := i0.2
 have k2 := i1.1
 have k3 := i1.2
 have lw := eW (fun n => [I n]) S1.fS
 have hop := aXQ 5 (by decide)
 try simp -dsimp -implicitDefEqProofs only [go_sem, ↓reduceIte, Tryz.f119, hk]
 first | refine aJ.mk (hop) ?_ | refine aL.mk (hop) ?_ | refine aJ.dF (hop) ?_ | refine aL.mk (cZ.gC (hop)) ?_
 simp -dsimp -implicitDefEqProofs only [go_sem, ↓reduceIte, Tryz.f119]
 try simp -dsimp -implicitDefEqProofs only [go_sem, ↓reduceIte, Tryz.f119, kT, hw, rk0, rk1]
 refine ⟨k0, by omega, k2, by omega, ?_⟩
 rw [hk] at e2
 cases hv : opV 5 (S1.val j0) (S1.val j1) with
 |none =>
  have e3 : opR 5 [j0, j1] S1 t1 = .error 6 := by
   unfold opR
   rw [show ([j0, j1].getD 0 0) = j0 from rfl, show opB 5 [j0, j1] = j1 from rfl, hv]
  have e4 := e3.symm.trans e2
  cases e4
 |some v =>
  have e3 : opR 5 [j0, j1] S1 t1 = .ok (((S1.fS.length : Int), S1.put ⟨5, j0, j1, 0⟩ v), t1) := by
   unfold opR
   rw [show ([j0, j1].getD 0 0) = j0 from rfl, show opB 5 [j0, j1] = j1 from rfl, hv]
  have e4 := e3.symm.trans e2
  have e5 := (Prod.mk.inj (Prod.mk.inj (Except.ok.inj e4)).1)
  first | refine aJ.mk (j2 5 (S1.val j0) (S1.val j1) v xK hv1 (by decide) hv) ?_ | refine aL.mk (j2 5 (S1.val j0) (S1.val j1) v xK hv1 (by decide) hv) ?_ | refine aJ.dF (j2 5 (S1.val j0) (S1.val j1) v xK hv1 (by decide) hv) ?_ | refine aL.mk (cZ.gC (j2 5 (S1.val j0) (S1.val j1) v xK hv1 (by decide) hv)) ?_
  simp -dsimp -implicitDefEqProofs only [go_sem, ↓reduceIte, Tryz.f119]
  unfold pG at b4
  simp only at b4
  refine aJ.iF (aA5 ⟨om, og, some w, H1⟩ ⟨5, j0, j1, 0⟩ v b1.len (by have := b1.cap; omega)) ?_
  rintro r h3 ⟨rfl, nL⟩
  simp -dsimp -implicitDefEqProofs only [go_sem, ↓reduceIte, Tryz.f119]
  rw [e5.2] at nL
  exact ⟨_, _, bX _ _, by rw [e5.1], nL⟩
theorem a7Z {p : aI} (hp : p.ok) {inp : Int} {n : Nat} (hv : sA p inp n) {h0 h : aB} {nb st : Nat} {e : aA} {env : List Int} {S : dV} {funcs : Int} {k : Int} {S' : dV} {t : Nat} (hR : dT (cR p inp) h0 nb S h) (hst : st < 3000)
  (hok : e.ok p funcs env.length) (fH : 0 ≤ funcs) (hf : funcs ≤ p.aH.length) (hg : Good inp S st) (henv : ∀ x ∈ env, oV S x) (hel : env.length ≤ 412 + st) (hr : eT p (n + 1) st e env S = .ok ((k, S'), t)) (hk : e.a6 = 6) :
  fO Tryz.prog 119 [.op nb 6 0 0, .ip 5 [e.c] 0 0, ints env] h fun r h' => r = I k ∧ dT (cR p inp) h0 nb S' h' := by
 rw [aA.aN]
 have hnode := (aA.eP _ _ _ _).1 hok
 have h3 : ¬ st = 3000 := by omega
 have hcap := hg.cap
 have hgcap := hg.rK
 have l8 := hg.nH (Nat.le_succ st)
 have hlen := fE hok (by omega)
 rw [hk, show gK 6 = 2 from rfl] at hlen
 have o0 := fU hok (by omega)
 rw [lG h3 (by omega)] at hr
 obtain ⟨⟨vs, S1⟩, t1, e1, e2⟩ := hU hr
 obtain ⟨b1, b2, b3, b4⟩ := gH hp l8 (by omega) henv o0 hf _ _ e1
 simp only at b1 b2 b3
 obtain ⟨j0, S0, t0, hj0, zO⟩ := mH e1 (k := 0) (by omega) (vs := []) (S1 := S) (t1 := st + 1) rfl
 obtain ⟨c1, c2, c3, c4⟩ := p4 hp n (st + 1) e.aM[0] env S funcs (o0 _ (List.getElem_mem _)) hf l8 (by omega) henv _ _ hj0
 simp only at c1 c2 c3
 obtain ⟨j1, S2, t2, hj1, kD⟩ := mH e1 (k := 1) (by omega) zO
 rw [List.take_of_length_le (by omega), e1] at kD
 obtain ⟨rfl, rfl⟩ := Prod.mk.inj (Prod.mk.inj (Except.ok.inj kD)).1
 obtain rfl := (Prod.mk.inj (Except.ok.inj kD)).2
 have hsub : ∀ (i : Nat) (hi : i < e.aM.length), cD [.op nb 6 0 0, .ip 5 (e.aM.map aA.c) i 0, ints env] [.op nb 6 0 0, .ip 5 [e.aM[i].c] 0 0, ints env] := fun i hi => .cons (.refl _) (.cons (Sub.ip (bS hi) (by simp)) (.cons (.refl _) .nil))
 have i0 : oV S1 j0 := b3.2 j0 (by simp)
 have i1 : oV S1 j1 := b3.2 j1 (by simp)
 have xK := b1.val j0
 have hv1 := b1.val j1
 refine kO 183 r9 aA6 aA7 mix Tryz.func119 rfl (by kernel_rfl) (by simp) ?_
 simp -dsimp -implicitDefEqProofs only [go_sem, ↓reduceIte, Tryz.f119, hk]
 refine ⟨by omega, aJ.iF (fO.sub (hsub 0 (by omega)) (hv h0 _ nb (st + 1) e.aM[0] env S funcs j0 S0 t0 hR (by omega) (o0 _ (List.getElem_mem _)) fH hf l8 henv (by omega) hj0)) ?_⟩
 rintro r h' ⟨rfl, hR1⟩
 simp -dsimp -implicitDefEqProofs only [go_sem, ↓reduceIte, Tryz.f119]
 refine ⟨by omega, aJ.iF (fO.sub (hsub 1 (by omega)) (hv h0 _ nb t0 e.aM[1] env S0 funcs j1 S1 t1 hR1 c4.2.2.2 (o0 _ (List.getElem_mem _)) fH hf c1 (fun x hx => (henv x hx).ext c2) (by have := c4.2.2.1; omega) hj1)) ?_⟩
 rintro r h2 ⟨rfl, ⟨om, og, ov, H1⟩⟩
 obtain ⟨w, rfl, hw, dw⟩ := H1.row i0
 have kT := H1.box
 unfold cR at kT
 rw [aQ] at kT
 have rk0 := jF i0
 have rk1 := jF i1
 have k0 := i0.1
 have k1 := i0.2
 have k2 := i1.1
 have k3 := i1.2
 have lw := eW (fun n => [I n]) S1.fS
 have hop := aXQ 6 (by decide)
 try simp -dsimp -implicitDefEqProofs only [go_sem, ↓reduceIte, Tryz.f119, hk]
 first | refine aJ.mk (hop) ?_ | refine aL.mk (hop) ?_ | refine aJ.dF (hop) ?_ | refine aL.mk (cZ.gC (hop)) ?_
 simp -dsimp -implicitDefEqProofs only [go_sem, ↓reduceIte, Tryz.f119]
 try simp -dsimp -implicitDefEqProofs only [go_sem, ↓reduceIte, Tryz.f119, kT, hw, rk0, rk1]
 refine ⟨k0, by omega, k2, by omega, ?_⟩
 rw [hk] at e2
 cases hv : opV 6 (S1.val j0) (S1.val j1) with
 |none =>
  have e3 : opR 6 [j0, j1] S1 t1 = .error 6 := by
   unfold opR
   rw [show ([j0, j1].getD 0 0) = j0 from rfl, show opB 6 [j0, j1] = j1 from rfl, hv]
  have e4 := e3.symm.trans e2
  cases e4
 |some v =>
  have e3 : opR 6 [j0, j1] S1 t1 = .ok (((S1.fS.length : Int), S1.put ⟨6, j0, j1, 0⟩ v), t1) := by
   unfold opR
   rw [show ([j0, j1].getD 0 0) = j0 from rfl, show opB 6 [j0, j1] = j1 from rfl, hv]
  have e4 := e3.symm.trans e2
  have e5 := (Prod.mk.inj (Prod.mk.inj (Except.ok.inj e4)).1)
  first | refine aJ.mk (j2 6 (S1.val j0) (S1.val j1) v xK hv1 (by decide) hv) ?_ | refine aL.mk (j2 6 (S1.val j0) (S1.val j1) v xK hv1 (by decide) hv) ?_ | refine aJ.dF (j2 6 (S1.val j0) (S1.val j1) v xK hv1 (by decide) hv) ?_ | refine aL.mk (cZ.gC (j2 6 (S1.val j0) (S1.val j1) v xK hv1 (by decide) hv)) ?_
  simp -dsimp -implicitDefEqProofs only [go_sem, ↓reduceIte, Tryz.f119]
  unfold pG at b4
  simp only at b4
  refine aJ.iF (aA5 ⟨om, og, some w, H1⟩ ⟨6, j0, j1, 0⟩ v b1.len (by have := b1.cap; omega)) ?_
  rintro r h3 ⟨rfl, nL⟩
  simp -dsimp -implicitDefEqProofs only [go_sem, ↓reduceIte, Tryz.f119]
  rw [e5.2] at nL
  exact ⟨_, _, bX _ _, by rw [e5.1], nL⟩
set_option maxRecDepth 100000
open Go.Proofs
set_option linter.unusedVariables false
set_option linter.unusedSimpArgs false
theorem a70 {p : aI} (hp : p.ok) {inp : Int} {n : Nat} (hv : sA p inp n) {h0 h : aB} {nb st : Nat} {e : aA} {env : List Int} {S : dV} {funcs : Int} {k : Int} {S' : dV} {t : Nat} (hR : dT (cR p inp) h0 nb S h) (hst : st < 3000)
  (hok : e.ok p funcs env.length) (fH : 0 ≤ funcs) (hf : funcs ≤ p.aH.length) (hg : Good inp S st) (henv : ∀ x ∈ env, oV S x) (hel : env.length ≤ 412 + st) (hr : eT p (n + 1) st e env S = .ok ((k, S'), t)) (hk : e.a6 = 8) :
  fO Tryz.prog 119 [.op nb 6 0 0, .ip 5 [e.c] 0 0, ints env] h fun r h' => r = I k ∧ dT (cR p inp) h0 nb S' h' := by
 rw [aA.aN]
 have hnode := (aA.eP _ _ _ _).1 hok
 have h3 : ¬ st = 3000 := by omega
 have hcap := hg.cap
 have hgcap := hg.rK
 have l8 := hg.nH (Nat.le_succ st)
 have hlen := fE hok (by omega)
 rw [hk, show gK 8 = 3 from rfl] at hlen
 have o0 := fU hok (by omega)
 rw [aA3 h3 hk] at hr
 obtain ⟨⟨k1, S1⟩, t1, e1, e2⟩ := hU hr
 rw [aA.vC (show 0 < e.aM.length by omega)] at e1
 obtain ⟨q1, q2, q3, q4⟩ := p4 hp n (st + 1) e.aM[0] env S funcs (o0 _ (List.getElem_mem _)) hf l8 (by omega) henv _ _ e1
 unfold pG at q4
 simp only at q1 q2 q3 q4 e2
 have hsub : ∀ (i : Nat) (hi : i < e.aM.length), cD [.op nb 6 0 0, .ip 5 (e.aM.map aA.c) i 0, ints env] [.op nb 6 0 0, .ip 5 [e.aM[i].c] 0 0, ints env] := fun i hi => .cons (.refl _) (.cons (Sub.ip (bS hi) (by simp)) (.cons (.refl _) .nil))
 refine kO 183 r9 aA6 aA7 mix Tryz.func119 rfl (by kernel_rfl) (by simp) ?_
 simp -dsimp -implicitDefEqProofs only [go_sem, ↓reduceIte, Tryz.f119, hk]
 refine ⟨by omega, aJ.iF (fO.sub (hsub 0 (by omega)) (hv h0 _ nb (st + 1) e.aM[0] env S funcs k1 S1 t1 hR (by omega) (o0 _ (List.getElem_mem _)) fH hf l8 henv (by omega) e1)) ?_⟩
 rintro r h' ⟨rfl, ⟨om1, og1, ov1, H1⟩⟩
 obtain ⟨w, rfl, hw, dw⟩ := H1.row q3
 have kT := H1.box
 unfold cR at kT
 rw [aQ] at kT
 have rk := jF q3
 have k0 := q3.1
 have k2 := q3.2
 have lw := eW (fun n => [I n]) S1.fS
 have hgc := q1.rK
 simp -dsimp -implicitDefEqProofs only [go_sem, ↓reduceIte, Tryz.f119, kT, hw, rk]
 refine ⟨k0, by omega, ?_⟩
 have hgd := H1.gds
 cases og1 with
 |none =>
  have hg0 : S1.guards = [] := gY.1 hgd
  rw [aW]
  simp -dsimp -implicitDefEqProofs only [go_sem, ↓reduceIte, Tryz.f119, kT]
  refine ⟨by decide, by decide, by decide, fun b kU => ?_⟩
  have dU : ¬ b = nb := fun e => by rw [e, kT] at kU; cases kU
  have iI : ¬ nb = b := Ne.symm dU
  have iG : (b = nb) = False := eq_false dU
  have iH : (nb = b) = False := eq_false iI
  simp -dsimp -implicitDefEqProofs only [go_sem, ↓reduceIte, Tryz.f119, kT, iG, iH, aC]
  refine ⟨fun hz => ⟨by omega, ?_⟩, fun hz => ⟨by omega, ?_⟩⟩
  ·rw [decide_eq_true hz]
   obtain ⟨g, hgl, hG⟩ := H1.guard ⟨k1, true⟩ kU (F := bK (bK h' b (.row 2 [[.v (I k1), .v (.bool true)]])) nb (cR p inp (S1.guard ⟨k1, true⟩) om1 (some b) (some w))) (aU _ _ _) (by rw [aC _ _ _ _ dU, aU, hg0]; rfl) (fun n h1 h2 _ => by rw [aC _ _ _ _ h1, aC _ _ _ _ h2])
   unfold cR at hgl
   simp only [dV.guard, hg0, aQ, List.nil_append, List.length_singleton] at hgl
   refine aJ.wk (aB.jA hgl) ?_
   have hgG := q1.guard (b := true) q3 (by omega)
   have heG := q2.trans (S1.nK ⟨k1, true⟩)
   rw [if_pos hz, aA.vC (show 1 < e.aM.length by omega)] at e2
   refine aJ.iF (fO.sub (hsub 1 (by omega)) (hv h0 g nb t1 e.aM[1] env (S1.guard ⟨k1, true⟩) funcs k S' t ⟨_, _, _, hG⟩ (by omega) (o0 _ (List.getElem_mem _)) fH hf hgG (fun x hx => (henv x hx).ext heG) (by omega) e2)) ?_
   rintro r h2 ⟨rfl, sH⟩
   simp -dsimp -implicitDefEqProofs only [go_sem, ↓reduceIte, Tryz.f119]
   exact ⟨_, _, bX _ _, rfl, sH⟩
  ·rw [decide_eq_false hz]
   obtain ⟨g, hgl, hG⟩ := H1.guard ⟨k1, false⟩ kU (F := bK (bK h' b (.row 2 [[.v (I k1), .v (.bool false)]])) nb (cR p inp (S1.guard ⟨k1, false⟩) om1 (some b) (some w))) (aU _ _ _) (by rw [aC _ _ _ _ dU, aU, hg0]; rfl) (fun n h1 h2 _ => by rw [aC _ _ _ _ h1, aC _ _ _ _ h2])
   unfold cR at hgl
   simp only [dV.guard, hg0, aQ, List.nil_append, List.length_singleton] at hgl
   refine aJ.wk (aB.jA hgl) ?_
   have hgG := q1.guard (b := false) q3 (by omega)
   have heG := q2.trans (S1.nK ⟨k1, false⟩)
   rw [if_neg hz, aA.vC (show 2 < e.aM.length by omega)] at e2
   refine aJ.iF (fO.sub (hsub 2 (by omega)) (hv h0 g nb t1 e.aM[2] env (S1.guard ⟨k1, false⟩) funcs k S' t ⟨_, _, _, hG⟩ (by omega) (o0 _ (List.getElem_mem _)) fH hf hgG (fun x hx => (henv x hx).ext heG) (by omega) e2)) ?_
   rintro r h2 ⟨rfl, sH⟩
   simp -dsimp -implicitDefEqProofs only [go_sem, ↓reduceIte, Tryz.f119]
   exact ⟨_, _, bX _ _, rfl, sH⟩
 |some gm =>
  have hgm := hgd.2
  have aE2 : ¬ gm = nb := fun e => by rw [e, kT] at hgm; cases hgm
  have aPK : ¬ nb = gm := Ne.symm aE2
  have aPL : (gm = nb) = False := eq_false aE2
  have aPM : (nb = gm) = False := eq_false aPK
  rw [aQ]
  simp -dsimp -implicitDefEqProofs only [go_sem, ↓reduceIte, Tryz.f119, kT, hgm, eW]
  refine ⟨by decide, by decide, by decide, Nat.le_refl _, by omega, by omega, fun b kU => ?_⟩
  have dU : ¬ b = nb := fun e => by rw [e, kT] at kU; cases kU
  have iI : ¬ nb = b := Ne.symm dU
  have iG : (b = nb) = False := eq_false dU
  have iH : (nb = b) = False := eq_false iI
  have aKZ : ¬ b = gm := fun e => by rw [e, hgm] at kU; cases kU
  have aUY : ¬ gm = b := Ne.symm aKZ
  have aUZ : (b = gm) = False := eq_false aKZ
  have aU0 : (gm = b) = False := eq_false aUY
  simp -dsimp -implicitDefEqProofs only [go_sem, ↓reduceIte, Tryz.f119, kT, iG, aUZ, iH, aPM, aU0, aPL, aC]
  refine ⟨fun hz => ⟨by omega, ?_⟩, fun hz => ⟨by omega, ?_⟩⟩
  ·rw [decide_eq_true hz, List.take_of_length_le (by rw [eW]; exact Nat.le_refl _)]
   obtain ⟨g, hgl, hG⟩ := H1.guard ⟨k1, true⟩ kU (F := bK (bK (bK h' gm .gone) b (.row 2 (rowsOf eS.c S1.guards ++ [[.v (I k1), .v (.bool true)]]))) nb (cR p inp (S1.guard ⟨k1, true⟩) om1 (some b) (some w))) (aU _ _ _) (by rw [aC _ _ _ _ dU, aU, mS]; rfl) (fun n h1 h2 h3 => by rw [aC _ _ _ _ h1, aC _ _ _ _ h2, aC _ _ _ _ (fun q => h3 (by rw [q]))])
   unfold cR at hgl
   simp only [dV.guard, aQ, List.length_append, List.length_singleton] at hgl
   refine aJ.wk (aB.jA hgl) ?_
   have hgG := q1.guard (b := true) q3 (by omega)
   have heG := q2.trans (S1.nK ⟨k1, true⟩)
   rw [if_pos hz, aA.vC (show 1 < e.aM.length by omega)] at e2
   refine aJ.iF (fO.sub (hsub 1 (by omega)) (hv h0 g nb t1 e.aM[1] env (S1.guard ⟨k1, true⟩) funcs k S' t ⟨_, _, _, hG⟩ (by omega) (o0 _ (List.getElem_mem _)) fH hf hgG (fun x hx => (henv x hx).ext heG) (by omega) e2)) ?_
   rintro r h2 ⟨rfl, sH⟩
   simp -dsimp -implicitDefEqProofs only [go_sem, ↓reduceIte, Tryz.f119]
   exact ⟨_, _, bX _ _, rfl, sH⟩
  ·rw [decide_eq_false hz, List.take_of_length_le (by rw [eW]; exact Nat.le_refl _)]
   obtain ⟨g, hgl, hG⟩ := H1.guard ⟨k1, false⟩ kU (F := bK (bK (bK h' gm .gone) b (.row 2 (rowsOf eS.c S1.guards ++ [[.v (I k1), .v (.bool false)]]))) nb (cR p inp (S1.guard ⟨k1, false⟩) om1 (some b) (some w))) (aU _ _ _) (by rw [aC _ _ _ _ dU, aU, mS]; rfl) (fun n h1 h2 h3 => by rw [aC _ _ _ _ h1, aC _ _ _ _ h2, aC _ _ _ _ (fun q => h3 (by rw [q]))])
   unfold cR at hgl
   simp only [dV.guard, aQ, List.length_append, List.length_singleton] at hgl
   refine aJ.wk (aB.jA hgl) ?_
   have hgG := q1.guard (b := false) q3 (by omega)
   have heG := q2.trans (S1.nK ⟨k1, false⟩)
   rw [if_neg hz, aA.vC (show 2 < e.aM.length by omega)] at e2
   refine aJ.iF (fO.sub (hsub 2 (by omega)) (hv h0 g nb t1 e.aM[2] env (S1.guard ⟨k1, false⟩) funcs k S' t ⟨_, _, _, hG⟩ (by omega) (o0 _ (List.getElem_mem _)) fH hf hgG (fun x hx => (henv x hx).ext heG) (by omega) e2)) ?_
   rintro r h2 ⟨rfl, sH⟩
   simp -dsimp -implicitDefEqProofs only [go_sem, ↓reduceIte, Tryz.f119]
   exact ⟨_, _, bX _ _, rfl, sH⟩
set_option maxRecDepth 100000
open Go.Proofs
set_option linter.unusedVariables false
set_option linter.unusedSimpArgs false
@[go_sem] def aPS : List Nat := [0, 1, 2, 6, 7, 8, 9, 10, 18, 49, 67]
@[go_sem] def a2Y : List Nat := [11, 31]
@[go_sem] def a2Z : Marks := fun id => match id with | 6 => ([3], (.op 0 (.op 1 (.op 2 (.op 7 (.op 8 (.op 9 (.op 10 (.op 3 (.op 4 (.op 5 (.op 6 (.op 11 (.op 12 .nil))))))))))))), []) | 8 => ([11], (.op 0 (.op 1 (.op 2 (.op 3 (.op 4 (.op 5 (.op 6 (.op 7 (.op 8 (.op 9 (.op 10 (.op 11 (.op 12 .nil))))))))))))), []) | _ => ([], .nil, [])
def a71 (l : List Int) : Option Nat → aD
 |none => ints l
 |some m => .os m 1 0 l.length
theorem aMX (l : List Int) : a71 l none = ints l := rfl
theorem aMY (l : List Int) (m : Nat) : a71 l (some m) = .os m 1 0 l.length := rfl
theorem aU9 {f : List Int → Nat → dV → Out (List Int × dV)} {N : Nat} {vs : List Int} {t : Nat} {S : dV} {v : List Int × dV} {u : Nat} (h : r7 f N vs t S = .ok (v, u)) {k : Nat} (hk : k < N) {us : List Int} {S1 : dV} {t1 : Nat} (h1 : r7 f k vs t S = .ok ((us, S1), t1)) :
  ∃ l S2 t2, f us t1 S1 = .ok ((l, S2), t2) ∧ r7 f (k + 1) vs t S = .ok ((l, S2), t2) := by
 have h2 := yU f k vs t S
 rw [h1] at h2
 have h3 : r7 f (k + 1) vs t S = f us t1 S1 := h2
 cases hf : f us t1 S1 with
 |ok q => exact ⟨q.1.1, q.1.2, q.2, rfl, h3.trans hf⟩
 |error c =>
  have := aMP f (k + 1) (n := N) hk (h3.trans hf)
  rw [h] at this; cases this
theorem aSA {p : aI} (hp : p.ok) {inp : Int} {n : Nat} (hv : sA p inp n) {h0 h : aB} {nb st : Nat} {e : aA} {env : List Int} {S : dV} {funcs : Int} {k : Int} {S' : dV} {t : Nat} (hR : dT (cR p inp) h0 nb S h) (hst : st < 3000)
  (hok : e.ok p funcs env.length) (fH : 0 ≤ funcs) (hf : funcs ≤ p.aH.length) (hg : Good inp S st) (henv : ∀ x ∈ env, oV S x) (hel : env.length ≤ 412 + st) (hr : eT p (n + 1) st e env S = .ok ((k, S'), t)) (hk : e.a6 = 10 ∨ e.a6 = 11) :
  fO Tryz.prog 143 [.op nb 6 0 0, .ip 5 [e.c] 0 0, ints env] h fun r h' => r = I k ∧ dT (cR p inp) h0 nb S' h' := by
 have h3 : ¬ st = 3000 := by omega
 have l8 := hg.nH (Nat.le_succ st)
 obtain ⟨f, F⟩ := uD hp hok hf hk
 have hkl : e.aM.length ≤ 1048576 := by have := F.kids; have := F.params; omega
 have f1 := F.lo
 have f2 := F.hi
 have f3 := F.pk
 have f4 := F.pk2
 have f5 := F.kids
 have f6 := F.params
 have f8 := F.outs
 have o0 := fU hok (by omega)
 have hseq : ∃ vs S1 t1, mE (fun t e S => eT p n t e env S) e.aM (st + 1) S = .ok ((vs, S1), t1) := by
  rcases hk with hk | hk
  ·rw [aBF h3 hk] at hr
   obtain ⟨w, u, h1, _⟩ := hU hr
   exact ⟨w.1, w.2, u, h1⟩
  ·rw [aBG h3 hk] at hr
   obtain ⟨w, u, h1, _⟩ := hU hr
   exact ⟨w.1, w.2, u, h1⟩
 obtain ⟨ws, Sw, tw, zO⟩ := hseq
 obtain ⟨q1, q2, q3, q4⟩ := gH hp l8 (by omega) henv o0 hf _ _ zO
 simp only at q1 q2 q3
 have q5 := q4.2.2.1
 have q6 := q4.2.2.2
 rw [aA.aN]
 refine kO 81 aPS a2Y a2Z mix Tryz.func143 rfl (by kernel_rfl) (by simp) ?_
 simp -dsimp -implicitDefEqProofs only [go_sem, ↓reduceIte, Tryz.f143]
 refine ⟨by decide, ?_⟩
 refine cS (keep := aPS) (ib := a2Y) (mk := a2Z) mix (by kernel_rfl) (fun x : Nat × List Int × dV × Nat × aB × Option Nat => [(0, .op nb 6 0 0), (1, .ip 5 [e.c] 0 0), (2, ints env), (7, nO 1 x.2.1.length x.2.2.2.2.2), (8, I x.1)]) (fun x => dD x.2.2.2.2.1 (.row 1 ((x.2.1.map fun n => [I n]).map (List.map .v))) x.2.2.2.2.2) (fun x => x.1 ≤ e.aM.length ∧ x.2.1.length = x.1 ∧ mE (fun t e S => eT p n t e env S) (e.aM.take x.1) (st + 1) S = .ok ((x.2.1, x.2.2.1), x.2.2.2.1) ∧ dT (cR p inp) h0 nb x.2.2.1 x.2.2.2.2.1 ∧ lQ x.2.2.2.2.1 x.2.1 x.2.2.2.2.2) (fun x => e.aM.length - x.1) (0, [], S, st + 1, h, none) ⟨by simp [dA, cH, nO, aA.aN], aB.le_refl _, Nat.zero_le _, rfl, rfl, hR, rfl⟩ ?_
 rintro ⟨i, vs, S1, t1, g, o⟩ ⟨hi, hvl, hs, hR, hos⟩
 simp only at hi hvl hs hR hos ⊢
 rw [aA.aN]
 rcases Nat.lt_or_ge i e.aM.length with hlt | hge
 ·have ek : e.aM[i]? = some e.aM[i] := List.getElem?_eq_getElem hlt
  obtain ⟨j, S2, t2, hj, jX⟩ := mH zO hlt hs
  obtain ⟨b1, b2, b3, b4⟩ := gH hp (l := e.aM.take i) l8 (by omega) henv (fun x hx => o0 x (List.mem_of_mem_take hx)) hf _ _ hs
  simp only at b1 b2 b3
  have hsub : cD [.op nb 6 0 0, .ip 5 (e.aM.map aA.c) i 0, ints env] [.op nb 6 0 0, .ip 5 [e.aM[i].c] 0 0, ints env] := .cons (.refl _) (.cons (Sub.ip (bS hlt) (by simp)) (.cons (.refl _) .nil))
  cases o with
  |none =>
   rw [dB] at hos
   subst hos
   simp -dsimp -implicitDefEqProofs only [go_sem, ↓reduceIte, Tryz.f143, dN, aK, hlt, ek]
   refine fun _ => aJ.iF (fO.sub hsub (hv h0 g nb t1 e.aM[i] env S1 funcs j S2 t2 hR b4.2.2.2 (o0 _ (List.getElem_mem _)) fH hf b1 (fun x hx => (henv x hx).ext b2) (by have := b4.2.2.1; omega) hj)) ?_
   rintro r h' ⟨rfl, nL⟩
   simp -dsimp -implicitDefEqProofs only [go_sem, ↓reduceIte, Tryz.f143]
   refine ⟨Nat.zero_lt_one, Nat.zero_lt_one, Nat.zero_lt_one, fun b kU => ?_⟩
   refine ⟨(i + 1, [j], S2, t2, h', some b), ⟨rfl, by rw [IntWalk.i64_in _ (by omega)]; rfl⟩, aB.le_refl _, ⟨by omega, by simp only [List.length_nil] at hvl; subst hvl; rfl, jX, nL, kU⟩, by simp only; omega⟩
  |some m =>
   rw [cQ] at hos
   simp -dsimp -implicitDefEqProofs only [go_sem, ↓reduceIte, Tryz.f143, cI, aG, hlt, ek]
   refine fun _ => aJ.iF (fO.sub hsub (hv _ _ nb t1 e.aM[i] env S1 funcs j S2 t2 (hR.wO hos) b4.2.2.2 (o0 _ (List.getElem_mem _)) fH hf b1 (fun x hx => (henv x hx).ext b2) (by have := b4.2.2.1; omega) hj)) ?_
   rintro r h' ⟨rfl, nL⟩
   obtain ⟨g2, rfl, hg2, nL⟩ := nL.base (hR.none hos)
   simp -dsimp -implicitDefEqProofs only [go_sem, ↓reduceIte, Tryz.f143]
   refine ⟨Nat.zero_lt_one, Nat.zero_lt_one, Nat.zero_lt_one, Nat.le_refl _, by omega, by omega, fun b ⟨hbm, kU⟩ => ?_⟩
   have lF : ¬ b = m := hbm
   have v9 : ¬ m = b := Ne.symm lF
   have sJ : (b = m) = False := eq_false lF
   have sK : (m = b) = False := eq_false v9
   refine ⟨(i + 1, vs ++ [j], S2, t2, g2, some b), ⟨by rw [cI, List.length_append]; rfl, by rw [IntWalk.i64_in _ (by omega)]; rfl⟩, ?_, ⟨by omega, by rw [List.length_append, hvl]; rfl, jX, nL, kU⟩, by simp only; omega⟩
   simp only [aG]
   rw [← jN]
   exact qA hg2
 ·have hi' : i = e.aM.length := by omega
  subst hi'
  rw [List.take_length, zO] at hs
  obtain ⟨rfl, rfl⟩ := Prod.mk.inj (Prod.mk.inj (Except.ok.inj hs)).1
  obtain rfl := (Prod.mk.inj (Except.ok.inj hs)).2
  obtain ⟨om, og, ov, H⟩ := hR
  have hb := H.box
  unfold cR at hb
  have hR : dT (cR p inp) h0 nb Sw g := ⟨om, og, ov, H⟩
  have hsubp : ∀ x, cD [.op nb 6 0 0, .ip 5 (f.aZ.map aA.c) e.c9.toNat 0, x] [.op nb 6 0 0, .ip 5 [(p.out e.bQ e.c9).c] 0 0, x] := fun x => .cons (.refl _) (.cons (Sub.ip (by rw [List.getElem?_map, F.out]; rfl) (by simp)) (.cons (.refl _) .nil))
  rcases hk with hk | hk
  ·rw [aBF h3 hk, zO] at hr
   have hr' : eT p n tw (p.out e.bQ e.c9) ws Sw = .ok ((k, S'), t) := hr
   have hfin : ∀ {h1 g1 : aB}, dT (cR p inp) h1 nb Sw g1 → fO Tryz.prog 119 [.op nb 6 0 0, .ip 5 (f.aZ.map aA.c) e.c9.toNat 0, ints ws] g1 fun r h' => r = I k ∧ dT (cR p inp) h1 nb S' h' := fun sH =>
    fO.sub (hsubp _) (hv _ _ nb tw (p.out e.bQ e.c9) ws Sw e.bQ k S' t sH (by omega) (by rw [hvl, f5]; exact F.oks _ (List.mem_of_getElem? F.out)) f1 (by omega) q1 q3.2 (by omega) hr')
   cases o with
   |none =>
    rw [dB] at hos
    subst hos
    simp -dsimp -implicitDefEqProofs only [go_sem, ↓reduceIte, Tryz.f143, dN, aK, Nat.lt_irrefl, Int.lt_irrefl, hb, F.get, aV.aN, hk]
    refine fun _ => ⟨f1, f2, f3, by omega, ?_⟩
    refine aJ.iF (fO.sub (.cons (.refl _) (.cons (.refl _) (.cons (Sub.loose _ _ _) .nil))) (hfin hR)) ?_
    rintro r h' ⟨rfl, nL⟩
    simp -dsimp -implicitDefEqProofs only [go_sem, ↓reduceIte, Tryz.f143]
    exact ⟨_, _, bX _ _, rfl, nL⟩
   |some m =>
    rw [cQ] at hos
    have dR : ¬ nb = m := fun q => by rw [q, hos] at hb; cases hb
    have eJ : ¬ m = nb := Ne.symm dR
    have eH : (nb = m) = False := eq_false dR
    have eG : (m = nb) = False := eq_false eJ
    simp -dsimp -implicitDefEqProofs only [go_sem, ↓reduceIte, Tryz.f143, cI, aG, Nat.lt_irrefl, Int.lt_irrefl, hb, eH, eG, aC, F.get, aV.aN, hk]
    refine fun _ => ⟨f1, f2, f3, by omega, ?_⟩
    refine aJ.aHH (es := ws.map fun n => [I n]) rfl rfl dR (by simp) hos ?_
    refine fO.mono (hfin (hR.wO (o := .gone) hos)) ?_
    rintro r h2 ⟨rfl, sH⟩
    obtain ⟨g3, rfl, hg3, sH⟩ := sH.base (hR.none hos)
    simp -dsimp -implicitDefEqProofs only [go_sem, ↓reduceIte, Tryz.f143]
    exact ⟨_, g3, eA (aB.bD hg3 (aB.le_refl _)), rfl, sH⟩
  ·have f7 := F.loop hk
   rw [aBG h3 hk, zO] at hr
   obtain ⟨w0, u0, h9, hr⟩ := hU hr
   cases h9
   obtain ⟨w, u, hit, hr2⟩ := hU hr
   obtain ⟨e1, rfl⟩ := Prod.mk.inj (Except.ok.inj hr2)
   obtain ⟨rfl, rfl⟩ := Prod.mk.inj e1
   obtain ⟨us0, S'⟩ := w
   simp only at hit hr2 e1 ⊢
   have hfl : ∀ us t S2, Good inp S2 t → (us.length = f.aZ.length ∧ ∀ x ∈ us, oV S2 x) → t ≤ 3000 → yV (aEZ inp S2 t f.aZ.length) (mE (fun t e S => eT p n t e us S) (p.outs e.bQ) t S2) := fun us w S2 hg' hv' hw => by
    rw [F.eq]
    exact gH hp hg' hw hv'.2 (funcs := e.bQ) (fun x hx => by rw [hv'.1, f7.2.2]; exact F.oks x hx) (by omega)
   obtain ⟨m, rfl⟩ : ∃ m, o = some m := by
    cases o with
    |none => rw [dB] at hos; rw [hos] at hvl; simp at hvl; omega
    |some m => exact ⟨m, rfl⟩
   rw [cQ] at hos
   have dR : ¬ nb = m := fun q => by rw [q, hos] at hb; cases hb
   have eJ : ¬ m = nb := Ne.symm dR
   have eH : (nb = m) = False := eq_false dR
   have eG : (m = nb) = False := eq_false eJ
   simp -dsimp -implicitDefEqProofs only [go_sem, ↓reduceIte, Tryz.f143, cI, aG, Nat.lt_irrefl, Int.lt_irrefl, hb, eH, eG, aC, F.get, aV.aN, hk]
   refine fun _ => ⟨f1, f2, ?_⟩
   refine cS (keep := aPS) (ib := a2Y) (mk := a2Z) mix (by kernel_rfl) (fun x : Nat × List Int × dV × Nat × aB × Option Nat => [(0, .op nb 6 0 0), (1, .ip 5 [e.c] 0 0), (7, a71 x.2.1 x.2.2.2.2.2), (9, .ip 3 (p.aH.map aV.c) e.bQ.toNat 0), (10, I x.1)]) (fun x => dD x.2.2.2.2.1 (.row 1 ((x.2.1.map fun n => [I n]).map (List.map .v))) x.2.2.2.2.2) (fun x => x.1 ≤ e.cU.toNat ∧ x.2.1.length = f.aZ.length ∧ r7 (fun vs t S => mE (fun t e S => eT p n t e vs S) (p.outs e.bQ) t S) x.1 ws tw Sw = .ok ((x.2.1, x.2.2.1), x.2.2.2.1) ∧ dT (cR p inp) h0 nb x.2.2.1 x.2.2.2.2.1 ∧ ∀ q, x.2.2.2.2.2 = some q → x.2.2.2.2.1 q = none) (fun x => e.cU.toNat - x.1) (0, ws, Sw, tw, g, some m) ⟨by simp [dA, cH, a71, aA.aN, hvl, hk], aB.le_refl _, Nat.zero_le _, by simp only; omega, rfl, hR, fun q e => by cases e; exact hos⟩ ?_
   clear hR hos H hb
   rintro ⟨i, us, S2, t2, g, o⟩ ⟨hi, hul, hs, hR, hos⟩
   simp only at hi hul hs hR hos ⊢
   obtain ⟨w1, w2, w3, w4⟩ := aA2 hfl i ws tw Sw q1 ⟨by omega, q3.2⟩ q6 _ _ hs
   simp only at w1 w2 w3
   rw [aA.aN]
   rcases Nat.lt_or_ge i e.cU.toNat with hlt | hge
   ·obtain ⟨l2, S3, t3, hf3, wR⟩ := aU9 hit hlt hs
    rw [F.eq] at hf3
    have hou : ∀ {h1 g1 : aB}, dT (cR p inp) h1 nb S2 g1 → fO Tryz.prog 103 [.op nb 6 0 0, .ip 3 (p.aH.map aV.c) e.bQ.toNat 0, ints us] g1 fun r h' => r = ints l2 ∧ dT (cR p inp) h1 nb S3 h' := fun sH =>
     fO.sub (.cons (.refl _) (.cons (Sub.ip (by rw [List.getElem?_map, F.get]; rfl) (by simp)) (.cons (.refl _) .nil))) (aR9 hp hv _ _ nb t2 f us S2 e.bQ l2 S3 t3 sH w4.2.2.2 (by omega) (by rw [hul, f7.2.2]; exact F.oks) f1 (by omega) w1 w3.2 (by omega) hf3)
    obtain ⟨v1, v2, v3, v4⟩ := hfl us t2 S2 w1 w3 w4.2.2.2 (l2, S3) t3 (by rw [F.eq]; exact hf3)
    simp only at v3
    cases o with
    |none =>
     simp -dsimp -implicitDefEqProofs only [go_sem, ↓reduceIte, Tryz.f143, aMX, aK]
     refine ⟨fun hq => aJ.iF (hou hR) ?_, fun hq => by omega⟩
     rintro r h' ⟨rfl, nL⟩
     simp -dsimp -implicitDefEqProofs only [go_sem, ↓reduceIte, Tryz.f143]
     exact ⟨(i + 1, l2, S3, t3, h', none), ⟨rfl, by rw [IntWalk.i64_in _ (by omega)]; rfl⟩, aB.le_refl _, ⟨by omega, v3.1, wR, nL, fun q e => by cases e⟩, by simp only; omega⟩
    |some b =>
     have kU := hos b rfl
     have iI : ¬ nb = b := fun q => by obtain ⟨_, _, _, H2⟩ := hR; have := H2.box; rw [q, kU] at this; cases this
     have dU : ¬ b = nb := Ne.symm iI
     have iH : (nb = b) = False := eq_false iI
     have iG : (b = nb) = False := eq_false dU
     simp -dsimp -implicitDefEqProofs only [go_sem, ↓reduceIte, Tryz.f143, aMY, aG]
     refine ⟨fun hq => aJ.aHH (es := us.map fun n => [I n]) rfl rfl iI (by simp) kU ?_, fun hq => by omega⟩
     refine fO.mono (hou (hR.wO (o := .gone) kU)) ?_
     rintro r h2 ⟨rfl, sH⟩
     obtain ⟨g3, rfl, hg3, sH⟩ := sH.base (hR.none kU)
     simp -dsimp -implicitDefEqProofs only [go_sem, ↓reduceIte, Tryz.f143]
     exact ⟨(i + 1, l2, S3, t3, g3, none), ⟨rfl, by rw [IntWalk.i64_in _ (by omega)]; rfl⟩, aB.bD hg3 (aB.le_refl _), ⟨by omega, v3.1, wR, sH, fun q e => by cases e⟩, by simp only; omega⟩
   ·have hi' : i = e.cU.toNat := by omega
    subst hi'
    rw [hit] at hs
    obtain ⟨rfl, rfl⟩ := Prod.mk.inj (Prod.mk.inj (Except.ok.inj hs)).1
    have gp : us0[e.c9.toNat]? = some (us0.getD e.c9.toNat 0) := eZ (by omega)
    cases o with
    |none =>
     simp -dsimp -implicitDefEqProofs only [go_sem, ↓reduceIte, Tryz.f143, aMX, aK, gp]
     exact ⟨fun q => by omega, fun _ => ⟨f3, by omega, _, _, bX _ _, rfl, hR⟩⟩
    |some b =>
     have kU := hos b rfl
     simp -dsimp -implicitDefEqProofs only [go_sem, ↓reduceIte, Tryz.f143, aMY, aG, gp]
     exact ⟨fun q => by omega, fun _ => ⟨f3, by omega, _, _, eA (aB.bD kU (aB.le_refl _)), rfl, hR⟩⟩
set_option maxRecDepth 100000
open Go.Proofs
set_option linter.unusedVariables false
set_option linter.unusedSimpArgs false
theorem a20 {p : aI} (hp : p.ok) {inp : Int} {n : Nat} (hv : sA p inp n) {h0 h : aB} {nb st : Nat} {e : aA} {env : List Int} {S : dV} {funcs : Int} {k : Int} {S' : dV} {t : Nat} (hR : dT (cR p inp) h0 nb S h) (hst : st < 3000)
  (hok : e.ok p funcs env.length) (fH : 0 ≤ funcs) (hf : funcs ≤ p.aH.length) (hg : Good inp S st) (henv : ∀ x ∈ env, oV S x) (hel : env.length ≤ 412 + st) (hr : eT p (n + 1) st e env S = .ok ((k, S'), t)) (hk : e.a6 = 10) :
  fO Tryz.prog 119 [.op nb 6 0 0, .ip 5 [e.c] 0 0, ints env] h fun r h' => r = I k ∧ dT (cR p inp) h0 nb S' h' := by
 rw [aA.aN]
 have hnode := (aA.eP _ _ _ _).1 hok
 have h3 : ¬ st = 3000 := by omega
 have hcap := hg.cap
 have hgcap := hg.rK
 have l8 := hg.nH (Nat.le_succ st)
 have hc := aSA hp hv hR hst hok fH hf hg henv hel hr (Or.inl hk)
 rw [aA.aN, hk] at hc
 refine kO 183 r9 aA6 aA7 mix Tryz.func119 rfl (by kernel_rfl) (by simp) ?_
 simp -dsimp -implicitDefEqProofs only [go_sem, ↓reduceIte, Tryz.f119, hk]
 refine aJ.iF hc ?_
 rintro r h' ⟨rfl, nL⟩
 simp -dsimp -implicitDefEqProofs only [go_sem, ↓reduceIte, Tryz.f119]
 exact ⟨_, _, bX _ _, rfl, nL⟩
theorem a21 {p : aI} (hp : p.ok) {inp : Int} {n : Nat} (hv : sA p inp n) {h0 h : aB} {nb st : Nat} {e : aA} {env : List Int} {S : dV} {funcs : Int} {k : Int} {S' : dV} {t : Nat} (hR : dT (cR p inp) h0 nb S h) (hst : st < 3000)
  (hok : e.ok p funcs env.length) (fH : 0 ≤ funcs) (hf : funcs ≤ p.aH.length) (hg : Good inp S st) (henv : ∀ x ∈ env, oV S x) (hel : env.length ≤ 412 + st) (hr : eT p (n + 1) st e env S = .ok ((k, S'), t)) (hk : e.a6 = 11) :
  fO Tryz.prog 119 [.op nb 6 0 0, .ip 5 [e.c] 0 0, ints env] h fun r h' => r = I k ∧ dT (cR p inp) h0 nb S' h' := by
 rw [aA.aN]
 have hnode := (aA.eP _ _ _ _).1 hok
 have h3 : ¬ st = 3000 := by omega
 have hcap := hg.cap
 have hgcap := hg.rK
 have l8 := hg.nH (Nat.le_succ st)
 have hc := aSA hp hv hR hst hok fH hf hg henv hel hr (Or.inr hk)
 rw [aA.aN, hk] at hc
 refine kO 183 r9 aA6 aA7 mix Tryz.func119 rfl (by kernel_rfl) (by simp) ?_
 simp -dsimp -implicitDefEqProofs only [go_sem, ↓reduceIte, Tryz.f119, hk]
 refine aJ.iF hc ?_
 rintro r h' ⟨rfl, nL⟩
 simp -dsimp -implicitDefEqProofs only [go_sem, ↓reduceIte, Tryz.f119]
 exact ⟨_, _, bX _ _, rfl, nL⟩
theorem bAV {p : aI} (hp : p.ok) {inp : Int} : ∀ n, sA p inp n
 |0 => fun h0 h nb st e env S funcs k S' t hR hst hok fH hf hg henv hel hr => by rw [eT] at hr; cases hr
 |n + 1 => fun h0 h nb st e env S funcs k S' t hR hst hok fH hf hg henv hel hr => by
  have hv := bAV hp (inp := inp) n
  by_cases h3 : st = 3000
  ·rw [eT, if_pos h3] at hr; cases hr
  have h3' : st < 3000 := by omega
  rcases xC ((aA.eP _ _ _ _).1 hok).1 with hk | hk | hk | hk | hk | hk | hk | hk | hk | hk | hk
  ·exact a7S hp hv hR h3' hok fH hf hg henv hel hr hk
  ·exact a7T hp hv hR h3' hok fH hf hg henv hel hr hk
  ·exact a7W hp hv hR h3' hok fH hf hg henv hel hr hk
  ·exact a7X hp hv hR h3' hok fH hf hg henv hel hr hk
  ·exact a7Y hp hv hR h3' hok fH hf hg henv hel hr hk
  ·exact a7Z hp hv hR h3' hok fH hf hg henv hel hr hk
  ·exact a7V hp hv hR h3' hok fH hf hg henv hel hr hk
  ·exact a70 hp hv hR h3' hok fH hf hg henv hel hr hk
  ·exact a7U hp hv hR h3' hok fH hf hg henv hel hr hk
  ·exact a20 hp hv hR h3' hok fH hf hg henv hel hr hk
  ·exact a21 hp hv hR h3' hok fH hf hg henv hel hr hk
end Go.Hl

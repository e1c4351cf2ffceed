/-
  Contracts of functions and laws of the layer over the walk.
-/
import Derived.Test.YtgkipnacdihfnaaGreatVvD
import Derived.Test.YtgkipnacdihfnaaGreatVvB
import Derived.Test.YtgkipnacdihfnaaGreatHlD
namespace Go.Hl
set_option maxRecDepth 100000
open Go.Proofs
set_option linter.unusedVariables false
set_option linter.unusedSimpArgs false
@[go_sem] def aLV : List Nat := [0, 1, 2, 6, 7, 8, 10, 11, 12, 13, 14, 15, 28, 42, 60, 79]
@[go_sem] def a3I : List Nat := [32, 33, 45, 75, 80]
@[go_sem] def a3J : Marks := fun id => match id with | 15 => ([5, 13, 15], (.op 0 (.op 1 (.op 2 (.op 3 (.op 4 (.op 6 (.op 7 (.op 8 (.op 9 (.op 10 (.op 11 (.op 12 (.op 5 (.op 13 (.op 14 (.op 15 .nil)))))))))))))))), []) | _ => ([], .nil, [])
theorem aO9 {p : aE} (hp : p.ok) (f : Int) (hf : 0 ≤ f ∧ f < p.aI.length) (args : List Int) (hal : args.length ≤ 12) (na : eD args) (hl : ∀ F, p.aI[f.toNat]? = some F → (args.length : Int) = F.aW) {vs : List (List Int)} {t : Nat} (hok : vC p 1 f (args.map fun n => [n]) = .ok (vs, t)) :
  x9 Tryz.prog 97 [.ip 1 [p.c] 0 0, I f, ints args] (QS (OS (oL I) 1 (sC (jQ p f args) (p.outs f).length args.length 0)) (fun y => .iI [y, I 0])) := by
 obtain ⟨F, ef, hF1, hF2, hF3, hF4⟩ := kR hp hf
 have hm : 1 ≤ (p.outs f).length ∧ (p.outs f).length ≤ 12 := by rw [hF3]; exact hF1
 have hse := aCF hp (sz := 1) (by decide) f hf (args.map fun n => [n]) (fun s hs => by
  obtain ⟨n, hn, rfl⟩ := List.mem_map.1 hs
  refine ⟨rfl, fun x hx => ?_⟩
  rw [List.mem_singleton.1 hx]
  exact na n hn) (fun F hF => by rw [List.length_map]; exact hl F hF) vs t hok
 have hvM := hse.1
 generalize hM : (p.outs f).length = M at *
 have qT := aTO hp f hf args na hal hl
 rw [hok, show aHU (.ok (vs, t)) = (vs.map (·.getD 0 0), (t : Int), 0) from rfl, aE.aU] at qT
 rw [aE.aU]
 refine yA 83 aLV a3I a3J mix Tryz.func97 rfl (by kernel_rfl) (by simp) fun h => ?_
 simp -dsimp -implicitDefEqProofs only [go_sem, ↓reduceIte, Tryz.f97]
 refine aH.mk qT ?_
 simp -dsimp -implicitDefEqProofs only [go_sem, ↓reduceIte, Tryz.f97]
 refine ⟨Nat.zero_lt_one, fun n0_ hn0 => ?_⟩
 refine cS (keep := aLV) (ib := a3I) (mk := a3J) mix (by kernel_rfl) (fun x : Nat × Nat => [(0, .ip 1 [[eZ 3 aT.c p.aI]] 0 0), (1, I f), (2, ints args), (8, ints (vs.map fun s => s.getD 0 0)), (10, I 0), (11, .os x.2 1 0 x.1), (12, I x.1)]) (fun x => aR h x.2 (.row 1 (List.replicate x.1 [Cell.v (.sl 1 [] true)]))) (fun x => x.1 ≤ M ∧ h x.2 = none) (fun x => M - x.1) (0, n0_) ⟨by simp [cV, bZ], aB.le_refl _, Nat.zero_le _, hn0⟩ ?_
 rintro ⟨k, b⟩ ⟨hk, hb⟩
 simp only at hk hb ⊢
 rcases Nat.lt_or_ge k M with hlt | hge
 ·simp -dsimp -implicitDefEqProofs only [go_sem, ↓reduceIte, Tryz.f97, hlt, List.length_replicate, hvM]
  intro _
  refine ⟨Nat.zero_lt_one, Nat.zero_lt_one, Nat.zero_lt_one, Nat.zero_lt_one, Nat.le_refl _, by omega, by omega, fun b2 vK => ⟨(k + 1, b2), ⟨rfl, by rw [IntWalk.i64_in _ (by omega)]; rfl⟩, ?_, ⟨by omega, vK.2⟩, by simp only; omega⟩⟩
  rw [List.take_of_length_le (by rw [List.length_replicate]; exact Nat.le_refl _), ← List.replicate_succ']
  exact kU hb
 have hk' : k = M := by omega
 subst hk'
 simp -dsimp -implicitDefEqProofs only [go_sem, ↓reduceIte, Tryz.f97, Nat.lt_irrefl, Int.lt_irrefl, hvM]
 intro _
 have hcell : List.replicate k [Cell.v (.sl 1 [] true)] = OV.cells (List.replicate k [OV.nil 1]) := by simp [OV.cells, OV.val]
 rw [hcell]
 generalize hS : jQ p f args = S at *
 refine cS (keep := aLV) (ib := a3I) (mk := a3J) mix (by kernel_rfl) (fun x : Nat × List (List OV) × aB => [(0, .ip 1 [[eZ 3 aT.c p.aI]] 0 0), (1, I f), (2, ints args), (10, I 0), (11, .os b 1 0 k), (13, I x.1)]) (fun x => x.2.2) (fun x => x.1 ≤ args.length ∧ OR (oL I) (sC S k x.1 0) x.2.1 ∧ eU h (OV.bT [OV.sl b 1 x.2.1]) x.2.2) (fun x => args.length - x.1) (0, List.replicate k [OV.nil 1], aR h b (.row 1 (OV.cells (List.replicate k [OV.nil 1])))) ⟨by simp [cV, bZ], aB.le_refl _, Nat.zero_le _, by simp only; rw [aJP]; exact OR.a8P ⟨_, rfl, OS.nil⟩ _, ?_⟩ ?_
 ·simp only
  rw [OV.dQ, OV.hU, List.append_nil, OV.iJ]
  rw [vF]
  exact eU.one hb
 rintro ⟨i, es, g⟩ ⟨hi, hes, hnw⟩
 simp only at hi hes hnw ⊢
 have hgb : g b = some (.row 1 (OV.cells es)) := hnw.aSN []
 have hel : es.length = k := by rw [← hes.length, tM]
 rcases Nat.lt_or_ge i args.length with hlt | hge
 ·have hun : eD (gF args.length i) := fun x hx => by
   rcases List.mem_or_eq_of_mem_set hx with hx | rfl
   ·rw [(List.mem_replicate.1 hx).2]; exact jD
   ·unfold jA; omega
  obtain ⟨us, hu1, hu2, hu3⟩ := aLR hp hf (dir := gF args.length i) (by simp [gF]) na hun hl hok
  have hdi := aQ6 hp f hf args (gF args.length i) (by simp [gF]) (by omega) na hun hl
  have hSi : S i = us.map fun s => s.getD 1 0 := by rw [← hS, jQ, hu1]; rfl
  rw [hu1, aE.aU] at hdi
  have hul : us.length = k := by rw [hu2]; exact hM
  simp -dsimp -implicitDefEqProofs only [go_sem, ↓reduceIte, Tryz.f97, hlt]
  intro _
  refine ⟨Nat.zero_lt_one, fun _ => ?_⟩
  first | refine aH.mk (aFU args.length i (by omega) hlt) ?_ | refine aF.mk (aFU args.length i (by omega) hlt) ?_ | refine aH.bS (aFU args.length i (by omega) hlt) ?_ | refine aF.mk (bM.eQ (aFU args.length i (by omega) hlt)) ?_
  simp -dsimp -implicitDefEqProofs only [go_sem, ↓reduceIte, Tryz.f97]
  refine aH.mk hdi ?_
  simp -dsimp -implicitDefEqProofs only [go_sem, ↓reduceIte, Tryz.f97]
  refine cS (keep := aLV) (ib := a3I) (mk := a3J) mix (by kernel_rfl) (fun x : Nat × List (List OV) × aB => [(0, .ip 1 [[eZ 3 aT.c p.aI]] 0 0), (1, I f), (2, ints args), (10, I 0), (11, .os b 1 0 k), (13, I i), (14, c7 us), (15, I x.1)]) (fun x => x.2.2) (fun x => x.1 ≤ k ∧ OR (oL I) (sC S k i x.1) x.2.1 ∧ eU h (OV.bT [OV.sl b 1 x.2.1]) x.2.2) (fun x => k - x.1) (0, es, g) ⟨by simp [cV, bZ], aB.le_refl _, Nat.zero_le _, hes, hnw⟩ ?_
  rintro ⟨j, es, g⟩ ⟨hj, hes, hnw⟩
  simp only at hj hes hnw ⊢
  have hgb : g b = some (.row 1 (OV.cells es)) := hnw.aSN []
  have hel : es.length = k := by rw [← hes.length, tM]
  rcases Nat.lt_or_ge j k with kJ | aE6
  ·have eu : us[j]? = some us[j] := List.getElem?_eq_getElem (by omega)
   have h0 := hu3 _ (List.getElem_mem (by omega : j < us.length))
   have h0l := h0.1
   have e1 : (us[j])[Int.toNat 1]? = some (us[j].getD 1 0) := dS (by rw [h0.1]; decide)
   have eS : us[j].getD 1 0 = (S i).getD j 0 := by
    rw [hSi]; simp [List.getD_eq_getElem?_getD, List.getElem?_map, eu]
   rw [eS] at e1
   obtain ⟨e, he, y, rfl, hy⟩ := hes.a1U j _ (wA S kJ)
   have hcg := aDW he
   have hyl : ((List.range i).map fun n => (S n).getD j 0).length = i := by simp
   rcases hy.aOJ with ⟨rfl, h0⟩ | ⟨n, rfl⟩
   ·simp -dsimp -implicitDefEqProofs only [go_sem, ↓reduceIte, Tryz.f97, kJ, eu, e1, hgb, hcg, OV.aKV, cA, hel, hul]
    intro _
    refine ⟨by omega, Nat.zero_lt_one, Nat.zero_lt_one, Nat.zero_lt_one, fun m hm => ?_⟩
    have lC : ¬ m = b := fun e => by rw [e, hgb] at hm; cases hm
    have fJ : ¬ b = m := Ne.symm lC
    have kG : (m = b) = False := eq_false lC
    have kF : (b = m) = False := eq_false fJ
    simp -dsimp -implicitDefEqProofs only [go_sem, ↓reduceIte, Tryz.f97, aA, kG, kF, hgb, cA, hel, kJ, hcg]
    obtain ⟨g3, w1, w2⟩ := hnw.aTI (c := I) (x := (S i).getD j 0) (F := aR (aR g m (.row 1 [[.v (I ((S i).getD j 0))]])) b (.row 1 ((OV.cells es).set j [.v (.os m 1 0 1)]))) he hy hm (fun q _ => by rw [h0]; rfl)
    refine ⟨(j + 1, _, g3), by rw [IntWalk.i64_in _ (by omega)]; rfl, w1, ⟨by omega, ?_, w2⟩, by simp only; omega⟩
    simp only
    rw [aCL S kJ]
    exact hes.set j _ _ ⟨_, rfl, OS.mk (uZ _)⟩
   ·obtain ⟨hgn, nP⟩ := hnw.a6Y he
    have kI : (n = b) = False := eq_false nP
    have kH : (b = n) = False := eq_false (Ne.symm nP)
    simp -dsimp -implicitDefEqProofs only [go_sem, ↓reduceIte, Tryz.f97, kJ, eu, e1, hgb, hcg, OV.vW, cA, hel, hgn, hul]
    rw [List.length_range]
    intro _
    refine ⟨by omega, Nat.zero_lt_one, Nat.zero_lt_one, Nat.zero_lt_one, Nat.le_refl _, by omega, by omega, fun m hm => ?_⟩
    have lC : ¬ m = b := fun e => by rw [e, hgb] at hm; cases hm
    have fJ : ¬ b = m := Ne.symm lC
    have kG : (m = b) = False := eq_false lC
    have kF : (b = m) = False := eq_false fJ
    have uD : ¬ m = n := fun e => by rw [e, hgn] at hm; cases hm
    have aCK : ¬ n = m := Ne.symm uD
    have m7 : (m = n) = False := eq_false uD
    have m8 : (n = m) = False := eq_false aCK
    simp -dsimp -implicitDefEqProofs only [go_sem, ↓reduceIte, Tryz.f97, aA, kG, m7, kF, kH, m8, kI, hgb, cA, hel, kJ, hcg]
    have hgr := fI I ((List.range i).map fun n => (S n).getD j 0) ((S i).getD j 0)
    rw [hyl] at hgr
    rw [hgr]
    obtain ⟨g3, w1, w2⟩ := hnw.aTI (c := I) (x := (S i).getD j 0) (F := aR (aR (aR g n .gone) m (.row 1 (((((List.range i).map fun n => (S n).getD j 0) ++ [(S i).getD j 0]).map fun n => [I n]).map (List.map .v)))) b (.row 1 ((OV.cells es).set j [.v (.os m 1 0 (i + 1))]))) he hy hm (fun q hq => by
     rw [hyl]
     have hqn := hq n _ _ rfl
     simp only [c6, if_neg hqn])
    refine ⟨(j + 1, _, g3), by rw [IntWalk.i64_in _ (by omega)]; rfl, w1, ⟨by omega, ?_, w2⟩, by simp only; omega⟩
    simp only
    rw [aCL S kJ]
    exact hes.set j _ _ ⟨_, rfl, OS.mk (uZ _)⟩
  ·have hj' : j = k := by omega
   subst hj'
   simp -dsimp -implicitDefEqProofs only [go_sem, ↓reduceIte, Tryz.f97, Nat.lt_irrefl, Int.lt_irrefl, hul]
   intro _
   exact ⟨(i + 1, es, g), by rw [IntWalk.i64_in _ (by omega)]; rfl, aB.le_refl _, ⟨by omega, by simp only; rw [← aJQ]; exact hes, hnw⟩, by simp only; omega⟩
 ·have hi' : i = args.length := by omega
  subst hi'
  simp -dsimp -implicitDefEqProofs only [go_sem, ↓reduceIte, Tryz.f97, Nat.lt_irrefl, Int.lt_irrefl]
  intro _
  rw [OV.dQ, OV.hU, List.append_nil] at hnw
  exact ⟨_, g, _, bI _ _, ⟨OV.sl b 1 es, OS.mk hes, by rw [OV.vA, hel], rfl⟩, hnw⟩
set_option maxRecDepth 100000
open Go.Proofs
set_option linter.unusedVariables false
set_option linter.unusedSimpArgs false
@[go_sem] def a3K : List Nat := [0, 1, 4, 7, 16]
@[go_sem] def bHV : List Nat := []
@[go_sem] def bHW : Marks := fun _ => ([], .nil, [])
theorem aVH {p : aE} (hp : p.ok) (hps : p.s ≤ 4194304) (f : Int) (hf : 0 ≤ f ∧ f < p.aI.length) : fL Tryz.prog 161 [.ip 1 [p.c] 0 0, I f] (I 0) := by
 have hok := aXO p hps
 have hl := p.aEV
 rw [aE.aU] at hok ⊢
 refine fT 17 a3K bHV bHW mix Tryz.func161 rfl (by kernel_rfl) (by simp) fun h => ?_
 simp -dsimp -implicitDefEqProofs only [go_sem, ↓reduceIte, Tryz.f161]
 refine aH.mk hok ?_
 simp -dsimp -implicitDefEqProofs only [go_sem, ↓reduceIte, Tryz.f161, hp, decide_true]
 try (refine ⟨fun q => absurd q (by simp), fun _ => ?_⟩)
 intro _
 rw [IntWalk.i64_in _ (by omega)]
 first | refine aH.mk (eJ f 0 ((p.aI.length : Int) - 1)) ?_ | refine aF.mk (eJ f 0 ((p.aI.length : Int) - 1)) ?_ | refine aH.bS (eJ f 0 ((p.aI.length : Int) - 1)) ?_ | refine aF.mk (bM.eQ (eJ f 0 ((p.aI.length : Int) - 1))) ?_
 simp -dsimp -implicitDefEqProofs only [go_sem, ↓reduceIte, Tryz.f161]
 intro q; exact q ⟨hf.1, by omega⟩
@[go_sem] def a3L : List Nat := [0, 1, 2, 6, 7, 30]
@[go_sem] def bHX : List Nat := []
@[go_sem] def bHY : Marks := fun _ => ([], .nil, [])
theorem aYU {p : aE} (hp : p.ok) (hps : p.s ≤ 4194304) (f : Int) (hf : 0 ≤ f ∧ f < p.aI.length) (args : List Int) (na : eD args) (hal : args.length ≤ 12) (hl : ∀ F, p.aI[f.toNat]? = some F → (args.length : Int) = F.aW) : fL Tryz.prog 149 [.ip 1 [p.c] 0 0, I f, ints args] (I 0) := by
 obtain ⟨F, ef, hF1, hF2, hF3, hF4⟩ := kR hp hf
 have hlF := hl F ef
 have hok := aVH hp hps f hf
 rw [aE.aU] at hok ⊢
 refine fT 32 a3L bHX bHY mix Tryz.func149 rfl (by kernel_rfl) (by simp) fun h => ?_
 simp -dsimp -implicitDefEqProofs only [go_sem, ↓reduceIte, Tryz.f149]
 refine aH.mk hok ?_
 simp -dsimp -implicitDefEqProofs only [go_sem, ↓reduceIte, Tryz.f149, ef, aT.aU]
 intro _
 refine ⟨hf.1, hf.2, fun _ => ?_, fun q => q hlF⟩
 first | refine aH.mk (gH args) ?_ | refine aF.mk (gH args) ?_ | refine aH.bS (gH args) ?_ | refine aF.mk (bM.eQ (gH args)) ?_
 simp -dsimp -implicitDefEqProofs only [go_sem, ↓reduceIte, Tryz.f149]
 intro q; exact q na
@[go_sem] def a3M : List Nat := [0, 1, 2, 3, 8, 9, 27]
@[go_sem] def bHZ : List Nat := []
@[go_sem] def bH0 : Marks := fun _ => ([], .nil, [])
theorem aVI {p : aE} (hp : p.ok) (hps : p.s ≤ 4194304) (f : Int) (hf : 0 ≤ f ∧ f < p.aI.length) (args : List Int) (na : eD args) (hal : args.length ≤ 12) (hl : ∀ F, p.aI[f.toNat]? = some F → (args.length : Int) = F.aW) : fL Tryz.prog 120 [.ip 1 [p.c] 0 0, I f, ints args, ints args] (I 0) := by
 have hok := aYU hp hps f hf args na hal hl
 rw [aE.aU] at hok ⊢
 refine fT 29 a3M bHZ bH0 mix Tryz.func120 rfl (by kernel_rfl) (by simp) fun h => ?_
 simp -dsimp -implicitDefEqProofs only [go_sem, ↓reduceIte, Tryz.f120]
 refine aH.mk hok ?_
 simp -dsimp -implicitDefEqProofs only [go_sem, ↓reduceIte, Tryz.f120]
 intro _ _
 first | refine aH.mk (gH args) ?_ | refine aF.mk (gH args) ?_ | refine aH.bS (gH args) ?_ | refine aF.mk (bM.eQ (gH args)) ?_
 simp -dsimp -implicitDefEqProofs only [go_sem, ↓reduceIte, Tryz.f120]
 intro q; exact q na
@[go_sem] def bAD : List Nat := [0, 1, 2, 3, 4, 10, 11, 33]
@[go_sem] def bOT : List Nat := []
@[go_sem] def bOU : Marks := fun _ => ([], .nil, [])
theorem aQ7 {p : aE} (hp : p.ok) (hps : p.s ≤ 4194304) (f : Int) (hf : 0 ≤ f ∧ f < p.aI.length) (args : List Int) (na : eD args) (hal : args.length ≤ 12) (hl : ∀ F, p.aI[f.toNat]? = some F → (args.length : Int) = F.aW) : fL Tryz.prog 96 [.ip 1 [p.c] 0 0, I f, I 0, ints args, ints args] (I 0) := by
 obtain ⟨F, ef, hF1, hF2, hF3, hF4⟩ := kR hp hf
 have hok := aVI hp hps f hf args na hal hl
 rw [aE.aU] at hok ⊢
 refine fT 35 bAD bOT bOU mix Tryz.func96 rfl (by kernel_rfl) (by simp) fun h => ?_
 simp -dsimp -implicitDefEqProofs only [go_sem, ↓reduceIte, Tryz.f96]
 refine aH.mk hok ?_
 simp -dsimp -implicitDefEqProofs only [go_sem, ↓reduceIte, Tryz.f96, ef, aT.aU]
 refine ⟨hf.1, hf.2, fun _ => ?_⟩
 rw [IntWalk.i64_in _ (by omega)]
 first | refine aH.mk (eJ 0 0 ((F.aQ.length : Int) - 1)) ?_ | refine aF.mk (eJ 0 0 ((F.aQ.length : Int) - 1)) ?_ | refine aH.bS (eJ 0 0 ((F.aQ.length : Int) - 1)) ?_ | refine aF.mk (bM.eQ (eJ 0 0 ((F.aQ.length : Int) - 1))) ?_
 simp -dsimp -implicitDefEqProofs only [go_sem, ↓reduceIte, Tryz.f96]
 intro q; exact q (by omega)
def aCN (p : aE) (f : Int) (args : List Int) : List Int := (sC (jQ p f args) (p.outs f).length args.length 0).getD 0 []
@[go_sem] def bAE : List Nat := [0, 1, 2, 3, 4, 8, 9, 10, 11, 12, 19, 29]
@[go_sem] def bOV : List Nat := [4, 20, 30]
@[go_sem] def bOW : Marks := fun _ => ([], .nil, [])
theorem aPA {p : aE} (hp : p.ok) (hps : p.s ≤ 4194304) (f : Int) (hf : 0 ≤ f ∧ f < p.aI.length) (args : List Int) (na : eD args) (hal : args.length ≤ 12) (hl : ∀ F, p.aI[f.toNat]? = some F → (args.length : Int) = F.aW) {vs : List (List Int)} {t : Nat} (hok : vC p 1 f (args.map fun n => [n]) = .ok (vs, t)) :
  fL Tryz.prog 70 [.agg p.c, I f, I 0, ints args] (.iI [ints (aCN p f args), I 0]) := by
 have hpk := aQ7 hp hps f hf args na hal hl
 have hjac := QS.aQV (aO9 hp f hf args hal na hl hok) (fun y hy => OS.qW (c := fun s => [ints s]) (fun _ _ q => aYO q) hy) (vU [] [I 0])
 obtain ⟨F, ef, hF1, hF2, hF3, hF4⟩ := kR hp hf
 have hJl := tM (jQ p f args) (p.outs f).length args.length 0
 rw [aCN]
 generalize sC (jQ p f args) (p.outs f).length args.length 0 = J at *
 have gJ : J[Int.toNat 0]? = some (J.getD 0 []) := iP (by rw [hJl, hF3]; omega)
 rw [aE.aU] at hpk hjac ⊢
 refine fT 36 bAE bOV bOW mix Tryz.func70 rfl (by kernel_rfl) (by simp) fun h => ?_
 simp -dsimp -implicitDefEqProofs only [go_sem, ↓reduceIte, Tryz.f70]
 refine aH.mk hpk ?_
 simp -dsimp -implicitDefEqProofs only [go_sem, ↓reduceIte, Tryz.f70]
 refine aH.mk hjac ?_
 simp -dsimp -implicitDefEqProofs only [go_sem, ↓reduceIte, Tryz.f70, gJ]
 rw [hJl, hF3]
 omega
@[go_sem] def bAF : List Nat := [0, 1, 4, 5, 6, 8, 9, 37]
@[go_sem] def bOX : List Nat := [39]
@[go_sem] def bOY : Marks := fun id => match id with | 1 => ([11], (.op 0 (.op 1 (.op 2 (.op 3 (.op 4 (.op 5 (.op 6 (.op 7 (.op 8 (.op 9 (.op 10 (.op 11 (.op 12 .nil))))))))))))), []) | 2 => ([8], (.op 0 (.op 1 (.op 2 (.op 3 (.op 4 (.op 5 (.op 6 (.op 7 (.op 8 (.op 9 (.op 10 (.op 11 (.op 12 (.op 13 (.op 14 (.op 15 .nil)))))))))))))))), []) | 5 => ([9], (.op 0 (.op 1 (.op 2 (.op 3 (.op 4 (.op 5 (.op 6 (.op 7 (.op 8 (.op 9 (.op 10 (.op 11 (.op 12 (.op 13 (.op 14 .nil))))))))))))))), []) | 6 => ([9, 11], (.op 0 (.op 1 (.op 2 (.op 3 (.op 4 (.op 5 (.op 6 (.op 7 (.op 8 (.op 9 (.op 10 (.op 11 .nil)))))))))))), []) | _ => ([], .nil, [])
set_option maxHeartbeats 1000000 in
theorem aTR {j : eI} (hj : j.ok) (hps : j.aZ.s ≤ 4194304) {k : Nat} (hk : k < j.cB.length) : x9 Tryz.prog 34 [.ip 5 [j.c] 0 0, I k] (QA (gT j k).o) := by
 obtain ⟨t1, t2, t3, t4, t5, t6, t7, t8⟩ := pE hj hk
 obtain ⟨F, eF, hf, hF, ok⟩ := pT hj
 have hargs : fL Tryz.prog 60 [ints j.iN, ints (j.cB.getD k [])] (ints (cQ j k)) := a3C j.iN (j.cB.getD k []) (by omega) (by omega)
 have qT := aTO hj.1 j.cT hf (cQ j k) t2 t4 t3
 have hse := aCF hj.1 (sz := 1) (by decide) j.cT hf ((cQ j k).map fun n => [n]) (fun s hs => by
  obtain ⟨n, hn, rfl⟩ := List.mem_map.1 hs
  refine ⟨rfl, fun x hx => ?_⟩
  rw [List.mem_singleton.1 hx]
  exact t2 n hn) (fun F hF => by rw [List.length_map]; exact t3 F hF)
 have her := aCD j.aZ 1 j.cT ((cQ j k).map fun n => [n])
 have hgr := fun vs t => aPA (vs := vs) (t := t) hj.1 hps j.cT hf (cQ j k) t2 t4 t3
 rw [aE.aU] at qT
 simp only [aE.aU] at hgr
 simp only [eI.aU]
 refine yA 65 bAF bOX bOY mix Tryz.func34 rfl (by kernel_rfl) (by simp) fun h => ?_
 simp -dsimp -implicitDefEqProofs only [go_sem, ↓reduceIte, Tryz.f34, t1]
 intro n4 z4
 try simp -dsimp -implicitDefEqProofs only [go_sem, ↓reduceIte, Tryz.f34, t1]
 refine ⟨hk, ?_⟩
 refine aH.mk hargs ?_
 simp -dsimp -implicitDefEqProofs only [go_sem, ↓reduceIte, Tryz.f34]
 refine aH.mk (qT.sub (.cons (Sub.fO rfl rfl rfl) (.cons (.refl _) (.cons (.refl _) .nil)))) ?_
 simp -dsimp -implicitDefEqProofs only [go_sem, ↓reduceIte, Tryz.f34]
 cases hX : vC j.aZ 1 j.cT ((cQ j k).map fun n => [n]) with
 |error c =>
  have hc : ¬ c = 0 := by rcases her c hX with rfl | rfl <;> decide
  refine ⟨fun _ => ⟨Nat.zero_lt_one, ?_⟩, fun q => absurd q hc⟩
  have hp : gT j k = ⟨c, 0, []⟩ := by rw [gT, hX]
  rw [hp, aHU]
  exact vV (z := [I c, I 0, .sl 1 [] true]) ⟨[.v (I c), .v (I 0), .nil 1], ⟨_, rfl, OS.nil⟩, by simp [OV.dQ, OV.hU, OV.pD, OV.mJ], Sub.agg (.refl _)⟩ aSM (by repeat' (first | exact aB.le_refl _ | refine aB.hZ ?_ | refine aB.aY (by first | assumption | (rw [aA _ _ _ _ (by assumption)]; assumption) | (rw [aA _ _ _ _ (by assumption), aA _ _ _ _ (by assumption)]; assumption) | (rw [aA _ _ _ _ (by assumption), aA _ _ _ _ (by assumption), aA _ _ _ _ (by assumption)]; assumption)) ?_))
 |ok q =>
  obtain ⟨vs, t⟩ := q
  refine ⟨fun q => absurd rfl q, fun _ => ?_⟩
  have hv := hse vs t hX
  obtain ⟨F2, eF2, hO1, hO2, hO3, hO4⟩ := kR hj.1 hf
  have hp : gT j k = ⟨0, (vs.getD 0 []).getD 0 0, (aCN j.aZ j.cT (cQ j k)).take j.cE.toNat⟩ := by rw [gT, hX]; rfl
  rw [hp]
  have bOZ := hgr vs t hX
  have hl0 : 0 < (j.aZ.outs j.cT).length := by rw [hO3]; omega
  have hJ0 := wA (jQ j.aZ j.cT (cQ j k)) (m := (j.aZ.outs j.cT).length) (i := (cQ j k).length) (k := 0) hl0
  have hJ1 : (aCN j.aZ j.cT (cQ j k)).length = (cQ j k).length := by
   rw [aCN, List.getD_eq_getElem?_getD, hJ0]; simp
  generalize aCN j.aZ j.cT (cQ j k) = G at *
  refine aH.mk bOZ ?_
  have g0 : (vs.map fun s => s.getD 0 0)[Int.toNat 0]? = some ((vs.getD 0 []).getD 0 0) := by
   show (vs.map fun s => s.getD 0 0)[0]? = _
   rw [List.getElem?_map, iP (by rw [hv.1]; exact hl0)]; rfl
  rw [show aHU (.ok (vs, t)) = (vs.map (·.getD 0 0), (t : Int), 0) from rfl]
  simp -dsimp -implicitDefEqProofs only [go_sem, ↓reduceIte, Tryz.f34, g0]
  refine ⟨by rw [hv.1]; omega, ?_⟩
  simp only [Option.toArray, List.toList_toArray, List.nil_append, List.append_nil, List.filterMap_cons, List.filterMap_nil, List.elem_cons_self, beq_self_eq_true, if_true]
  simp -dsimp -implicitDefEqProofs only [go_sem, ↓reduceIte, Tryz.f34]
  refine ⟨t7, by rw [hJ1]; omega, ?_⟩
  rw [← List.map_take]
  refine aH.wn1 (aQ0 (G.take j.cE.toNat) (by rw [List.length_take]; omega)) z4 ?_
  rintro r l g ⟨y, oy, rfl, rfl⟩ wn z4
  simp -dsimp -implicitDefEqProofs only [go_sem, ↓reduceIte, Tryz.f34, oy.flat, oy.one]
  exact aB4 (e := [.v (I 0), .v (I ((vs.getD 0 []).getD 0 0)), y]) (by simp only [OV.eN, OV.b7, OV.jH]) ⟨y, rfl, oy⟩ (by rw [OV.dQ, OV.dQ, OV.dQ, OV.hU, OV.pD, OV.pD, List.append_nil]; exact wn) (by repeat' (first | exact aB.le_refl _ | refine aB.hZ ?_ | refine aB.aY (by first | assumption | (rw [aA _ _ _ _ (by assumption)]; assumption) | (rw [aA _ _ _ _ (by assumption), aA _ _ _ _ (by assumption)]; assumption) | (rw [aA _ _ _ _ (by assumption), aA _ _ _ _ (by assumption), aA _ _ _ _ (by assumption)]; assumption)) ?_))
@[go_sem] def bAG : List Nat := [0, 1, 2, 4, 5, 7, 11]
@[go_sem] def bO0 : List Nat := [2]
@[go_sem] def bO1 : Marks := fun _ => ([], .nil, [])
theorem aQ8 (j : eI) (k : Int) (hs : j.s ≤ 1048576) : x9 Tryz.prog 17 [.agg j.c, I k] (QA (l8 j k).1.o (fun y => .iI [y, I (l8 j k).2])) := by
 have hs' := j.tI
 simp only [kT] at hs'
 have hok := aXR j (by omega)
 have hhas := a3B j k (by omega)
 simp only [eI.aU] at hok hhas ⊢
 refine yA 15 bAG bO0 bO1 mix Tryz.func17 rfl (by kernel_rfl) (by simp) fun h => ?_
 simp -dsimp -implicitDefEqProofs only [go_sem, ↓reduceIte, Tryz.f17]
 intro n4 z4
 try simp -dsimp -implicitDefEqProofs only [go_sem, ↓reduceIte, Tryz.f17]
 first | refine aH.mk (hok) ?_ | refine aF.mk (hok) ?_ | refine aH.bS (hok) ?_ | refine aF.mk (bM.eQ (hok)) ?_
 simp -dsimp -implicitDefEqProofs only [go_sem, ↓reduceIte, Tryz.f17]
 refine ⟨fun hn => ?_, fun hy => ?_⟩
 ·have hn' : ¬ j.ok := by simpa using hn
  rw [aJR hn']
  try simp -dsimp -implicitDefEqProofs only [go_sem, ↓reduceIte, Tryz.f17, aK]
  exact vV (z := [I 0, I 0, .bH]) aFT (aB3 [] [_]) (by repeat' (first | exact aB.le_refl _ | refine aB.hZ ?_ | refine aB.aY (by first | assumption | (rw [aA _ _ _ _ (by assumption)]; assumption) | (rw [aA _ _ _ _ (by assumption), aA _ _ _ _ (by assumption)]; assumption) | (rw [aA _ _ _ _ (by assumption), aA _ _ _ _ (by assumption), aA _ _ _ _ (by assumption)]; assumption)) ?_))
 have hj : j.ok := by simpa using hy
 try simp -dsimp -implicitDefEqProofs only [go_sem, ↓reduceIte, Tryz.f17]
 first | refine aH.mk (hhas) ?_ | refine aF.mk (hhas) ?_ | refine aH.bS (hhas) ?_ | refine aF.mk (bM.eQ (hhas)) ?_
 simp -dsimp -implicitDefEqProofs only [go_sem, ↓reduceIte, Tryz.f17]
 refine ⟨fun ht => ?_, fun ht => ?_⟩
 ·rw [aJS hj ht]
  try simp -dsimp -implicitDefEqProofs only [go_sem, ↓reduceIte, Tryz.f17, aK]
  exact vV (z := [I 0, I 0, .bH]) aFT (aB3 [] [_]) (by repeat' (first | exact aB.le_refl _ | refine aB.hZ ?_ | refine aB.aY (by first | assumption | (rw [aA _ _ _ _ (by assumption)]; assumption) | (rw [aA _ _ _ _ (by assumption), aA _ _ _ _ (by assumption)]; assumption) | (rw [aA _ _ _ _ (by assumption), aA _ _ _ _ (by assumption), aA _ _ _ _ (by assumption)]; assumption)) ?_))
 have hk1 := ht.1
 have hk2 := ht.2
 have hkl : k.toNat < j.cB.length := by omega
 have hp := aTR hj (by omega) hkl
 rw [show ((k.toNat : Nat) : Int) = k by omega] at hp
 simp only [eI.aU] at hp
 rw [aA4 hj ht]
 refine aH.wn1 hp z4 ?_
 rintro r l g ⟨e, ⟨y, rfl, oy⟩, rfl, rfl⟩ wn z4
 simp -dsimp -implicitDefEqProofs only [go_sem, ↓reduceIte, Tryz.f17, OV.eN, OV.b7, OV.jH, oy.flat, oy.one]
 exact aB4 (e := [.v (I (gT j k.toNat).aS), .v (I (gT j k.toNat).kK), y]) (by simp only [OV.eN, OV.b7, OV.jH]) ⟨y, rfl, oy⟩ wn (by repeat' (first | exact aB.le_refl _ | refine aB.hZ ?_ | refine aB.aY (by first | assumption | (rw [aA _ _ _ _ (by assumption)]; assumption) | (rw [aA _ _ _ _ (by assumption), aA _ _ _ _ (by assumption)]; assumption) | (rw [aA _ _ _ _ (by assumption), aA _ _ _ _ (by assumption), aA _ _ _ _ (by assumption)]; assumption)) ?_))
open Go.Proofs
set_option linter.unusedVariables false
set_option linter.unusedSimpArgs false
theorem aYV (x y : aD) : Sub (.iI [x, .bH, y]) (.iI [x, .sl 1 [] true, y]) := Sub.iI (.cons (.refl _) (.cons (Sub.nil _ _) (.cons (.refl _) .nil)))
theorem aYW {R : Int → List OV → Prop} {h h' : aB} {a b : aD} (hl : h.le h') : ∃ r1 g l, Shift (.iI [a, .bH, b]) h' r1 g ∧ QS (OS R 1 []) (fun y => .iI [a, y, b]) r1 l ∧ eU h l g :=
 ⟨_, h, _, Shift.of (aYV _ _) hl, ⟨.nil 1, OS.nil, rfl, (OV.mJ 1).symm⟩, eU.nil h⟩
theorem aYX {R : Int → List OV → Prop} {h h' : aB} {a b : aD} (hl : h.le h') : ∃ r1 g l, Shift (.iI [a, .sl 1 [] true, b]) h' r1 g ∧ QS (OS R 1 []) (fun y => .iI [a, y, b]) r1 l ∧ eU h l g :=
 ⟨_, h, _, Shift.of (Sub.refl _) hl, ⟨.nil 1, OS.nil, rfl, (OV.mJ 1).symm⟩, eU.nil h⟩
set_option maxRecDepth 100000
open Go.Proofs
set_option linter.unusedVariables false
set_option linter.unusedSimpArgs false
theorem aQ9 {p : aE} (hp : p.ok) (f : Int) (hf : 0 ≤ f ∧ f < p.aI.length) (args : List Int) (na : eD args) (hl : ∀ F, p.aI[f.toNat]? = some F → (args.length : Int) = F.aW) (i : Nat) : eD (jQ p f args i) := by
 have hun : eD (gF args.length i) := fun x hx => by
  rcases List.mem_or_eq_of_mem_set hx with hx | rfl
  ·rw [(List.mem_replicate.1 hx).2]; exact jD
  ·unfold jA; omega
 have hs := (aO7 hp f hf args (gF args.length i) (by simp [gF]) na hun hl).1
 rw [jQ, vE]
 split
 ·intro x hx
  obtain ⟨s, h1, rfl⟩ := List.mem_map.1 hx
  exact (hs s h1).2.get 1
 ·intro x hx; cases hx
theorem aPB {j : eI} (hj : j.ok) {k : Nat} (hk : k < j.cB.length) (hc : (gT j k).aS = 0) : ((gT j k).iO.length : Int) = j.cE ∧ ∀ x ∈ (gT j k).iO, 0 ≤ x ∧ x < 1000003 := by
 obtain ⟨t1, t2, t3, t4, t5, t6, t7, t8⟩ := pE hj hk
 obtain ⟨F, eF, hf, hF, ok⟩ := pT hj
 have her := aCD j.aZ 1 j.cT ((cQ j k).map fun n => [n])
 obtain ⟨F2, eF2, hO1, hO2, hO3, hO4⟩ := kR hj.1 hf
 have hl0 : 0 < (j.aZ.outs j.cT).length := by rw [hO3]; omega
 have hJ0 := wA (jQ j.aZ j.cT (cQ j k)) (m := (j.aZ.outs j.cT).length) (i := (cQ j k).length) (k := 0) hl0
 cases hX : vC j.aZ 1 j.cT ((cQ j k).map fun n => [n]) with
 |error c =>
  have hp : gT j k = ⟨c, 0, []⟩ := by rw [gT, hX]
  rw [hp] at hc
  rcases her c hX with rfl | rfl <;> simp at hc
 |ok q =>
  obtain ⟨vs, t⟩ := q
  have hp : (gT j k).iO = (aCN j.aZ j.cT (cQ j k)).take j.cE.toNat := by rw [gT, hX]; rfl
  have hJ1 : aCN j.aZ j.cT (cQ j k) = (List.range (cQ j k).length).map fun i => (jQ j.aZ j.cT (cQ j k) i).getD 0 0 := by
   rw [aCN, List.getD_eq_getElem?_getD, hJ0]; rfl
  rw [hp]
  refine ⟨by rw [List.length_take, hJ1]; simp; omega, fun x hx => ?_⟩
  have hx2 := List.mem_of_mem_take hx
  rw [hJ1] at hx2
  obtain ⟨i, _, rfl⟩ := List.mem_map.1 hx2
  have := (aQ9 hj.1 j.cT hf (cQ j k) t2 t3 i).get 0
  unfold jA at this; omega
def gW (j : eI) : List e8 := (List.range j.cB.length).map (gT j)
theorem l9 (j : eI) : (gW j).length = j.cB.length := by simp [gW]
theorem aHV {j : eI} {k : Nat} (hk : k < j.cB.length) : (gW j)[k]'(by rw [l9]; exact hk) = gT j k := by simp [gW]
theorem aD4 {j : eI} (hj : j.ok) : aLB j.cE (gW j) := fun p hp hc => by
 obtain ⟨k, hk, rfl⟩ := List.mem_map.1 hp
 exact aPB hj (List.mem_range.1 hk) hc
noncomputable def lQ (j : eI) : Int × List Int × Int := if j.ok then sP (gW j) 0 (List.replicate j.cE.toNat 0) else (0, [], 1)
theorem aPC {j : eI} (h : ¬ j.ok) : lQ j = (0, [], 1) := if_neg h
theorem aD5 {j : eI} (h : j.ok) : lQ j = sP (gW j) 0 (List.replicate j.cE.toNat 0) := if_pos h
theorem aA5 {j : eI} (h : j.ok) : 0 ≤ j.cE ∧ j.cE ≤ 12 ∧ j.cB.length ≤ 10 := by
 obtain ⟨F, eF, hf, hF, ok⟩ := pT h
 have := ok.1
 have := ok.2.2.1
 omega
theorem aH.a68 {P : Program} {f : FuncId} {args args' : List aD} {h : aB} {K : aD → aB → Prop} {t : Tag K} {Q : aD → List (Nat × bP) → Prop} {n sz : Nat} {es : List (List aD)} (a : x9 P f args' Q) (hn : h n = none) (hb : fZ n sz es.length args = true) (he : lV n es args = args') (k : ∀ r l g', Q r l → eU h l g' → g' n = none → K r (aR g' n .gone)) :
  aH P f args (aR h n (.row sz (es.map (List.map .v)))) K t := by
 refine aH.aU7 n (aG _ _ _) (by rw [List.length_map]; exact hb) ?_
 rw [aK, lZ, he]
 refine (a _).mono ?_
 rintro r h' ⟨l, hQ, hN⟩
 obtain ⟨g', h1, h2, h3, rfl⟩ := hN.base hn
 exact k r l g' hQ h2 h3
theorem aJU (l : List e8) (x : e8) : List.take l.length ((l.map e8.c).map (List.map Cell.v)) ++ [x.c.map .v] = ((l ++ [x]).map e8.c).map (List.map .v) := by
 rw [List.take_of_length_le (by simp)]
 simp
@[go_sem] def aYY : List Nat := [0, 1, 2, 3, 4, 5, 6, 9, 13, 14, 15]
@[go_sem] def bH1 : List Nat := [1, 10, 21]
@[go_sem] def bH2 : Marks := fun _ => ([], .nil, [])
theorem a3N (j : eI) (hs : j.s ≤ 1048576) : x9 Tryz.prog 13 [.agg j.c] (QS (OS (oP I) 1 (lQ j).2.1) (fun y => .iI [I (lQ j).1, y, I (lQ j).2.2])) := by
 have hs' := j.tI
 simp only [kT] at hs'
 have hok := aHK j (by omega)
 simp only [eI.aU] at hok ⊢
 refine yA 31 aYY bH1 bH2 mix Tryz.func13 rfl (by kernel_rfl) (by simp) fun h => ?_
 simp -dsimp -implicitDefEqProofs only [go_sem, ↓reduceIte, Tryz.f13]
 first | refine aH.mk (hok) ?_ | refine aF.mk (hok) ?_ | refine aH.bS (hok) ?_ | refine aF.mk (bM.eQ (hok)) ?_
 simp -dsimp -implicitDefEqProofs only [go_sem, ↓reduceIte, Tryz.f13]
 refine ⟨fun hn => ?_, fun hy => ?_⟩
 ·have hn' : ¬ j.ok := by simpa using hn
  rw [aPC hn']
  try simp -dsimp -implicitDefEqProofs only [go_sem, ↓reduceIte, Tryz.f13]
  exact aYW (aB.le_refl _)
 have hj : j.ok := by simpa using hy
 have hsh := aA5 hj
 rw [aD5 hj]
 try simp -dsimp -implicitDefEqProofs only [go_sem, ↓reduceIte, Tryz.f13]
 refine ⟨by decide, fun _ => ?_⟩
 refine cS (keep := aYY) (ib := bH1) (mk := bH2) mix (by kernel_rfl) (fun x : Nat × Option Nat => [(1, .ip 5 [[eZ 3 aT.c j.aZ.aI, I j.cT, I j.cE, eZ 1 (fun n => [I n]) j.iN, eZ 1 (fun x => [eZ 1 (fun n => [I n]) x]) j.cB]] 0 0), (13, I j.cB.length), (5, jC 3 ((gW j).take x.1).length x.2), (14, I x.1)]) (fun x => cK h (.row 3 ((((gW j).take x.1).map e8.c).map (List.map .v))) x.2) (fun x => x.1 ≤ j.cB.length ∧ fK h ((gW j).take x.1) x.2) (fun x => j.cB.length - x.1) (0, none) ⟨by simp [cV, bZ, jC], by simp only [aO]; exact aB.le_refl _, Nat.zero_le _, by simp [fK]⟩ ?_
 rintro ⟨k, o⟩ ⟨hk, hos⟩
 simp only at hk hos ⊢
 rcases Nat.lt_or_ge k j.cB.length with hlt | hge
 ·have hp : fL Tryz.prog 32 [.agg j.c, I k] (.agg (gT j k).c) := bHQ hj hlt
  simp only [eI.aU, e8.aU] at hp
  have hy : (gW j).take (k + 1) = (gW j).take k ++ [gT j k] := by rw [List.take_succ_eq_append_getElem (by rw [l9]; exact hlt), aHV hlt]
  have hlk : ((gW j).take k).length = k := by rw [List.length_take, l9]; omega
  cases o with
  |none =>
   rw [bD] at hos
   rw [hos] at hy ⊢
   simp -dsimp -implicitDefEqProofs only [go_sem, ↓reduceIte, Tryz.f13, bO, aO, hlt]
   skip
   refine aH.mk hp ?_
   simp -dsimp -implicitDefEqProofs only [go_sem, ↓reduceIte, Tryz.f13]
   repeat' (with_reducible first | intro _ | refine And.intro ?_ ?_)
   all_goals try (first | omega | decide)
   rename_i b hb
   refine ⟨(k + 1, some b), ?_⟩
   simp only [hy]
   refine ⟨⟨rfl, ?_⟩, aB.le_refl _, ⟨by omega, hb⟩, by omega⟩
   rw [IntWalk.i64_in _ (by omega)]; rfl
  |some n =>
   rw [aV] at hos
   simp -dsimp -implicitDefEqProofs only [go_sem, ↓reduceIte, Tryz.f13, aX, aJ, hlt]
   skip
   refine aH.mk hp ?_
   simp -dsimp -implicitDefEqProofs only [go_sem, ↓reduceIte, Tryz.f13]
   repeat' (with_reducible first | intro _ | refine And.intro ?_ ?_)
   all_goals try (first | omega | decide | exact Nat.le_refl _)
   rename_i b hb
   refine ⟨(k + 1, some b), ?_⟩
   simp only [hy, aJ, aX, aV]
   refine ⟨⟨by rw [List.length_append]; rfl, ?_⟩, ?_, ⟨by omega, hb.2⟩, by omega⟩
   ·rw [IntWalk.i64_in _ (by omega)]; rfl
   ·rw [← aJU]; exact kU hos
 have hk' : k = j.cB.length := by omega
 subst hk'
 rw [List.take_of_length_le (by rw [l9]; exact Nat.le_refl _)] at hos ⊢
 have hsm := summed (gW j) j.cE (by omega) (by rw [l9]; omega) (aD4 hj)
 cases o with
 |none =>
  rw [bD] at hos
  simp -dsimp -implicitDefEqProofs only [go_sem, ↓reduceIte, Tryz.f13, bO, aO, Nat.lt_irrefl, Int.lt_irrefl]
  skip
  refine aH.wn0 (x9.sub (.cons (by rw [hos]; exact Sub.loose _ _ _) (.cons (.refl _) .nil)) hsm) ?_
  rintro r l g ⟨y, oy, rfl, rfl⟩ wn
  simp -dsimp -implicitDefEqProofs only [go_sem, ↓reduceIte, Tryz.f13, oy.flat, oy.one]
  exact ⟨_, g, _, bI _ _, ⟨y, oy, rfl, rfl⟩, wn⟩
 |some n =>
  rw [aV] at hos
  simp -dsimp -implicitDefEqProofs only [go_sem, ↓reduceIte, Tryz.f13, aX, aJ, Nat.lt_irrefl, Int.lt_irrefl]
  skip
  refine aH.a68 (es := (gW j).map e8.c) hsm hos (by simp [fZ, fY]) ?_ ?_
  ·simp [lV, aD.fE, List.take_of_length_le]
  rintro r l g ⟨y, oy, rfl, rfl⟩ wn hgn
  simp -dsimp -implicitDefEqProofs only [go_sem, ↓reduceIte, Tryz.f13, oy.flat, oy.one]
  exact ⟨_, g, _, cM (aB.aY hgn (aB.le_refl _)), ⟨y, oy, rfl, rfl⟩, wn⟩
@[go_sem] def aYZ : List Nat := [0, 1, 2, 3, 4, 5, 6, 8, 15]
@[go_sem] def bH3 : List Nat := [1, 9, 10, 21]
@[go_sem] def bH4 : Marks := fun _ => ([], .nil, [])
theorem aPD (j : eI) (hs : j.s ≤ 1048576) : x9 Tryz.prog 14 [.agg j.c] (QS (OS (oP I) 1 (lQ j).2.1) (fun y => .iI [I (lQ j).1, y, I (lQ j).2.2])) := by
 have hs' := j.tI
 simp only [kT] at hs'
 have hok := aXR j (by omega)
 simp only [eI.aU] at hok ⊢
 refine yA 30 aYZ bH3 bH4 mix Tryz.func14 rfl (by kernel_rfl) (by simp) fun h => ?_
 simp -dsimp -implicitDefEqProofs only [go_sem, ↓reduceIte, Tryz.f14]
 first | refine aH.mk (hok) ?_ | refine aF.mk (hok) ?_ | refine aH.bS (hok) ?_ | refine aF.mk (bM.eQ (hok)) ?_
 simp -dsimp -implicitDefEqProofs only [go_sem, ↓reduceIte, Tryz.f14]
 refine ⟨fun hn => ?_, fun hy => ?_⟩
 ·have hn' : ¬ j.ok := by simpa using hn
  rw [aPC hn']
  try simp -dsimp -implicitDefEqProofs only [go_sem, ↓reduceIte, Tryz.f14]
  exact ⟨Nat.zero_lt_one, aYX (aB.le_refl _)⟩
 have hj : j.ok := by simpa using hy
 have hsh := aA5 hj
 rw [aD5 hj]
 try simp -dsimp -implicitDefEqProofs only [go_sem, ↓reduceIte, Tryz.f14]
 refine ⟨by decide, ?_⟩
 refine cS (keep := aYZ) (ib := bH3) (mk := bH4) mix (by kernel_rfl) (fun x : Nat × Option Nat => [(1, .ip 5 [[eZ 3 aT.c j.aZ.aI, I j.cT, I j.cE, eZ 1 (fun n => [I n]) j.iN, eZ 1 (fun x => [eZ 1 (fun n => [I n]) x]) j.cB]] 0 0), (5, jC 3 ((gW j).take x.1).length x.2), (6, I x.1)]) (fun x => cK h (.row 3 ((((gW j).take x.1).map e8.c).map (List.map .v))) x.2) (fun x => x.1 ≤ j.cB.length ∧ fK h ((gW j).take x.1) x.2) (fun x => j.cB.length - x.1) (0, none) ⟨by simp [cV, bZ, jC], by simp only [aO]; exact aB.le_refl _, Nat.zero_le _, by simp [fK]⟩ ?_
 rintro ⟨k, o⟩ ⟨hk, hos⟩
 simp only at hk hos ⊢
 rcases Nat.lt_or_ge k j.cB.length with hlt | hge
 ·have hp : fL Tryz.prog 34 [.ip 5 [j.c] 0 0, I k] (.agg (gT j k).c) := QA.eQ (aTR hj (by omega) hlt) (fun e he => e8.aCB he)
  simp only [eI.aU, e8.aU] at hp
  have hy : (gW j).take (k + 1) = (gW j).take k ++ [gT j k] := by rw [List.take_succ_eq_append_getElem (by rw [l9]; exact hlt), aHV hlt]
  have hlk : ((gW j).take k).length = k := by rw [List.length_take, l9]; omega
  cases o with
  |none =>
   rw [bD] at hos
   rw [hos] at hy ⊢
   simp -dsimp -implicitDefEqProofs only [go_sem, ↓reduceIte, Tryz.f14, bO, aO, hlt]
   intro _
   refine aH.mk hp ?_
   simp -dsimp -implicitDefEqProofs only [go_sem, ↓reduceIte, Tryz.f14]
   repeat' (with_reducible first | intro _ | refine And.intro ?_ ?_)
   all_goals try (first | omega | decide)
   rename_i b hb
   refine ⟨(k + 1, some b), ?_⟩
   simp only [hy]
   refine ⟨⟨rfl, ?_⟩, aB.le_refl _, ⟨by omega, hb⟩, by omega⟩
   rw [IntWalk.i64_in _ (by omega)]; rfl
  |some n =>
   rw [aV] at hos
   simp -dsimp -implicitDefEqProofs only [go_sem, ↓reduceIte, Tryz.f14, aX, aJ, hlt]
   intro _
   refine aH.mk hp ?_
   simp -dsimp -implicitDefEqProofs only [go_sem, ↓reduceIte, Tryz.f14]
   repeat' (with_reducible first | intro _ | refine And.intro ?_ ?_)
   all_goals try (first | omega | decide | exact Nat.le_refl _)
   rename_i b hb
   refine ⟨(k + 1, some b), ?_⟩
   simp only [hy, aJ, aX, aV]
   refine ⟨⟨by rw [List.length_append]; rfl, ?_⟩, ?_, ⟨by omega, hb.2⟩, by omega⟩
   ·rw [IntWalk.i64_in _ (by omega)]; rfl
   ·rw [← aJU]; exact kU hos
 have hk' : k = j.cB.length := by omega
 subst hk'
 rw [List.take_of_length_le (by rw [l9]; exact Nat.le_refl _)] at hos ⊢
 have hsm := a9J (gW j) j.cE (by omega) (by rw [l9]; omega) (aD4 hj)
 cases o with
 |none =>
  rw [bD] at hos
  simp -dsimp -implicitDefEqProofs only [go_sem, ↓reduceIte, Tryz.f14, bO, aO, Nat.lt_irrefl, Int.lt_irrefl]
  intro _
  refine aH.wn0 (x9.sub (.cons (by rw [hos]; exact Sub.loose _ _ _) (.cons (.refl _) .nil)) hsm) ?_
  rintro r l g ⟨y, oy, rfl, rfl⟩ wn
  simp -dsimp -implicitDefEqProofs only [go_sem, ↓reduceIte, Tryz.f14, oy.flat, oy.one]
  exact ⟨_, g, _, bI _ _, ⟨y, oy, rfl, rfl⟩, wn⟩
 |some n =>
  rw [aV] at hos
  simp -dsimp -implicitDefEqProofs only [go_sem, ↓reduceIte, Tryz.f14, aX, aJ, Nat.lt_irrefl, Int.lt_irrefl]
  intro _
  refine aH.a68 (es := (gW j).map e8.c) hsm hos (by simp [fZ, fY]) ?_ ?_
  ·simp [lV, aD.fE, List.take_of_length_le]
  rintro r l g ⟨y, oy, rfl, rfl⟩ wn hgn
  simp -dsimp -implicitDefEqProofs only [go_sem, ↓reduceIte, Tryz.f14, oy.flat, oy.one]
  exact ⟨_, g, _, cM (aB.aY hgn (aB.le_refl _)), ⟨y, oy, rfl, rfl⟩, wn⟩
open Go.Proofs
set_option linter.unusedVariables false
set_option linter.unusedSimpArgs false
structure bQ where
 j0 : Int
 fA : Int
 fB : Int
 bC : Int
def bQ.c (x : bQ) : List aD := [I x.j0, I x.fA, I x.fB, I x.bC]
theorem bQ.aU (x : bQ) : x.c = [I x.j0, I x.fA, I x.fB, I x.bC] := rfl
structure gI where
 aIZ : Int
 a69 : Bool
def gI.c (x : gI) : List aD := [I x.aIZ, .bool x.a69]
theorem gI.aU (x : gI) : x.c = [I x.aIZ, .bool x.a69] := rfl
structure dU where
 code : List bQ
 gQ : List Int
 guards : List gI
def dU.val (S : dU) (k : Int) : Int := S.gQ.getD k.toNat 0
def dU.put (S : dU) (c : bQ) (v : Int) : dU := ⟨S.code ++ [c], S.gQ ++ [v], S.guards⟩
def dU.guard (S : dU) (g : gI) : dU := ⟨S.code, S.gQ, S.guards ++ [g]⟩
def rD (ev : Nat → aC → dU → Out (Int × dU)) : List aC → Nat → dU → Out (List Int × dU)
 | [], t, S => .ok (([], S), t)
 |e :: l, t, S => (ev t e S).andThen fun r t => (rD ev l t r.2).andThen fun q t => .ok ((r.1 :: q.1, q.2), t)
def sI (f : List Int → Nat → dU → Out (List Int × dU)) : Nat → List Int → Nat → dU → Out (List Int × dU)
 |0, vs, t, S => .ok ((vs, S), t)
 |n + 1, vs, t, S => (f vs t S).andThen fun r t => sI f n r.1 t r.2
def opV (k a b : Int) : Option Int :=
 if k = 3 then some ((a + b) % 1000003) else if k = 4 then some ((a - b) % 1000003) else if k = 5 then some (a * b % 1000003) else if k = 7 then some ((0 - a) % 1000003)
 else if b = 0 then none else some (a * o5 b % 1000003)
def opB (k : Int) (vs : List Int) : Int := if k = 7 then 0 else vs.getD 1 0
def opR (k : Int) (vs : List Int) (S : dU) (t : Nat) : Out (Int × dU) := match opV k (S.val (vs.getD 0 0)) (S.val (opB k vs)) with
 |none => .error 6
 |some v => .ok (((S.gQ.length : Int), S.put ⟨k, vs.getD 0 0, opB k vs, 0⟩ v), t)
def fC (p : aE) : Nat → Nat → aC → List Int → dU → Out (Int × dU)
 |0, _, _, _, _ => .error 7
 |n + 1, t, e, env, S =>
  if t = 3000 then .error 7
  else if e.aP = 1 then .ok (((S.gQ.length : Int), S.put ⟨2, 0, 0, e.bC⟩ e.bC), t + 1)
  else if e.aP = 2 then .ok ((env.getD e.bC.toNat 0, S), t + 1)
  else if e.aP = 8 then (fC p n (t + 1) (e.nN 0) env S).andThen fun r t =>
   if r.2.val r.1 = 0 then fC p n t (e.nN 1) env (r.2.guard ⟨r.1, true⟩) else fC p n t (e.nN 2) env (r.2.guard ⟨r.1, false⟩)
  else if e.aP = 9 then (fC p n (t + 1) (e.nN 0) env S).andThen fun r t => fC p n t (e.nN 1) (env ++ [r.1]) r.2
  else (rD (fun t e S => fC p n t e env S) e.aN (t + 1) S).andThen fun r t =>
   if e.aP = 10 then fC p n t (p.out e.bC e.cR) r.1 r.2
   else if e.aP = 11 then (sI (fun vs t S => rD (fun t e S => fC p n t e vs S) (p.outs e.bC) t S) e.cD.toNat r.1 t r.2).andThen fun r t => .ok ((r.1.getD e.cR.toNat 0, r.2), t)
   else opR e.aP r.1 r.2 t
theorem aJV (ev : Nat → aC → dU → Out (Int × dU)) (e : aC) : ∀ (l : List aC) (t : Nat) (S : dU), rD ev (l ++ [e]) t S = (rD ev l t S).andThen fun q t => (ev t e q.2).andThen fun r t => .ok ((q.1 ++ [r.1], r.2), t)
 | [], t, S => rfl
 |x :: l, t, S => by
  simp only [List.cons_append, rD, aJV ev e l, Out.mU, Out.andThen_ok]
theorem aA6 (f : List Int → Nat → dU → Out (List Int × dU)) : ∀ (n : Nat) (vs : List Int) (t : Nat) (S : dU), sI f (n + 1) vs t S = (sI f n vs t S).andThen fun r t => f r.1 t r.2
 |0, vs, t, S => by
  show (f vs t S).andThen (fun r t => .ok ((r.1, r.2), t)) = f vs t S
  cases f vs t S with
  |ok p => rfl
  |error c => rfl
 |n + 1, vs, t, S => by
  rw [sI, show sI f (n + 1) vs t S = (f vs t S).andThen fun r t => sI f n r.1 t r.2 from rfl, Out.mU]
  congr 1
  funext r t
  exact aA6 f n r.1 t r.2
theorem aVJ (f : List Int → Nat → dU → Out (List Int × dU)) {vs : List Int} {t : Nat} {S : dU} {c : Int} : ∀ (k : Nat) {n : Nat}, k ≤ n → sI f k vs t S = .error c → sI f n vs t S = .error c := by
 intro k n hkn h
 induction n with
 |zero => obtain rfl : k = 0 := by omega
          exact h
 |succ n ih =>
  rcases Nat.lt_or_ge k (n + 1) with h1 | h1
  ·rw [aA6, ih (by omega)]; rfl
  ·obtain rfl : k = n + 1 := by omega
   exact h
def cH (inp : Int) (i : Nat) (c : bQ) : Prop :=
 (c.j0 = 1 ∧ c.fA = 0 ∧ c.fB = 0 ∧ 0 ≤ c.bC ∧ c.bC < inp) ∨ (c.j0 = 2 ∧ c.fA = 0 ∧ c.fB = 0 ∧ jA c.bC) ∨ ((c.j0 = 3 ∨ c.j0 = 4 ∨ c.j0 = 5 ∨ c.j0 = 6) ∧ c.bC = 0 ∧ 0 ≤ c.fA ∧ c.fA < i ∧ 0 ≤ c.fB ∧ c.fB < i) ∨ (c.j0 = 7 ∧ c.bC = 0 ∧ c.fB = 0 ∧ 0 ≤ c.fA ∧ c.fA < i)
structure Good (inp : Int) (S : dU) (t : Nat) : Prop where
 len : S.code.length = S.gQ.length
 a3O : eD S.gQ
 ins : ∀ i c, S.code[i]? = some c → cH inp i c
 gds : ∀ g ∈ S.guards, 0 ≤ g.aIZ ∧ g.aIZ < S.gQ.length
 cap : S.gQ.length ≤ 12 + t
 yB : S.guards.length ≤ t
def dU.ext (S S' : dU) : Prop := S.code <+: S'.code ∧ S.gQ <+: S'.gQ ∧ S.guards <+: S'.guards
theorem dU.tN (S : dU) : S.ext S := ⟨List.prefix_refl _, List.prefix_refl _, List.prefix_refl _⟩
theorem dU.ext.trans {a b c : dU} (h : a.ext b) (k : b.ext c) : a.ext c := ⟨h.1.trans k.1, h.2.1.trans k.2.1, h.2.2.trans k.2.2⟩
theorem dU.aFV (S : dU) (c : bQ) (v : Int) : S.ext (S.put c v) := ⟨List.prefix_append _ _, List.prefix_append _ _, List.prefix_refl _⟩
theorem dU.rE (S : dU) (g : gI) : S.ext (S.guard g) := ⟨List.prefix_refl _, List.prefix_refl _, List.prefix_append _ _⟩
theorem dU.ext.val {S S' : dU} (h : S.ext S') {k : Int} (h0 : 0 ≤ k) (hk : k < S.gQ.length) : S'.val k = S.val k := by
 obtain ⟨x, hx⟩ := h.2.1
 rw [dU.val, dU.val, ← hx, List.getD_eq_getElem?_getD, List.getD_eq_getElem?_getD, List.getElem?_append_left (by omega)]
theorem dU.ext.len {S S' : dU} (h : S.ext S') : S.gQ.length ≤ S'.gQ.length := h.2.1.length_le
def p9 (S : dU) (k : Int) : Prop := 0 ≤ k ∧ k < S.gQ.length
theorem p9.ext {S S' : dU} {k : Int} (h : p9 S k) (e : S.ext S') : p9 S' k := ⟨h.1, by have := h.2; have := e.len; omega⟩
theorem Good.uF {inp : Int} {S : dU} {t u : Nat} (h : Good inp S t) (hu : t ≤ u) : Good inp S u := ⟨h.len, h.a3O, h.ins, h.gds, by have := h.cap; omega, by have := h.yB; omega⟩
theorem Good.put {inp : Int} {S : dU} {t : Nat} {c : bQ} {v : Int} (h : Good inp S t) (hc : cH inp S.gQ.length c) (hv : jA v) (hcap : S.gQ.length < 12 + t) : Good inp (S.put c v) t := by
 refine ⟨by simp [dU.put, h.len], fun x hx => ?_, fun i d hd => ?_, fun g hg => ?_, by simp [dU.put]; omega, h.yB⟩
 ·rcases List.mem_append.1 hx with hx | hx
  ·exact h.a3O x hx
  ·rw [List.mem_singleton.1 hx]; exact hv
 ·rcases Nat.lt_or_ge i S.code.length with hi | hi
  ·rw [dU.put, List.getElem?_append_left hi] at hd; exact h.ins i d hd
  ·rw [dU.put, List.getElem?_append_right hi] at hd
   have hd2 := List.getElem?_eq_some_iff.1 hd
   obtain ⟨h1, h2⟩ := hd2
   have h3 : i = S.gQ.length := by simp at h1; have := h.len; omega
   simp at h2
   subst h2; rw [h3]; exact hc
 ·have := h.gds g hg
  simp only [dU.put, List.length_append, List.length_singleton]; omega
theorem Good.guard {inp : Int} {S : dU} {t : Nat} {k : Int} {b : Bool} (h : Good inp S t) (hk : p9 S k) (hcap : S.guards.length < t) : Good inp (S.guard ⟨k, b⟩) t := by
 refine ⟨h.len, h.a3O, h.ins, fun g hg => ?_, h.cap, by simp [dU.guard]; omega⟩
 rcases List.mem_append.1 hg with hg | hg
 ·exact h.gds g hg
 ·rw [List.mem_singleton.1 hg]; exact hk
theorem a3P {k a b v : Int} (h : opV k a b = some v) : jA v := by
 unfold opV at h
 repeat' (split at h)
 all_goals first | (cases h; done) | (cases h; exact mZ _)
def uG {α : Type} (P : α → Nat → Prop) (X : Out α) : Prop := ∀ v u, X = .ok (v, u) → P v u
theorem uG.then {α β : Type} {P : α → Nat → Prop} {Q : β → Nat → Prop} {X : Out α} {F : α → Nat → Out β} (h : uG P X) (hf : ∀ v t, P v t → uG Q (F v t)) : uG Q (X.andThen F) := fun w u hw => by
 cases X with
 |ok p => obtain ⟨v, t⟩ := p; exact hf v t (h v t rfl) w u hw
 |error c => cases hw
theorem uG.pure {α : Type} {P : α → Nat → Prop} {v : α} {t : Nat} (h : P v t) : uG P (.ok (v, t)) := fun w u e => by cases e; exact h
theorem uG.err {α : Type} {P : α → Nat → Prop} {c : Int} : uG P (.error c : Out α) := fun w u e => by cases e
theorem uG.mono {α : Type} {P Q : α → Nat → Prop} {X : Out α} (h : uG P X) (hq : ∀ v u, P v u → Q v u) : uG Q X := fun v u e => hq v u (h v u e)
def pF (S : dU) (t : Nat) (S' : dU) (u : Nat) : Prop := S'.gQ.length + t ≤ S.gQ.length + u ∧ S'.guards.length + t ≤ S.guards.length + u ∧ t ≤ u ∧ u ≤ 3000
theorem pF.refl {S : dU} {t : Nat} (h : t ≤ 3000) : pF S t S t := ⟨Nat.le_refl _, Nat.le_refl _, Nat.le_refl _, h⟩
theorem pF.trans {A B C : dU} {t u v : Nat} (h : pF A t B u) (k : pF B u C v) : pF A t C v := by
 unfold pF at *; omega
def aHW (inp : Int) (S : dU) (t : Nat) (r : Int × dU) (u : Nat) : Prop := Good inp r.2 u ∧ S.ext r.2 ∧ p9 r.2 r.1 ∧ pF S t r.2 u
def aAO (inp : Int) (S : dU) (t n : Nat) (r : List Int × dU) (u : Nat) : Prop := Good inp r.2 u ∧ S.ext r.2 ∧ (r.1.length = n ∧ ∀ x ∈ r.1, p9 r.2 x) ∧ pF S t r.2 u
theorem lD {ev : Nat → aC → dU → Out (Int × dU)} {inp : Int} : ∀ (l : List aC) (t : Nat) (S : dU), Good inp S t → t ≤ 3000 → (∀ e ∈ l, ∀ u S', Good inp S' u → S.ext S' → pF S t S' u → uG (aHW inp S' u) (ev u e S')) → uG (aAO inp S t l.length) (rD ev l t S)
 | [], t, S, hg, ht, _ => uG.pure ⟨hg, S.tN, ⟨rfl, by simp⟩, .refl ht⟩
 |e :: l, t, S, hg, ht, h => (h e List.mem_cons_self t S hg S.tN (.refl ht)).then fun r u hr => by
  obtain ⟨r1, r2, r3, r4⟩ := hr
  refine (lD l u r.2 r1 r4.2.2.2 fun x hx u' S' a b c => h x (List.mem_cons_of_mem _ hx) u' S' a (r2.trans b) (r4.trans c)).then fun q u' hq => ?_
  obtain ⟨q1, q2, ⟨q3, q4⟩, q5⟩ := hq
  refine uG.pure ⟨q1, r2.trans q2, ⟨by rw [List.length_cons, q3]; rfl, fun x hx => ?_⟩, r4.trans q5⟩
  rcases List.mem_cons.1 hx with rfl | hx
  ·exact r3.ext q2
  ·exact q4 x hx
theorem wB {f : List Int → Nat → dU → Out (List Int × dU)} {inp : Int} {m : Nat} (h : ∀ vs t S, Good inp S t → (vs.length = m ∧ ∀ x ∈ vs, p9 S x) → t ≤ 3000 → uG (aAO inp S t m) (f vs t S)) :
  ∀ (n : Nat) (vs : List Int) (t : Nat) (S : dU), Good inp S t → (vs.length = m ∧ ∀ x ∈ vs, p9 S x) → t ≤ 3000 → uG (aAO inp S t m) (sI f n vs t S)
 |0, vs, t, S, hg, hv, ht => uG.pure ⟨hg, S.tN, hv, .refl ht⟩
 |n + 1, vs, t, S, hg, hv, ht => (h vs t S hg hv ht).then fun r u hr => by
  obtain ⟨r1, r2, r3, r4⟩ := hr
  refine (wB h n r.1 u r.2 r1 r3 r4.2.2.2).mono fun q u' hq => ?_
  obtain ⟨q1, q2, q3, q4⟩ := hq
  exact ⟨q1, r2.trans q2, q3, r4.trans q4⟩
theorem bAH {inp k : Int} {vs : List Int} {S : dU} {t : Nat} {m : Nat} (hk : k = 3 ∨ k = 4 ∨ k = 5 ∨ k = 6 ∨ k = 7) (hm : vs.length = m ∧ ∀ x ∈ vs, p9 S x) (hm1 : 1 ≤ m) (hm2 : ¬ k = 7 → 2 ≤ m) (hg : Good inp S (t + 1)) (hcap : S.gQ.length < 12 + (t + 1)) (ht : t + 1 ≤ 3000) : uG (fun r u => Good inp r.2 u ∧ S.ext r.2 ∧ p9 r.2 r.1 ∧ u = t + 1 ∧ r.2.gQ.length = S.gQ.length + 1 ∧ r.2.guards = S.guards) (opR k vs S (t + 1)) := by
 have at_ : ∀ i, i < m → p9 S (vs.getD i 0) := fun i hi => by
  rw [List.getD_eq_getElem?_getD, List.getElem?_eq_getElem (by omega)]
  exact hm.2 _ (List.getElem_mem _)
 unfold opR
 split
 ·exact uG.err
 ·rename_i v hv
  have h0 := at_ 0 (by omega)
  refine uG.pure ⟨hg.put ?_ (a3P hv) hcap, S.aFV _ _, ⟨by simp, by simp [dU.put]; omega⟩, rfl, by simp [dU.put], rfl⟩
  unfold p9 at h0
  by_cases h7 : k = 7
  ·subst h7
   exact .inr (.inr (.inr ⟨rfl, rfl, rfl, h0⟩))
  ·have h1 := at_ 1 (hm2 h7)
   unfold p9 at h1
   have hb : opB k vs = vs.getD 1 0 := if_neg h7
   exact .inr (.inr (.inl ⟨by simp only; omega, rfl, h0.1, h0.2, by simp only [hb]; exact h1.1, by simp only [hb]; exact h1.2⟩))
theorem aLW {p : aE} {n st : Nat} {e : aC} {env : List Int} {S : dU} (h3 : ¬ st = 3000) (hk : e.aP = 1) : fC p (n + 1) st e env S = .ok (((S.gQ.length : Int), S.put ⟨2, 0, 0, e.bC⟩ e.bC), st + 1) := by rw [fC, if_neg h3, if_pos hk]
theorem aLX {p : aE} {n st : Nat} {e : aC} {env : List Int} {S : dU} (h3 : ¬ st = 3000) (hk : e.aP = 2) : fC p (n + 1) st e env S = .ok ((env.getD e.bC.toNat 0, S), st + 1) := by rw [fC, if_neg h3, if_neg (by omega), if_pos hk]
theorem zC {p : aE} {n st : Nat} {e : aC} {env : List Int} {S : dU} (h3 : ¬ st = 3000) (hk : e.aP = 8) : fC p (n + 1) st e env S = (fC p n (st + 1) (e.nN 0) env S).andThen fun r t =>
   if r.2.val r.1 = 0 then fC p n t (e.nN 1) env (r.2.guard ⟨r.1, true⟩) else fC p n t (e.nN 2) env (r.2.guard ⟨r.1, false⟩) := by rw [fC, if_neg h3, if_neg (by omega), if_neg (by omega), if_pos hk]
theorem aLY {p : aE} {n st : Nat} {e : aC} {env : List Int} {S : dU} (h3 : ¬ st = 3000) (hk : e.aP = 9) : fC p (n + 1) st e env S = (fC p n (st + 1) (e.nN 0) env S).andThen fun r t => fC p n t (e.nN 1) (env ++ [r.1]) r.2 := by rw [fC, if_neg h3, if_neg (by omega), if_neg (by omega), if_neg (by omega), if_pos hk]
theorem aCO {p : aE} {n st : Nat} {e : aC} {env : List Int} {S : dU} (h3 : ¬ st = 3000) (hk : e.aP = 10) : fC p (n + 1) st e env S = (rD (fun t e S => fC p n t e env S) e.aN (st + 1) S).andThen fun r t => fC p n t (p.out e.bC e.cR) r.1 r.2 := by
 rw [fC, if_neg h3, if_neg (by omega), if_neg (by omega), if_neg (by omega), if_neg (by omega)]; simp only [if_pos hk]
theorem aCP {p : aE} {n st : Nat} {e : aC} {env : List Int} {S : dU} (h3 : ¬ st = 3000) (hk : e.aP = 11) : fC p (n + 1) st e env S = (rD (fun t e S => fC p n t e env S) e.aN (st + 1) S).andThen fun r t => (sI (fun vs t S => rD (fun t e S => fC p n t e vs S) (p.outs e.bC) t S) e.cD.toNat r.1 t r.2).andThen fun r t => .ok ((r.1.getD e.cR.toNat 0, r.2), t) := by
 have h : ¬ e.aP = 10 := by omega
 rw [fC, if_neg h3, if_neg (by omega), if_neg (by omega), if_neg (by omega), if_neg (by omega)]; simp only [if_neg h, if_pos hk]
theorem nW {p : aE} {n st : Nat} {e : aC} {env : List Int} {S : dU} (h3 : ¬ st = 3000) (hk : e.aP = 3 ∨ e.aP = 4 ∨ e.aP = 5 ∨ e.aP = 6 ∨ e.aP = 7) : fC p (n + 1) st e env S = (rD (fun t e S => fC p n t e env S) e.aN (st + 1) S).andThen fun r t => opR e.aP r.1 r.2 t := by
 have h : ¬ e.aP = 10 := by omega
 have h2 : ¬ e.aP = 11 := by omega
 rw [fC, if_neg h3, if_neg (by omega), if_neg (by omega), if_neg (by omega), if_neg (by omega)]; simp only [if_neg h, if_neg h2]
theorem pF.step {S S' : dU} {t u : Nat} (h : pF S (t + 1) S' u) : pF S t S' u := by unfold pF at *; omega
theorem uH {p : aE} (hp : p.ok) {inp : Int} : ∀ (n t : Nat) (e : aC) (env : List Int) (S : dU) (funcs : Int), e.ok p funcs env.length → funcs ≤ p.aI.length → Good inp S t → t ≤ 3000 → (∀ x ∈ env, p9 S x) → uG (aHW inp S t) (fC p n t e env S)
 |0, t, e, env, S, funcs, _, _, _, _, _ => uG.err
 |n + 1, t, e, env, S, funcs, hok, hf, hg, ht, henv => by
  have ih := uH hp (inp := inp) n
  have hnode := ((aC.dB _ _ _ _).1 hok).1
  by_cases h3 : t = 3000
  ·rw [fC, if_pos h3]; exact uG.err
  have o9 := hg.uF (Nat.le_succ t)
  have hcap := hg.cap
  have hgcap := hg.yB
  have henvE : ∀ {S'}, S.ext S' → ∀ x ∈ env, p9 S' x := fun e x hx => (henv x hx).ext e
  rcases rA hnode with hk | hk | hk | hk | hk | hk | hk | hk | hk | hk | hk
  ·rw [aLW h3 hk]
   have hn := ((dO (by omega)).1 hnode).2.2.2.1 hk
   exact uG.pure ⟨o9.put (.inr (.inl ⟨rfl, rfl, rfl, hn⟩)) hn (by omega), S.aFV _ _, ⟨by simp, by simp [dU.put]; omega⟩, by simp [pF, dU.put]; omega⟩
  ·rw [aLX h3 hk]
   have hn := ((dO (by omega)).1 hnode).2.2.2.2.1 hk
   refine uG.pure ⟨o9, S.tN, ?_, by simp [pF]; omega⟩
   simp only [List.getD_eq_getElem?_getD]
   rw [List.getElem?_eq_getElem (by omega)]
   exact henv _ (List.getElem_mem _)
  iterate 5
   ·have hlen := dT hok (by omega)
    rw [hk] at hlen
    rw [nW h3 (by omega)]
    refine (lD _ _ S o9 (by omega) fun x hx u S' a b c => ih u x env S' funcs (eY hok (by omega) x hx) hf a c.2.2.2 (henvE b)).then fun r u hr => ?_
    obtain ⟨r1, r2, r3, r4⟩ := hr
    obtain ⟨u, rfl⟩ : ∃ w, u = w + 1 := ⟨u - 1, by have := r4.2.2.1; omega⟩
    unfold pF at r4
    refine (bAH (inp := inp) (by omega) r3 (by unfold dR at hlen; simp at hlen; omega) (fun q => by unfold dR at hlen; simp at hlen; omega) r1 (by omega) (by omega)).mono fun q v hq => ?_
    obtain ⟨q1, q2, q3, rfl, q5, q6⟩ := hq
    exact ⟨q1, r2.trans q2, q3, by unfold pF; rw [q5, q6]; omega⟩
  ·have hlen := dT hok (by omega)
   rw [hk, show dR 8 = 3 from rfl] at hlen
   have o0 := aC.eP hok (i := 0) (by omega)
   have o1 := aC.eP hok (i := 1) (by omega)
   have o2 := aC.eP hok (i := 2) (by omega)
   rw [hJ (by omega)] at o0 o1 o2
   rw [zC h3 hk]
   refine (ih _ _ _ _ _ o0 hf o9 (by omega) henv).then fun r u hr => ?_
   obtain ⟨r1, r2, r3, r4⟩ := hr
   have r4' := r4
   unfold pF at r4'
   have go : ∀ (b : Bool) (k : aC), k.ok p funcs env.length → uG (aHW inp S t) (fC p n u k env (r.2.guard ⟨r.1, b⟩)) := fun b k hk => by
    have he : r.2.ext (r.2.guard ⟨r.1, b⟩) := r.2.rE _
    refine (ih u k env _ _ hk hf (r1.guard r3 (by omega)) (by omega) (henvE (r2.trans he))).mono fun q v hq => ?_
    obtain ⟨q1, q2, q3, q4⟩ := hq
    refine ⟨q1, (r2.trans he).trans q2, q3, ?_⟩
    unfold pF at q4 ⊢
    simp only [dU.guard, List.length_append, List.length_singleton] at q4
    omega
   split
   ·exact go _ _ o1
   ·exact go _ _ o2
  ·have hlen := dT hok (by omega)
   rw [hk, show dR 9 = 2 from rfl] at hlen
   have o0 := aC.eP hok (i := 0) (by omega)
   have o1 := aC.eP hok (i := 1) (by omega)
   rw [hJ (by omega)] at o0
   rw [hk, show iX 9 1 (env.length : Int) = env.length + 1 from rfl] at o1
   rw [aLY h3 hk]
   refine (ih _ _ _ _ _ o0 hf o9 (by omega) henv).then fun r u hr => ?_
   obtain ⟨r1, r2, r3, r4⟩ := hr
   refine (ih _ _ (env ++ [r.1]) _ _ (by rw [List.length_append]; exact o1) hf r1 r4.2.2.2 fun x hx => ?_).mono fun q v hq => ?_
   ·rcases List.mem_append.1 hx with hx | hx
    ·exact henvE r2 x hx
    ·rw [List.mem_singleton.1 hx]; exact r3
   ·obtain ⟨q1, q2, q3, q4⟩ := hq
    exact ⟨q1, r2.trans q2, q3, (r4.trans q4).step⟩
  ·obtain ⟨f, F⟩ := m6 hp hok hf (.inl hk)
   have f2 := F.hi
   have f4 := F.pk2
   rw [aCO h3 hk]
   refine (lD _ _ S o9 (by omega) fun x hx u S' a b c => ih u x env S' funcs (eY hok (by omega) x hx) hf a c.2.2.2 (henvE b)).then fun r u hr => ?_
   obtain ⟨r1, r2, r3, r4⟩ := hr
   refine (ih _ _ r.1 _ e.bC (by rw [r3.1, F.kids]; exact F.oks _ (List.mem_of_getElem? F.out)) (by omega) r1 r4.2.2.2 r3.2).mono fun q v hq => ?_
   obtain ⟨q1, q2, q3, q4⟩ := hq
   exact ⟨q1, r2.trans q2, q3, (r4.trans q4).step⟩
  ·obtain ⟨f, F⟩ := m6 hp hok hf (.inr hk)
   have f2 := F.hi
   have f4 := F.pk2
   have f9 := F.loop hk
   rw [aCP h3 hk]
   refine (lD _ _ S o9 (by omega) fun x hx u S' a b c => ih u x env S' funcs (eY hok (by omega) x hx) hf a c.2.2.2 (henvE b)).then fun r u hr => ?_
   obtain ⟨r1, r2, r3, r4⟩ := hr
   refine (wB (inp := inp) (m := f.aQ.length) (fun vs w S' hg' hv hw => ?_) _ _ _ _ r1 ⟨by have := r3.1; have := F.kids; omega, r3.2⟩ r4.2.2.2).then fun q v hq => ?_
   ·rw [F.eq]
    exact lD _ _ S' hg' hw fun x hx u S'' a b c => ih u x vs S'' e.bC (by rw [hv.1, f9.2.2]; exact F.oks x hx) (by omega) a c.2.2.2 fun y hy => (hv.2 y hy).ext b
   ·obtain ⟨q1, q2, q3, q4⟩ := hq
    refine uG.pure ⟨q1, r2.trans q2, ?_, (r4.trans q4).step⟩
    simp only [List.getD_eq_getElem?_getD]
    rw [List.getElem?_eq_getElem (by rw [q3.1]; exact f4)]
    exact q3.2 _ (List.getElem_mem _)
open Go.Proofs
set_option linter.unusedVariables false
set_option linter.unusedSimpArgs false
def mN {α β : Type} (R : α → β → Prop) (X : Out α) (Y : Out β) : Prop := match X, Y with
 | .ok (v, t), .ok (v', t') => R v v' ∧ t = t'
 | .error c, .error c' => c = c'
 | _, _ => False
theorem mN.bind {α β γ δ : Type} {R : α → β → Prop} {R' : γ → δ → Prop} {P : α → Nat → Prop} {X : Out α} {Y : Out β} {F : α → Nat → Out γ} {G : β → Nat → Out δ} (hp : uG P X) (h : mN R X Y) (hf : ∀ v v' t, P v t → R v v' → mN R' (F v t) (G v' t)) : mN R' (X.andThen F) (Y.andThen G) := by
 cases X with
 |ok p =>
  cases Y with
  |ok q =>
   obtain ⟨v, t⟩ := p
   obtain ⟨v', t'⟩ := q
   obtain ⟨h1, rfl⟩ := h
   exact hf _ _ _ (hp v t rfl) h1
  |error c => exact h.elim
 |error c =>
  cases Y with
  |ok q => exact h.elim
  |error d => exact h
theorem mN.pure {α β : Type} {R : α → β → Prop} {v : α} {v' : β} {t : Nat} (h : R v v') : mN R (.ok (v, t)) (.ok (v', t)) := ⟨h, rfl⟩
def sv (S : dU) (l : List Int) : List (List Int) := l.map fun k => [S.val k]
def sR1 (r : Int × dU) (v : List Int) : Prop := v = [r.2.val r.1]
def sRL (r : List Int × dU) (vs : List (List Int)) : Prop := vs = sv r.2 r.1
theorem aHY {S S' : dU} {l : List Int} (h : ∀ x ∈ l, p9 S x) (e : S.ext S') : sv S' l = sv S l :=
 List.map_congr_left fun x hx => by rw [e.val (h x hx).1 (h x hx).2]
theorem wC {ev : Nat → aC → dU → Out (Int × dU)} {ev' : Nat → aC → Out (List Int)} {inp : Int} : ∀ (l : List aC) (t : Nat) (S : dU), Good inp S t → t ≤ 3000 → (∀ e ∈ l, ∀ u S', Good inp S' u → S.ext S' → pF S t S' u → uG (aHW inp S' u) (ev u e S') ∧ mN sR1 (ev u e S') (ev' u e)) → mN sRL (rD ev l t S) (lS ev' l t)
 | [], t, S, hg, ht, _ => mN.pure rfl
 |e :: l, t, S, hg, ht, h => by
  obtain ⟨h1, h2⟩ := h e List.mem_cons_self t S hg S.tN (.refl ht)
  refine mN.bind h1 h2 fun r v u hr hv => ?_
  obtain ⟨r1, r2, r3, r4⟩ := hr
  have hl := fun x hx u' S' a b c => h x (List.mem_cons_of_mem _ hx) u' S' a (r2.trans b) (r4.trans c)
  refine mN.bind (lD l u r.2 r1 r4.2.2.2 fun x hx u' S' a b c => (hl x hx u' S' a b c).1) (wC l u r.2 r1 r4.2.2.2 hl) fun q vs u' hq hvs => mN.pure ?_
  rw [sR1] at hv
  rw [sRL] at hvs ⊢
  rw [hv, hvs, ← hq.2.1.val r3.1 r3.2]; rfl
theorem aJW {f : List Int → Nat → dU → Out (List Int × dU)} {g : List (List Int) → Nat → Out (List (List Int))} {inp : Int} {m : Nat} (h : ∀ vs t S, Good inp S t → (vs.length = m ∧ ∀ x ∈ vs, p9 S x) → t ≤ 3000 → uG (aAO inp S t m) (f vs t S) ∧ mN sRL (f vs t S) (g (sv S vs) t)) :
  ∀ (n : Nat) (vs : List Int) (t : Nat) (S : dU), Good inp S t → (vs.length = m ∧ ∀ x ∈ vs, p9 S x) → t ≤ 3000 → mN sRL (sI f n vs t S) (pQ g n (sv S vs) t)
 |0, vs, t, S, hg, hv, ht => mN.pure rfl
 |n + 1, vs, t, S, hg, hv, ht => by
  obtain ⟨h1, h2⟩ := h vs t S hg hv ht
  refine mN.bind h1 h2 fun r w u hr hw => ?_
  rw [sRL] at hw
  rw [hw]
  exact aJW h n r.1 u r.2 hr.1 hr.2.2.1 hr.2.2.2.2.2.2
theorem aA7 {S : dU} {l : List Int} {i : Nat} (hi : i < l.length) : (sv S l).getD i [] = [S.val (l.getD i 0)] := by
 simp [sv, List.getD_eq_getElem?_getD, List.getElem?_eq_getElem hi]
theorem a3R {k : Int} {vs : List Int} {S : dU} {t : Nat} (hk : k = 3 ∨ k = 4 ∨ k = 5 ∨ k = 6 ∨ k = 7) (h1 : 1 ≤ vs.length) (h2 : ¬ k = 7 → 2 ≤ vs.length) : mN sR1 (opR k vs S t) (opE k (sv S vs) t) := by
 have g0 := aA7 (S := S) (l := vs) (i := 0) (by omega)
 have pv : ∀ c v, (S.put c v).val (S.gQ.length : Int) = v := fun c v => by
  rw [dU.val, dU.put, List.getD_eq_getElem?_getD, Int.toNat_natCast, List.getElem?_append_right (Nat.le_refl _), Nat.sub_self]; rfl
 unfold opR opE opV
 rcases hk with rfl | rfl | rfl | rfl | rfl
 all_goals simp only [reduceCtorEq, if_true, if_false, Int.reduceEq]
 ·refine mN.pure ?_
  have g1 := aA7 (S := S) (l := vs) (i := 1) (h2 (by decide))
  rw [sR1, pv, g0, g1]
  rfl
 ·refine mN.pure ?_
  have g1 := aA7 (S := S) (l := vs) (i := 1) (h2 (by decide))
  rw [sR1, pv, g0, g1]
  show [(_ + _ * 1000002 % 1000003) % 1000003] = [(_ - S.val (vs.getD 1 0)) % 1000003]
  congr 1
  omega
 ·refine mN.pure ?_
  have g1 := aA7 (S := S) (l := vs) (i := 1) (h2 (by decide))
  rw [sR1, pv, g0, g1]
  show [(0 + _ * _) % 1000003] = [_ * S.val (vs.getD 1 0) % 1000003]
  rw [Int.zero_add]; rfl
 ·have g1 := aA7 (S := S) (l := vs) (i := 1) (h2 (by decide))
  rw [g0, g1, show opB 6 vs = vs.getD 1 0 from rfl, show [S.val (vs.getD 1 0)].getD 0 0 = S.val (vs.getD 1 0) from rfl]
  by_cases h : S.val (vs.getD 1 0) = 0
  ·rw [if_pos h, if_pos h]; exact rfl
  ·rw [if_neg h, if_neg h]
   refine mN.pure ?_
   rw [sR1, pv]; rfl
 ·refine mN.pure ?_
  rw [sR1, pv, g0]
  show [_ * 1000002 % 1000003] = [(0 - S.val (vs.getD 0 0)) % 1000003]
  congr 1
  omega
theorem aPE {p : aE} (hp : p.ok) {inp : Int} : ∀ (n t : Nat) (e : aC) (env : List Int) (S : dU) (funcs : Int), e.ok p funcs env.length → funcs ≤ p.aI.length → Good inp S t → t ≤ 3000 → (∀ x ∈ env, p9 S x) → mN sR1 (fC p n t e env S) (iY p 1 n t e (sv S env))
 |0, t, e, env, S, funcs, _, _, _, _, _ => rfl
 |n + 1, t, e, env, S, funcs, hok, hf, hg, ht, henv => by
  have ih := aPE hp (inp := inp) n
  have io := uH hp (inp := inp) n
  have hnode := ((aC.dB _ _ _ _).1 hok).1
  by_cases h3 : t = 3000
  ·rw [fC, iY, if_pos h3, if_pos h3]; exact rfl
  have o9 := hg.uF (Nat.le_succ t)
  have hcap := hg.cap
  have hgcap := hg.yB
  have henvE : ∀ {S'}, S.ext S' → ∀ x ∈ env, p9 S' x := fun e x hx => (henv x hx).ext e
  have kidsS : ¬ e.aP = 9 → ∀ x ∈ e.aN, ∀ u S', Good inp S' u → S.ext S' → pF S (t + 1) S' u → uG (aHW inp S' u) (fC p n u x env S') ∧ mN sR1 (fC p n u x env S') (iY p 1 n u x (sv S env)) := fun h9 x hx u S' a b c =>
   ⟨io u x env S' funcs (eY hok h9 x hx) hf a c.2.2.2 (henvE b), by
    have := ih u x env S' funcs (eY hok h9 x hx) hf a c.2.2.2 (henvE b)
    rwa [aHY henv b] at this⟩
  rcases rA hnode with hk | hk | hk | hk | hk | hk | hk | hk | hk | hk | hk
  ·rw [aLW h3 hk, aO0 h3 hk]
   refine mN.pure ?_
   simp [sR1, dU.val, dU.put, lP, List.replicate_succ]
  ·rw [aLX h3 hk, aO1 h3 hk]
   have hn := ((dO (by omega)).1 hnode).2.2.2.2.1 hk
   exact mN.pure (aA7 (by omega))
  iterate 5
   ·have hlen := dT hok (by omega)
    rw [hk] at hlen
    rw [nW h3 (by omega), oU h3 (by omega)]
    have hs := kidsS (by omega)
    refine mN.bind (lD _ _ S o9 (by omega) fun x hx u S' a b c => (hs x hx u S' a b c).1) (wC _ _ S o9 (by omega) hs) fun r vs u hr hv => ?_
    obtain ⟨r1, r2, r3, r4⟩ := hr
    rw [sRL] at hv
    rw [hv]
    exact a3R (by omega) (by unfold dR at hlen; simp at hlen; omega) (fun q => by unfold dR at hlen; simp at hlen; omega)
  ·have hlen := dT hok (by omega)
   rw [hk, show dR 8 = 3 from rfl] at hlen
   have o0 := aC.eP hok (i := 0) (by omega)
   have o1 := aC.eP hok (i := 1) (by omega)
   have o2 := aC.eP hok (i := 2) (by omega)
   rw [hJ (by omega)] at o0 o1 o2
   rw [zC h3 hk, aHM h3 hk]
   refine mN.bind (io _ _ _ _ _ o0 hf o9 (by omega) henv) (ih _ _ _ _ _ o0 hf o9 (by omega) henv) fun r v u hr hv => ?_
   obtain ⟨r1, r2, r3, r4⟩ := hr
   have r4' := r4
   unfold pF at r4'
   rw [sR1] at hv
   subst hv
   rw [show [r.2.val r.1].getD 0 0 = r.2.val r.1 from rfl]
   have go : ∀ (b : Bool) (k : aC), k.ok p funcs env.length → mN sR1 (fC p n u k env (r.2.guard ⟨r.1, b⟩)) (iY p 1 n u k (sv S env)) := fun b k hk => by
    have he : r.2.ext (r.2.guard ⟨r.1, b⟩) := r.2.rE _
    have := ih u k env _ _ hk hf (r1.guard (b := b) r3 (by omega)) (by omega) (henvE (r2.trans he))
    rwa [aHY henv (r2.trans he)] at this
   by_cases hz : r.2.val r.1 = 0
   ·rw [if_pos hz, if_pos hz]; exact go _ _ o1
   ·rw [if_neg hz, if_neg hz]; exact go _ _ o2
  ·have hlen := dT hok (by omega)
   rw [hk, show dR 9 = 2 from rfl] at hlen
   have o0 := aC.eP hok (i := 0) (by omega)
   have o1 := aC.eP hok (i := 1) (by omega)
   rw [hJ (by omega)] at o0
   rw [hk, show iX 9 1 (env.length : Int) = env.length + 1 from rfl] at o1
   rw [aLY h3 hk, aO2 h3 hk]
   refine mN.bind (io _ _ _ _ _ o0 hf o9 (by omega) henv) (ih _ _ _ _ _ o0 hf o9 (by omega) henv) fun r v u hr hv => ?_
   obtain ⟨r1, r2, r3, r4⟩ := hr
   rw [sR1] at hv
   subst hv
   have := ih u (e.nN 1) (env ++ [r.1]) r.2 funcs (by rw [List.length_append]; exact o1) hf r1 r4.2.2.2 (fun x hx => by
    rcases List.mem_append.1 hx with hx | hx
    ·exact henvE r2 x hx
    ·rw [List.mem_singleton.1 hx]; exact r3)
   rwa [show sv r.2 (env ++ [r.1]) = sv S env ++ [[r.2.val r.1]] by rw [← aHY henv r2, sv, List.map_append]; rfl] at this
  ·obtain ⟨f, F⟩ := m6 hp hok hf (.inl hk)
   have f2 := F.hi
   have f4 := F.pk2
   rw [aCO h3 hk, aD1 h3 hk]
   have hs := kidsS (by omega)
   refine mN.bind (lD _ _ S o9 (by omega) fun x hx u S' a b c => (hs x hx u S' a b c).1) (wC _ _ S o9 (by omega) hs) fun r vs u hr hv => ?_
   obtain ⟨r1, r2, r3, r4⟩ := hr
   rw [sRL] at hv
   rw [hv]
   exact ih _ _ r.1 _ e.bC (by rw [r3.1, F.kids]; exact F.oks _ (List.mem_of_getElem? F.out)) (by omega) r1 r4.2.2.2 r3.2
  ·obtain ⟨f, F⟩ := m6 hp hok hf (.inr hk)
   have f2 := F.hi
   have f4 := F.pk2
   have f9 := F.loop hk
   rw [aCP h3 hk, aD2 h3 hk]
   have hs := kidsS (by omega)
   refine mN.bind (lD _ _ S o9 (by omega) fun x hx u S' a b c => (hs x hx u S' a b c).1) (wC _ _ S o9 (by omega) hs) fun r vs u hr hv => ?_
   obtain ⟨r1, r2, r3, r4⟩ := hr
   rw [sRL] at hv
   rw [hv]
   have hfl : ∀ vs t S, Good inp S t → (vs.length = f.aQ.length ∧ ∀ x ∈ vs, p9 S x) → t ≤ 3000 → uG (aAO inp S t f.aQ.length) (rD (fun t e S => fC p n t e vs S) (p.outs e.bC) t S) ∧ mN sRL (rD (fun t e S => fC p n t e vs S) (p.outs e.bC) t S) (lS (fun t e => iY p 1 n t e (sv S vs)) (p.outs e.bC) t) := fun vs w S' hg' hv hw => by
    rw [F.eq]
    have hx2 : ∀ x ∈ f.aQ, ∀ u S'', Good inp S'' u → S'.ext S'' → pF S' w S'' u → uG (aHW inp S'' u) (fC p n u x vs S'') ∧ mN sR1 (fC p n u x vs S'') (iY p 1 n u x (sv S' vs)) := fun x hx u S'' a b c =>
     ⟨io u x vs S'' e.bC (by rw [hv.1, f9.2.2]; exact F.oks x hx) (by omega) a c.2.2.2 fun y hy => (hv.2 y hy).ext b, by
      have := ih u x vs S'' e.bC (by rw [hv.1, f9.2.2]; exact F.oks x hx) (by omega) a c.2.2.2 fun y hy => (hv.2 y hy).ext b
      rwa [aHY hv.2 b] at this⟩
    exact ⟨lD _ _ S' hg' hw fun x hx u S'' a b c => (hx2 x hx u S'' a b c).1, wC _ _ S' hg' hw hx2⟩
   have uY : r.1.length = f.aQ.length ∧ ∀ x ∈ r.1, p9 r.2 x := ⟨by have := r3.1; have := F.kids; omega, r3.2⟩
   refine mN.bind (wB (inp := inp) (m := f.aQ.length) (fun vs t S a b c => (hfl vs t S a b c).1) _ _ _ _ r1 uY r4.2.2.2) (aJW (inp := inp) (m := f.aQ.length) (g := fun vs t => lS (fun t e => iY p 1 n t e vs) (p.outs e.bC) t) hfl _ _ _ _ r1 uY r4.2.2.2) fun q vs2 v hq hvs => ?_
   refine mN.pure ?_
   rw [sRL] at hvs
   rw [hvs]
   exact aA7 (by rw [hq.2.2.1.1]; exact f4)
def inS (args : List Int) : dU := ⟨(List.range args.length).map fun i : Nat => ⟨1, 0, 0, (i : Int)⟩, args, []⟩
def inE (args : List Int) : List Int := (List.range args.length).map fun i : Nat => (i : Int)
theorem aHZ (args : List Int) (ha : eD args) (hl : args.length ≤ 12) : Good args.length (inS args) 0 := by
 refine ⟨by simp [inS], ha, fun i c hc => ?_, fun g hg => (by cases hg), by simpa [inS] using hl, Nat.le_refl _⟩
 obtain ⟨h1, h2⟩ := List.getElem?_eq_some_iff.1 hc
 simp [inS] at h1 h2
 subst h2
 exact .inl ⟨rfl, rfl, rfl, by simp only; omega, by simp only; omega⟩
theorem aRA (args : List Int) : ∀ x ∈ inE args, p9 (inS args) x := fun x hx => by
 obtain ⟨i, hi, rfl⟩ := List.mem_map.1 hx
 have := List.mem_range.1 hi
 exact ⟨by omega, by simp [inS]; omega⟩
theorem bAI (args : List Int) : sv (inS args) (inE args) = args.map fun n => [n] := by
 apply List.ext_getElem
 ·simp [sv, inE]
 ·intro i h1 h2
  simp [sv, inE, inS, dU.val]
  simp at h2
  rw [List.getElem?_eq_getElem h2]; rfl
def aH0 (p : aE) (f : Int) (args : List Int) : Out (List Int × dU) := rD (fun t e S => fC p 3001 t e (inE args) S) (p.outs f) 0 (inS args)
theorem aFX {p : aE} (hp : p.ok) (f : Int) (hf : 0 ≤ f ∧ f < p.aI.length) (args : List Int) (ha : eD args) (hl : ∀ F, p.aI[f.toNat]? = some F → (args.length : Int) = F.aW) :
  uG (aAO args.length (inS args) 0 (p.outs f).length) (aH0 p f args) ∧ mN sRL (aH0 p f args) (vC p 1 f (args.map fun n => [n])) := by
 obtain ⟨F, ef, hF1, hF2, hF3, hF4⟩ := kR hp hf
 have hla := hl F ef
 have hg := aHZ args ha (by omega)
 have hin := aRA args
 have hel : (inE args).length = args.length := by simp [inE]
 have hx2 : ∀ x ∈ p.outs f, ∀ u S'', Good args.length S'' u → (inS args).ext S'' → pF (inS args) 0 S'' u → uG (aHW args.length S'' u) (fC p 3001 u x (inE args) S'') ∧ mN sR1 (fC p 3001 u x (inE args) S'') (iY p 1 3001 u x (args.map fun n => [n])) := fun x hx u S'' a b c => by
  have hxo : x.ok p f (inE args).length := by rw [hel, hla]; exact hF4 x (by rw [← hF3]; exact hx)
  refine ⟨uH hp _ u x _ S'' f hxo (by omega) a c.2.2.2 fun y hy => (hin y hy).ext b, ?_⟩
  have := aPE hp 3001 u x (inE args) S'' f hxo (by omega) a c.2.2.2 fun y hy => (hin y hy).ext b
  rwa [aHY hin b, bAI] at this
 exact ⟨lD _ _ _ hg (by omega) fun x hx u S'' a b c => (hx2 x hx u S'' a b c).1, wC _ _ _ hg (by omega) hx2⟩
set_option maxRecDepth 100000
open Go.Proofs
set_option linter.unusedVariables false
set_option linter.unusedSimpArgs false
def c4 (p : aE) (inp : Int) (S : dU) (om og ov : Option Nat) (st : Nat) (c : Int) : bP :=
 .row 8 [[.v (eZ 3 aT.c p.aI), .v (I inp), .v (jR 4 S.code.length om), .v (jR 2 S.guards.length og), .v .bH, .v (jR 1 S.gQ.length ov), .v (I st), .v (I c)]]
def aH1 (h : aB) (sz : Nat) (rows : List (List Cell)) : Option Nat → Prop
 |none => rows = []
 |some m => rows ≠ [] ∧ h m = some (.row sz rows)
def rowsOf {α : Type} (c : α → List aD) (l : List α) : List (List Cell) := (l.map c).map (List.map .v)
theorem mA {α : Type} (c : α → List aD) (l : List α) : (rowsOf c l).length = l.length := by simp [rowsOf]
theorem uI {α : Type} (c : α → List aD) (l : List α) (x : α) : rowsOf c (l ++ [x]) = rowsOf c l ++ [(c x).map .v] := by simp [rowsOf]
theorem nQ {α : Type} {c : α → List aD} {l : List α} : rowsOf c l = [] ↔ l = [] := by simp [rowsOf]
structure wD (bx : dU → Option Nat → Option Nat → Option Nat → bP) (h0 : aB) (nb : Nat) (S : dU) (om og ov : Option Nat) (h : aB) : Prop where
 box : h nb = some (bx S om og ov)
 odd : ∀ S om og ov, ∃ sz cs, bx S om og ov = .row sz cs ∧ ¬ sz = 1 ∧ ¬ sz = 2 ∧ ¬ sz = 4
 code : aH1 h 4 (rowsOf bQ.c S.code) om
 gds : aH1 h 2 (rowsOf gI.c S.guards) og
 gQ : aH1 h 1 (rowsOf (fun n => [I n]) S.gQ) ov
 fresh : ∀ n, n = nb ∨ some n = om ∨ some n = og ∨ some n = ov → h0 n = none
 upto : ∀ n, ¬ n = nb → ¬ some n = om → ¬ some n = og → ¬ some n = ov → h n = h0 n
def qA (bx : dU → Option Nat → Option Nat → Option Nat → bP) (h0 : aB) (nb : Nat) (S : dU) (h : aB) : Prop := ∃ om og ov, wD bx h0 nb S om og ov h
abbrev a7A (h0 : aB) (nb : Nat) (p : aE) (inp : Int) (S : dU) (st : Nat) (c : Int) (om og ov : Option Nat) (h : aB) : Prop := wD (fun S om og ov => c4 p inp S om og ov st c) h0 nb S om og ov h
abbrev jI (h0 : aB) (nb : Nat) (p : aE) (inp : Int) (S : dU) (st : Nat) (c : Int) (h : aB) : Prop := qA (fun S om og ov => c4 p inp S om og ov st c) h0 nb S h
theorem aH2 (p : aE) (inp : Int) (st : Nat) (c : Int) : ∀ S om og ov, ∃ sz cs, c4 p inp S om og ov st c = .row sz cs ∧ ¬ sz = 1 ∧ ¬ sz = 2 ∧ ¬ sz = 4 := fun S om og ov => ⟨8, _, rfl, by decide, by decide, by decide⟩
theorem wD.kinds {h0 h : aB} {nb : Nat} {bx : dU → Option Nat → Option Nat → Option Nat → bP} {S : dU} {om og ov : Option Nat} (H : wD bx h0 nb S om og ov h) (n : Nat) :
  (n = nb → h n = some (bx S om og ov)) ∧ (some n = om → h n = some (.row 4 (rowsOf bQ.c S.code))) ∧ (some n = og → h n = some (.row 2 (rowsOf gI.c S.guards))) ∧ (some n = ov → h n = some (.row 1 (rowsOf (fun n => [I n]) S.gQ))) :=
 ⟨fun e => e ▸ H.box, fun e => by have := H.code; rw [← e] at this; exact this.2, fun e => by have := H.gds; rw [← e] at this; exact this.2, fun e => by have := H.gQ; rw [← e] at this; exact this.2⟩
theorem wD.apart {h0 h : aB} {nb : Nat} {bx : dU → Option Nat → Option Nat → Option Nat → bP} {S : dU} {om og ov : Option Nat} (H : wD bx h0 nb S om og ov h) (n : Nat) :
  (n = nb → ¬ some n = om ∧ ¬ some n = og ∧ ¬ some n = ov) ∧ (some n = om → ¬ some n = og ∧ ¬ some n = ov) ∧ (some n = og → ¬ some n = ov) ∧ (h n = none → ¬ n = nb ∧ ¬ some n = om ∧ ¬ some n = og ∧ ¬ some n = ov) := by
 obtain ⟨k1, k2, k3, k4⟩ := H.kinds n
 obtain ⟨sz, cs, hB, o1, o2, o4⟩ := H.odd S om og ov
 rw [hB] at k1
 refine ⟨fun e => ⟨fun q => ?_, fun q => ?_, fun q => ?_⟩, fun e => ⟨fun q => ?_, fun q => ?_⟩, fun e q => ?_, fun e => ⟨fun q => ?_, fun q => ?_, fun q => ?_, fun q => ?_⟩⟩
 ·have := (k1 e).symm.trans (k2 q); simp at this; exact o4 this.1
 ·have := (k1 e).symm.trans (k3 q); simp at this; exact o2 this.1
 ·have := (k1 e).symm.trans (k4 q); simp at this; exact o1 this.1
 ·have := (k2 e).symm.trans (k3 q); simp at this
 ·have := (k2 e).symm.trans (k4 q); simp at this
 ·have := (k3 e).symm.trans (k4 q); simp at this
 ·have := (k1 q); rw [e] at this; cases this
 ·have := (k2 q); rw [e] at this; cases this
 ·have := (k3 q); rw [e] at this; cases this
 ·have := (k4 q); rw [e] at this; cases this
theorem wD.put {h0 h F : aB} {nb : Nat} {bx : dU → Option Nat → Option Nat → Option Nat → bP} {S : dU} {om og ov : Option Nat} (H : wD bx h0 nb S om og ov h) (x : bQ) (v : Int) {b b2 : Nat} (hb : h b = none) (vK : h b2 = none) (hne : ¬ b2 = b)
  (f1 : F nb = some (bx (S.put x v) (some b) og (some b2))) (f2 : F b = some (.row 4 (rowsOf bQ.c (S.code ++ [x])))) (f3 : F b2 = some (.row 1 (rowsOf (fun n => [I n]) (S.gQ ++ [v]))))
  (f4 : ∀ n, ¬ n = nb → ¬ n = b → ¬ n = b2 → ¬ some n = om → ¬ some n = ov → F n = h n) : ∃ g : aB, g.le F ∧ qA bx h0 nb (S.put x v) g := by
 have a1 := (H.apart nb).1 rfl
 have a2 := (H.apart b).2.2.2 hb
 have a3 := (H.apart b2).2.2.2 vK
 have g1 : ∀ n, some n = om ∨ some n = ov → h0 n = none := fun n hn => H.fresh n (by rcases hn with hn | hn; exact .inr (.inl hn); exact .inr (.inr (.inr hn)))
 have g2 : h0 b = none := (H.upto b a2.1 a2.2.1 a2.2.2.1 a2.2.2.2).symm.trans hb
 have g3 : h0 b2 = none := (H.upto b2 a3.1 a3.2.1 a3.2.2.1 a3.2.2.2).symm.trans vK
 have get : ∀ n, ¬ some n = om → ¬ some n = ov → (fun n => if some n = om ∨ some n = ov then none else F n) n = F n := fun n h1 h2 => if_neg (by rintro (q | q); exact h1 q; exact h2 q)
 refine ⟨fun n => if some n = om ∨ some n = ov then none else F n, fun n => ?_, some b, og, some b2, ⟨?_, H.odd, ⟨by simp [rowsOf, dU.put], ?_⟩, ?_, ⟨by simp [rowsOf, dU.put], ?_⟩, fun n hn => ?_, fun n h1 h2 h3 h4 => ?_⟩⟩
 ·by_cases e : some n = om ∨ some n = ov
  ·exact .inl (if_pos e)
  ·exact .inr (if_neg e)
 ·exact (get nb a1.1 a1.2.2).trans f1
 ·exact (get b a2.2.1 a2.2.2.2).trans f2
 ·have hg := H.gds
  cases og with
  |none => exact hg
  |some k =>
   have ak := (H.apart k)
   have hk := hg.2
   refine ⟨hg.1, (get k (fun q => ak.2.1 q |>.1 rfl) (fun q => ak.2.2.1 rfl q)).trans ?_⟩
   rw [f4 k (fun q => (ak.1 q).2.1 rfl) (fun q => by rw [q, hb] at hk; cases hk) (fun q => by rw [q, vK] at hk; cases hk) (fun q => ak.2.1 q |>.1 rfl) (fun q => ak.2.2.1 rfl q)]
   exact hk
 ·exact (get b2 a3.2.1 a3.2.2.2).trans f3
 ·rcases hn with rfl | hn | hn | hn
  ·exact H.fresh _ (.inl rfl)
  ·obtain rfl := Option.some.inj hn; exact g2
  ·exact H.fresh n (.inr (.inr (.inl hn)))
  ·obtain rfl := Option.some.inj hn; exact g3
 ·have h2' : ¬ n = b := fun q => h2 (by rw [q])
  have h4' : ¬ n = b2 := fun q => h4 (by rw [q])
  by_cases e : some n = om ∨ some n = ov
  ·exact (if_pos e).trans (g1 n e).symm
  ·have e1 : ¬ some n = om := fun q => e (.inl q)
   have e2 : ¬ some n = ov := fun q => e (.inr q)
   exact ((get n e1 e2).trans (f4 n h1 h2' h4' e1 e2)).trans (H.upto n h1 e1 h3 e2)
@[go_sem] def aY1 : List Nat := [0, 1, 2, 4, 6]
@[go_sem] def bH7 : List Nat := [4, 15, 22]
@[go_sem] def bH8 : Marks := fun id => match id with | 1 => ([6, 9, 13, 16, 20, 23], (.op 0 (.op 1 (.op 2 (.op 3 (.op 4 (.op 5 (.op 7 (.op 8 (.op 10 (.op 11 (.op 12 (.op 14 (.op 15 (.op 6 (.op 13 (.op 9 (.op 16 (.op 17 (.op 18 (.op 19 (.op 20 (.op 21 (.op 22 (.op 23 .nil)))))))))))))))))))))))), [(13, 9)]) | _ => ([], .nil, [])
theorem aH3 {h0 h : aB} {nb : Nat} {p : aE} {inp : Int} {S : dU} {st : Nat} {c : Int} (H : jI h0 nb p inp S st c h) (x : bQ) (v : Int) (hl : S.code.length = S.gQ.length) (hcap : S.gQ.length ≤ 1048576) :
  iH Tryz.prog 40 [.op nb 8 0 0, .agg x.c, I v] h fun r h' => r = I S.gQ.length ∧ jI h0 nb p inp (S.put x v) st c h' := by
 obtain ⟨om, og, ov, H⟩ := H
 have hb := H.box
 have hc := H.code
 have hv := H.gQ
 unfold c4 at hb
 rw [bQ.aU]
 cases om with
 |none =>
  have hc0 : S.code = [] := nQ.1 hc
  cases ov with
  |some v =>
   have uY : S.gQ = [] := List.eq_nil_of_length_eq_zero (by rw [← hl, hc0]; rfl)
   exact absurd (by rw [uY]; rfl) hv.1
  |none =>
   have uY : S.gQ = [] := nQ.1 hv
   refine j4 35 aY1 bH7 bH8 mix Tryz.func40 rfl (by kernel_rfl) (by simp) ?_
   simp -dsimp -implicitDefEqProofs only [go_sem, ↓reduceIte, Tryz.f40, hb, kW]
   refine ⟨by decide, by decide, by decide, by decide, by decide, fun m hm => ?_⟩
   have fU : ¬ m = nb := fun e => by rw [e, hb] at hm; cases hm
   have gC : ¬ nb = m := Ne.symm fU
   have iF : (m = nb) = False := eq_false fU
   have iG : (nb = m) = False := eq_false gC
   refine ⟨by rw [aA _ _ _ _ gC, hb]; rfl, by decide, fun w ⟨hwm, hw⟩ => ?_⟩
   have xF : ¬ w = nb := fun e => by rw [e, hb] at hw; cases hw
   have aH4 : ¬ nb = w := Ne.symm xF
   have vG : (w = nb) = False := eq_false xF
   have vH : (nb = w) = False := eq_false aH4
   have aJX : ¬ w = m := hwm
   have aTT : ¬ m = w := Ne.symm aJX
   have aPF : (w = m) = False := eq_false aJX
   have aPG : (m = w) = False := eq_false aTT
   try simp -dsimp -implicitDefEqProofs only [go_sem, ↓reduceIte, Tryz.f40, hb, iF, aPG, iG, vH, aPF, vG, aA]
   obtain ⟨g, hg, hR⟩ := H.put x v hm hw aJX (F := aR (aR (aR h m (.row 4 [x.c.map .v])) w (.row 1 [[.v (I v)]])) nb (c4 p inp (S.put x v) (some m) og (some w) st c)) (aG _ _ _)
    (by rw [aA _ _ _ _ fU, aA _ _ _ _ aTT, aG, hc0]; rfl) (by rw [aA _ _ _ _ xF, aG, uY]; rfl) (fun n h1 h2 h3 _ _ => by rw [aA _ _ _ _ h1, aA _ _ _ _ h3, aA _ _ _ _ h2])
   refine ⟨_, g, cM ?_, by rw [uY]; rfl, hR⟩
   rw [aK]
   unfold c4 at hg
   simp only [dU.put, hc0, uY, bY, bQ.aU] at hg
   exact hg
 |some m =>
  cases ov with
  |none =>
   have uY : S.gQ = [] := nQ.1 hv
   have hc0 : S.code = [] := List.eq_nil_of_length_eq_zero (by rw [hl, uY]; rfl)
   exact absurd (by rw [hc0]; rfl) hc.1
  |some w =>
   have hm := hc.2
   have hw := hv.2
   have fU : ¬ m = nb := fun e => by rw [e, hb] at hm; cases hm
   have gC : ¬ nb = m := Ne.symm fU
   have iF : (m = nb) = False := eq_false fU
   have iG : (nb = m) = False := eq_false gC
   have xF : ¬ w = nb := fun e => by rw [e, hb] at hw; cases hw
   have aH4 : ¬ nb = w := Ne.symm xF
   have vG : (w = nb) = False := eq_false xF
   have vH : (nb = w) = False := eq_false aH4
   have aJX : ¬ w = m := fun e => by rw [e, hm] at hw; cases hw
   have aTT : ¬ m = w := Ne.symm aJX
   have aPF : (w = m) = False := eq_false aJX
   have aPG : (m = w) = False := eq_false aTT
   refine j4 35 aY1 bH7 bH8 mix Tryz.func40 rfl (by kernel_rfl) (by simp) ?_
   simp -dsimp -implicitDefEqProofs only [go_sem, ↓reduceIte, Tryz.f40, hb, bY, hm, hw, iF, aPG, iG, vH, aPF, vG, aA]
   refine ⟨by decide, by decide, by decide, by decide, by decide, by rw [mA]; exact Nat.le_refl _, by omega, by omega, fun b sQ => ?_⟩
   have dC : ¬ b = nb := fun e => by rw [e, hb] at sQ; cases sQ
   have jO : ¬ nb = b := Ne.symm dC
   have eV : (b = nb) = False := eq_false dC
   have eW : (nb = b) = False := eq_false jO
   have fJ : ¬ b = m := fun e => by rw [e, hm] at sQ; cases sQ
   have lC : ¬ m = b := Ne.symm fJ
   have kF : (b = m) = False := eq_false fJ
   have kG : (m = b) = False := eq_false lC
   have aY2 : ¬ b = w := fun e => by rw [e, hw] at sQ; cases sQ
   have bH9 : ¬ w = b := Ne.symm aY2
   have a7B : (b = w) = False := eq_false aY2
   have a7C : (w = b) = False := eq_false bH9
   refine ⟨by rw [aA _ _ _ _ jO, aA _ _ _ _ gC, hb]; rfl, by decide, ?_⟩
   try simp -dsimp -implicitDefEqProofs only [go_sem, ↓reduceIte, Tryz.f40, hb, hw, iF, aPG, kG, iG, vH, eW, aPF, vG, a7C, kF, eV, a7B, aA]
   refine ⟨by rw [mA]; exact Nat.le_refl _, by omega, by omega, fun b2 ⟨bO3, bO4, vK⟩ => ?_⟩
   have aLZ : ¬ b2 = nb := fun e => by rw [e, hb] at vK; cases vK
   have a3S : ¬ nb = b2 := Ne.symm aLZ
   have a3T : (b2 = nb) = False := eq_false aLZ
   have a3U : (nb = b2) = False := eq_false a3S
   have aY3 : ¬ b2 = m := bO4
   have bAJ : ¬ m = b2 := Ne.symm aY3
   have bAK : (b2 = m) = False := eq_false aY3
   have bAL : (m = b2) = False := eq_false bAJ
   have aY4 : ¬ b2 = w := fun e => by rw [e, hw] at vK; cases vK
   have bAM : ¬ w = b2 := Ne.symm aY4
   have bAN : (b2 = w) = False := eq_false aY4
   have bAO : (w = b2) = False := eq_false bAM
   have aRB : ¬ b2 = b := bO3
   have aY5 : ¬ b = b2 := Ne.symm aRB
   have bAP : (b2 = b) = False := eq_false aRB
   have bAQ : (b = b2) = False := eq_false aY5
   simp -dsimp -implicitDefEqProofs only [go_sem, ↓reduceIte, Tryz.f40, hb, hw, iF, aPG, kG, bAL, iG, vH, eW, a3U, aPF, vG, a7C, bAO, kF, eV, a7B, bAQ, bAK, a3T, bAN, bAP, aA]
   rw [List.take_of_length_le (by rw [mA]; exact Nat.le_refl _), List.take_of_length_le (by rw [mA]; exact Nat.le_refl _)]
   obtain ⟨g, hg, hR⟩ := H.put x v sQ vK aRB (F := aR (aR (aR (aR (aR h m .gone) b (.row 4 (rowsOf bQ.c S.code ++ [x.c.map .v]))) w .gone) b2 (.row 1 (rowsOf (fun n => [I n]) S.gQ ++ [[.v (I v)]]))) nb (c4 p inp (S.put x v) (some b) og (some b2) st c)) (aG _ _ _)
    (by rw [aA _ _ _ _ dC, aA _ _ _ _ aY5, aA _ _ _ _ aY2, aG, uI]) (by rw [aA _ _ _ _ aLZ, aG, uI]; rfl)
    (fun n h1 h2 h3 h4 h5 => by rw [aA _ _ _ _ h1, aA _ _ _ _ h3, aA _ _ _ _ (fun q => h5 (by rw [q])), aA _ _ _ _ h2, aA _ _ _ _ (fun q => h4 (by rw [q]))])
   refine fun _ => ⟨_, g, cM ?_, ?_, hR⟩
   ·rw [aK]
    unfold c4 at hg
    simp only [dU.put, bY, bQ.aU, List.length_append, List.length_singleton] at hg
    exact hg
   ·rw [IntWalk.i64_in _ (by omega)]
    congr 1
    omega
theorem wD.set {h0 h : aB} {nb : Nat} {p : aE} {inp : Int} {S : dU} {st : Nat} {c : Int} {om og ov : Option Nat} (H : a7A h0 nb p inp S st c om og ov h) (st' : Nat) (c' : Int) : a7A h0 nb p inp S st' c' om og ov (aR h nb (c4 p inp S om og ov st' c')) := by
 have a1 := (H.apart nb).1 rfl
 have hr : ∀ (o : Option Nat) (sz : Nat) (rows : List (List Cell)), ¬ some nb = o → aH1 h sz rows o → aH1 (aR h nb (c4 p inp S om og ov st' c')) sz rows o := fun o sz rows hn ho => by
  cases o with
  |none => exact ho
  |some m => exact ⟨ho.1, (aA _ _ _ _ fun q => hn (by rw [q])).trans ho.2⟩
 exact ⟨aG _ _ _, aH2 _ _ _ _, hr _ _ _ a1.1 H.code, hr _ _ _ a1.2.1 H.gds, hr _ _ _ a1.2.2 H.gQ, H.fresh, fun n h1 h2 h3 h4 => (aA _ _ _ _ h1).trans (H.upto n h1 h2 h3 h4)⟩
theorem qA.aPH {h0 h : aB} {nb : Nat} {bx : dU → Option Nat → Option Nat → Option Nat → bP} {S : dU} (H : qA bx h0 nb S h) {m : Nat} {o : bP} (hm : h m = none) : qA bx (aR h0 m o) nb S (aR h m o) := by
 obtain ⟨om, og, ov, H⟩ := H
 have a := (H.apart m).2.2.2 hm
 have hr : ∀ (q : Option Nat) (sz : Nat) (rows : List (List Cell)), ¬ some m = q → aH1 h sz rows q → aH1 (aR h m o) sz rows q := fun q sz rows hn ho => by
  cases q with
  |none => exact ho
  |some k => exact ⟨ho.1, (aA _ _ _ _ fun e => hn (by rw [e])).trans ho.2⟩
 refine ⟨om, og, ov, (aA _ _ _ _ fun e => a.1 e.symm).trans H.box, H.odd, hr _ _ _ a.2.1 H.code, hr _ _ _ a.2.2.1 H.gds, hr _ _ _ a.2.2.2 H.gQ, fun n hn => ?_, fun n h1 h2 h3 h4 => ?_⟩
 ·have hnm : ¬ n = m := fun e => by
   subst e
   rcases hn with hn | hn | hn | hn
   ·exact a.1 hn
   ·exact a.2.1 hn
   ·exact a.2.2.1 hn
   ·exact a.2.2.2 hn
  exact (aA _ _ _ _ hnm).trans (H.fresh n hn)
 ·by_cases e : n = m
  ·rw [e, aG, aG]
  ·rw [aA _ _ _ _ e, aA _ _ _ _ e]; exact H.upto n h1 h2 h3 h4
theorem qA.base {h0 h : aB} {nb : Nat} {bx : dU → Option Nat → Option Nat → Option Nat → bP} {S : dU} {m : Nat} {o : bP} (H : qA bx (aR h0 m o) nb S h) (hm : h0 m = none) : ∃ g, h = aR g m o ∧ g m = none ∧ qA bx h0 nb S g := by
 obtain ⟨om, og, ov, H⟩ := H
 have hne : ∀ n, (n = nb ∨ some n = om ∨ some n = og ∨ some n = ov) → ¬ n = m := fun n hn e => by
  have := H.fresh n hn
  rw [e, aG] at this; cases this
 have hmo : h m = some o := (H.upto m (fun e => hne m (.inl e) rfl) (fun e => hne m (.inr (.inl e)) rfl) (fun e => hne m (.inr (.inr (.inl e))) rfl) (fun e => hne m (.inr (.inr (.inr e))) rfl)).trans (aG _ _ _)
 have get : ∀ n, ¬ n = m → (fun n => if n = m then none else h n) n = h n := fun n hn => if_neg hn
 have hr : ∀ (q : Option Nat) (sz : Nat) (rows : List (List Cell)), (∀ n, some n = q → ¬ n = m) → aH1 h sz rows q → aH1 (fun n => if n = m then none else h n) sz rows q := fun q sz rows hn ho => by
  cases q with
  |none => exact ho
  |some k => exact ⟨ho.1, (get k (hn k rfl)).trans ho.2⟩
 refine ⟨fun n => if n = m then none else h n, ?_, if_pos rfl, om, og, ov, (get nb (hne nb (.inl rfl))).trans H.box, H.odd, hr _ _ _ (fun n e => hne n (.inr (.inl e))) H.code, hr _ _ _ (fun n e => hne n (.inr (.inr (.inl e)))) H.gds, hr _ _ _ (fun n e => hne n (.inr (.inr (.inr e)))) H.gQ, fun n hn => ?_, fun n h1 h2 h3 h4 => ?_⟩
 ·funext n
  by_cases e : n = m
  ·rw [e, aG, hmo]
  ·rw [aA _ _ _ _ e]; exact (get n e).symm
 ·have := H.fresh n hn
  rwa [aA _ _ _ _ (hne n hn)] at this
 ·by_cases e : n = m
  ·subst e; exact (if_pos rfl).trans hm.symm
  ·have := H.upto n h1 h2 h3 h4
   rw [aA _ _ _ _ e] at this
   exact (get n e).trans this
theorem qA.none {h0 h : aB} {nb : Nat} {bx : dU → Option Nat → Option Nat → Option Nat → bP} {S : dU} (H : qA bx h0 nb S h) {m : Nat} (hm : h m = none) : h0 m = none := by
 obtain ⟨om, og, ov, H⟩ := H
 have a := (H.apart m).2.2.2 hm
 exact (H.upto m a.1 a.2.1 a.2.2.1 a.2.2.2).symm.trans hm
theorem wD.guard {h0 h F : aB} {nb : Nat} {bx : dU → Option Nat → Option Nat → Option Nat → bP} {S : dU} {om og ov : Option Nat} (H : wD bx h0 nb S om og ov h) (x : gI) {b : Nat} (hb : h b = none)
  (f1 : F nb = some (bx (S.guard x) om (some b) ov)) (f2 : F b = some (.row 2 (rowsOf gI.c (S.guards ++ [x]))))
  (f4 : ∀ n, ¬ n = nb → ¬ n = b → ¬ some n = og → F n = h n) : ∃ g : aB, g.le F ∧ wD bx h0 nb (S.guard x) om (some b) ov g := by
 have a1 := (H.apart nb).1 rfl
 have a2 := (H.apart b).2.2.2 hb
 have g2 : h0 b = none := (H.upto b a2.1 a2.2.1 a2.2.2.1 a2.2.2.2).symm.trans hb
 have get : ∀ n, ¬ some n = og → (fun n => if some n = og then none else F n) n = F n := fun n h1 => if_neg h1
 have hr : ∀ (q : Option Nat) (sz : Nat) (rows : List (List Cell)), (∀ n, some n = q → ¬ n = nb ∧ ¬ n = b ∧ ¬ some n = og) → aH1 h sz rows q → aH1 (fun n => if some n = og then none else F n) sz rows q := fun q sz rows hn ho => by
  cases q with
  |none => exact ho
  |some k =>
   obtain ⟨e1, e2, e3⟩ := hn k rfl
   exact ⟨ho.1, ((get k e3).trans (f4 k e1 e2 e3)).trans ho.2⟩
 refine ⟨fun n => if some n = og then none else F n, fun n => ?_, ⟨?_, H.odd, hr _ _ _ (fun n e => ⟨fun q => ((H.apart n).1 q).1 e, fun q => a2.2.1 (by rw [← q]; exact e), ((H.apart n).2.1 e).1⟩) H.code, ⟨by simp [rowsOf, dU.guard], ?_⟩, hr _ _ _ (fun n e => ⟨fun q => ((H.apart n).1 q).2.2 e, fun q => a2.2.2.2 (by rw [← q]; exact e), fun q => (H.apart n).2.2.1 q e⟩) H.gQ, fun n hn => ?_, fun n h1 h2 h3 h4 => ?_⟩⟩
 ·by_cases e : some n = og
  ·exact .inl (if_pos e)
  ·exact .inr (if_neg e)
 ·exact (get nb a1.2.1).trans f1
 ·exact (get b a2.2.2.1).trans f2
 ·rcases hn with rfl | hn | hn | hn
  ·exact H.fresh _ (.inl rfl)
  ·exact H.fresh n (.inr (.inl hn))
  ·obtain rfl := Option.some.inj hn; exact g2
  ·exact H.fresh n (.inr (.inr (.inr hn)))
 ·have h3' : ¬ n = b := fun q => h3 (by rw [q])
  by_cases e : some n = og
  ·exact (if_pos e).trans (H.fresh n (.inr (.inr (.inl e)))).symm
  ·exact ((get n e).trans (f4 n h1 h3' e)).trans (H.upto n h1 h2 e h4)
set_option maxRecDepth 100000
open Go.Proofs
set_option linter.unusedVariables false
set_option linter.unusedSimpArgs false
@[go_sem] def a3V : List Nat := [0, 1, 4]
@[go_sem] def bIA : List Nat := []
@[go_sem] def bIB : Marks := fun _ => ([], .nil, [])
theorem zD (a b : Int) (ha : jA a) (hb : jA b) : fL Tryz.prog 152 [I a, I b] (I (a * b % 1000003)) := by
 have h1 := num_mul ha hb
 unfold jA at ha hb
 refine fT 11 a3V bIA bIB mix Tryz.func152 rfl (by kernel_rfl) (by simp) fun h => ?_
 simp -dsimp -implicitDefEqProofs only [go_sem, ↓reduceIte, Tryz.f152]
 first | refine aH.mk (h8 a) ?_ | refine aF.mk (h8 a) ?_ | refine aH.bS (h8 a) ?_ | refine aF.mk (bM.eQ (h8 a)) ?_
 simp -dsimp -implicitDefEqProofs only [go_sem, ↓reduceIte, Tryz.f152]
 first | refine aH.mk (h8 b) ?_ | refine aF.mk (h8 b) ?_ | refine aH.bS (h8 b) ?_ | refine aF.mk (bM.eQ (h8 b)) ?_
 simp -dsimp -implicitDefEqProofs only [go_sem, ↓reduceIte, Tryz.f152]
 rw [Int.emod_eq_of_lt ha.1 (by omega), Int.emod_eq_of_lt hb.1 (by omega), aQ2 h1.1 (by omega)]
@[go_sem] def a3W : List Nat := [0, 1, 2, 3, 6, 7, 9, 10, 15, 20, 25, 30]
@[go_sem] def bIC : List Nat := [3]
@[go_sem] def bID : Marks := fun _ => ([], .nil, [])
theorem aY6 (x : bQ) (a b : Int) (ha : jA a) (hb : jA b) (hk : x.j0 = 3 ∨ x.j0 = 4 ∨ x.j0 = 5 ∨ x.j0 = 6 ∨ x.j0 = 7) : fL Tryz.prog 127 [.agg x.c, I a, I b] (.iI [I ((opV x.j0 a b).getD 0), .bool (opV x.j0 a b).isSome]) := by
 rw [bQ.aU]
 have hni : jA (o5 b) := num_inv b
 refine fT 35 a3W bIC bID mix Tryz.func127 rfl (by kernel_rfl) (by simp) fun h => ?_
 simp -dsimp -implicitDefEqProofs only [go_sem, ↓reduceIte, Tryz.f127]
 refine ⟨fun q => ?_, fun q => ⟨fun q4 => ?_, fun q4 => ⟨fun q5 => ?_, fun q5 => ⟨fun q7 => ?_, fun q7 => ⟨fun qb => ?_, fun qb => ?_⟩⟩⟩⟩⟩
 ·first | refine aH.mk (aDY a b) ?_ | refine aF.mk (aDY a b) ?_ | refine aH.bS (aDY a b) ?_ | refine aF.mk (bM.eQ (aDY a b)) ?_
  simp -dsimp -implicitDefEqProofs only [go_sem, ↓reduceIte, Tryz.f127]
  unfold opV; rw [if_pos q]; rfl
 ·first | refine aH.mk (minus a b) ?_ | refine aF.mk (minus a b) ?_ | refine aH.bS (minus a b) ?_ | refine aF.mk (bM.eQ (minus a b)) ?_
  simp -dsimp -implicitDefEqProofs only [go_sem, ↓reduceIte, Tryz.f127]
  unfold opV; rw [if_neg q, if_pos q4]; rfl
 ·first | refine aH.mk (zD a b ha hb) ?_ | refine aF.mk (zD a b ha hb) ?_ | refine aH.bS (zD a b ha hb) ?_ | refine aF.mk (bM.eQ (zD a b ha hb)) ?_
  simp -dsimp -implicitDefEqProofs only [go_sem, ↓reduceIte, Tryz.f127]
  unfold opV; rw [if_neg q, if_neg q4, if_pos q5]; rfl
 ·first | refine aH.mk (minus 0 a) ?_ | refine aF.mk (minus 0 a) ?_ | refine aH.bS (minus 0 a) ?_ | refine aF.mk (bM.eQ (minus 0 a)) ?_
  simp -dsimp -implicitDefEqProofs only [go_sem, ↓reduceIte, Tryz.f127]
  unfold opV; rw [if_neg q, if_neg q4, if_neg q5, if_pos q7]; rfl
 ·unfold opV; rw [if_neg q, if_neg q4, if_neg q5, if_neg q7, if_pos qb]; rfl
 ·first | refine aH.mk (uC b) ?_ | refine aF.mk (uC b) ?_ | refine aH.bS (uC b) ?_ | refine aF.mk (bM.eQ (uC b)) ?_
  simp -dsimp -implicitDefEqProofs only [go_sem, ↓reduceIte, Tryz.f127]
  first | refine aH.mk (zD a (o5 b) ha hni) ?_ | refine aF.mk (zD a (o5 b) ha hni) ?_ | refine aH.bS (zD a (o5 b) ha hni) ?_ | refine aF.mk (bM.eQ (zD a (o5 b) ha hni)) ?_
  simp -dsimp -implicitDefEqProofs only [go_sem, ↓reduceIte, Tryz.f127]
  unfold opV; rw [if_neg q, if_neg q4, if_neg q5, if_neg q7, if_neg qb]; rfl
theorem Good.val {inp : Int} {S : dU} {t : Nat} (h : Good inp S t) (k : Int) : jA (S.val k) := h.a3O.get _
theorem wD.row {h0 h : aB} {nb : Nat} {bx : dU → Option Nat → Option Nat → Option Nat → bP} {S : dU} {om og ov : Option Nat} (H : wD bx h0 nb S om og ov h) {k : Int} (hk : p9 S k) : ∃ w, ov = some w ∧ h w = some (.row 1 (rowsOf (fun n => [I n]) S.gQ)) ∧ ¬ w = nb := by
 have hv := H.gQ
 cases ov with
 |none => have := nQ.1 hv; have h2 := hk.1; have h3 := hk.2; rw [this] at h3; simp at h3; omega
 |some w => exact ⟨w, rfl, hv.2, fun e => ((H.apart w).1 e).2.2 rfl⟩
theorem aA8 {S : dU} {k : Int} (hk : p9 S k) : (rowsOf (fun n => [I n]) S.gQ)[k.toNat]? = some [.v (I (S.val k))] := by
 have h1 := hk.1
 have h2 := hk.2
 rw [rowsOf, List.getElem?_map, List.getElem?_map, List.getElem?_eq_getElem (by omega), dU.val, List.getD_eq_getElem?_getD, List.getElem?_eq_getElem (by omega)]; rfl
@[go_sem] def a3X : List Nat := [0, 1, 2, 6, 7, 8, 9, 16, 43]
@[go_sem] def bIE : List Nat := []
@[go_sem] def bIF : Marks := fun id => match id with | 4 => ([0, 4, 6, 8, 12, 14, 16], (.op 1 (.op 2 (.op 3 (.op 5 (.op 9 (.op 10 (.op 11 (.op 13 (.op 0 (.op 4 (.op 6 (.op 7 (.op 8 (.op 12 (.op 14 (.op 15 (.op 16 (.op 17 (.op 18 (.op 19 (.op 20 (.op 21 (.op 22 .nil))))))))))))))))))))))), []) | _ => ([], .nil, [])
theorem qB {h0 h : aB} {nb : Nat} {p : aE} {inp : Int} {S : dU} {st : Nat} (H : jI h0 nb p inp S st 0 h) (hg : Good inp S st) (hst : st ≤ 3000) (k : Int) (vs : List Int) (hk : k = 3 ∨ k = 4 ∨ k = 5 ∨ k = 6 ∨ k = 7) (h1 : 1 ≤ vs.length) (h2 : ¬ k = 7 → 2 ≤ vs.length) (hv : ∀ x ∈ vs, p9 S x) (hl : vs.length ≤ 1048576) :
  iH Tryz.prog 104 [.op nb 8 0 0, I k, ints vs] h fun r h' => ∃ j S' c', r = I j ∧ jI h0 nb p inp S' st c' h' ∧ jF (opR k vs S st) (j, S') st c' := by
 obtain ⟨om, og, ov, H⟩ := H
 have at_ : ∀ i, i < vs.length → p9 S (vs.getD i 0) := fun i hi => by
  rw [List.getD_eq_getElem?_getD, List.getElem?_eq_getElem hi]
  exact hv _ (List.getElem_mem _)
 have i0 := at_ 0 (by omega)
 have iB : p9 S (opB k vs) := by
  unfold opB
  split
  ·have a := i0.1; have b := i0.2; exact ⟨Int.le_refl _, by omega⟩
  ·exact at_ 1 (h2 (by assumption))
 obtain ⟨w, rfl, hw, dw⟩ := H.row i0
 have hb := H.box
 unfold c4 at hb
 rw [bY] at hb
 have g0 : vs[Int.toNat 0]? = some (vs.getD 0 0) := dS (by omega)
 have r0 := aA8 i0
 have rB := aA8 iB
 have xF : ¬ w = nb := dw
 have aH4 : ¬ nb = w := Ne.symm xF
 have vG : (w = nb) = False := eq_false xF
 have vH : (nb = w) = False := eq_false aH4
 have hva := hg.val (vs.getD 0 0)
 have hvb := hg.val (opB k vs)
 have hop := aY6 ⟨k, vs.getD 0 0, opB k vs, 0⟩ _ _ hva hvb hk
 simp only [bQ.aU] at hop
 have b0 := iB.1
 have b1 := i0.1
 have lw := mA (fun n => [I n]) S.gQ
 have i0b := i0.2
 have iBb := iB.2
 refine j4 51 a3X bIE bIF mix Tryz.func104 rfl (by kernel_rfl) (by simp) ?_
 simp -dsimp -implicitDefEqProofs only [go_sem, ↓reduceIte, Tryz.f104, hb, g0]
 refine ⟨by omega, fun n hn => ⟨fun h7 => ⟨by have := h2 h7; omega, ?_⟩, fun h7 => ?_⟩⟩
 ·have jP : ¬ n = nb := fun e => by rw [e, hb] at hn; cases hn
  have kN : ¬ nb = n := Ne.symm jP
  have gU : (n = nb) = False := eq_false jP
  have gV : (nb = n) = False := eq_false kN
  have aPI : ¬ n = w := fun e => by rw [e, hw] at hn; cases hn
  have aY7 : ¬ w = n := Ne.symm aPI
  have aPJ : (n = w) = False := eq_false aPI
  have aPK : (w = n) = False := eq_false aY7
  have eB : opB k vs = vs.getD 1 0 := if_neg h7
  have g1 : vs[Int.toNat 1]? = some (vs.getD 1 0) := dS (h2 h7)
  rw [eB] at rB hop b0 iBb
  simp -dsimp -implicitDefEqProofs only [go_sem, ↓reduceIte, Tryz.f104, g1, hb, hw, r0, rB, gU, aPJ, gV, vH, aPK, vG, aA]
  refine ⟨b1, i0b, b0, iBb, ?_⟩
  cases hv : opV k (S.val (vs.getD 0 0)) (S.val ((vs.getD 1 0))) with
  |none =>
   rw [hv] at hop
   first | refine aH.mk (hop) ?_ | refine aF.mk (hop) ?_ | refine aH.bS (hop) ?_ | refine aF.mk (bM.eQ (hop)) ?_
   simp -dsimp -implicitDefEqProofs only [go_sem, ↓reduceIte, Tryz.f104]
   refine ⟨fun _ => ?_, fun q => absurd q (by simp)⟩
   simp -dsimp -implicitDefEqProofs only [go_sem, ↓reduceIte, Tryz.f104, hb, gU, aPJ, gV, vH, aPK, vG, aA]
   refine ⟨_, _, cM (?_ : (aR h nb (c4 p inp S om og (some w) st 6)).le _), 0, S, 6, rfl, ⟨_, _, _, H.set st 6⟩, by unfold opR; rw [eB, hv]; exact eO _ _ (by decide)⟩
   unfold c4
   rw [bY]
   exact (j7 (by repeat' (first | exact iM _ _ | refine j8 (by simp only [c6, ↓reduceIte, eq_self, if_true, gU, gV]) ?_ | refine gB (by first | exact .inr (by assumption) | exact .inl (by simp)) ?_)))
  |some v =>
   rw [hv] at hop
   first | refine aH.mk (hop) ?_ | refine aF.mk (hop) ?_ | refine aH.bS (hop) ?_ | refine aF.mk (bM.eQ (hop)) ?_
   simp -dsimp -implicitDefEqProofs only [go_sem, ↓reduceIte, Tryz.f104]
   refine ⟨fun q => absurd q (by simp), fun _ => ?_⟩
   simp only [aK]
   refine aH.fG (aH3 (qA.aPH ⟨om, og, some w, H⟩ hn) ⟨k, vs.getD 0 0, (vs.getD 1 0), 0⟩ v hg.len (by have := hg.cap; omega)) ?_
   rintro r h' ⟨rfl, hR⟩
   obtain ⟨g, rfl, hgn, hR⟩ := hR.base (qA.none ⟨om, og, some w, H⟩ hn)
   simp -dsimp -implicitDefEqProofs only [go_sem, ↓reduceIte, Tryz.f104]
   exact ⟨_, g, cM (aB.aY hgn (aB.le_refl _)), _, _, 0, rfl, hR, by unfold opR; rw [eB, hv]; exact lB _ _⟩
 ·have jP : ¬ n = nb := fun e => by rw [e, hb] at hn; cases hn
  have kN : ¬ nb = n := Ne.symm jP
  have gU : (n = nb) = False := eq_false jP
  have gV : (nb = n) = False := eq_false kN
  have aPI : ¬ n = w := fun e => by rw [e, hw] at hn; cases hn
  have aY7 : ¬ w = n := Ne.symm aPI
  have aPJ : (n = w) = False := eq_false aPI
  have aPK : (w = n) = False := eq_false aY7
  have eB : opB k vs = 0 := if_pos h7
  rw [eB] at rB hop b0 iBb
  simp -dsimp -implicitDefEqProofs only [go_sem, ↓reduceIte, Tryz.f104, hb, hw, r0, rB, gU, aPJ, gV, vH, aPK, vG, aA]
  refine ⟨b1, i0b, iBb, ?_⟩
  cases hv : opV k (S.val (vs.getD 0 0)) (S.val (0)) with
  |none =>
   rw [hv] at hop
   first | refine aH.mk (hop) ?_ | refine aF.mk (hop) ?_ | refine aH.bS (hop) ?_ | refine aF.mk (bM.eQ (hop)) ?_
   simp -dsimp -implicitDefEqProofs only [go_sem, ↓reduceIte, Tryz.f104]
   refine ⟨fun _ => ?_, fun q => absurd q (by simp)⟩
   simp -dsimp -implicitDefEqProofs only [go_sem, ↓reduceIte, Tryz.f104, hb, gU, aPJ, gV, vH, aPK, vG, aA]
   refine ⟨_, _, cM (?_ : (aR h nb (c4 p inp S om og (some w) st 6)).le _), 0, S, 6, rfl, ⟨_, _, _, H.set st 6⟩, by unfold opR; rw [eB, hv]; exact eO _ _ (by decide)⟩
   unfold c4
   rw [bY]
   exact (j7 (by repeat' (first | exact iM _ _ | refine j8 (by simp only [c6, ↓reduceIte, eq_self, if_true, gU, gV]) ?_ | refine gB (by first | exact .inr (by assumption) | exact .inl (by simp)) ?_)))
  |some v =>
   rw [hv] at hop
   first | refine aH.mk (hop) ?_ | refine aF.mk (hop) ?_ | refine aH.bS (hop) ?_ | refine aF.mk (bM.eQ (hop)) ?_
   simp -dsimp -implicitDefEqProofs only [go_sem, ↓reduceIte, Tryz.f104]
   refine ⟨fun q => absurd q (by simp), fun _ => ?_⟩
   simp only [aK]
   refine aH.fG (aH3 (qA.aPH ⟨om, og, some w, H⟩ hn) ⟨k, vs.getD 0 0, 0, 0⟩ v hg.len (by have := hg.cap; omega)) ?_
   rintro r h' ⟨rfl, hR⟩
   obtain ⟨g, rfl, hgn, hR⟩ := hR.base (qA.none ⟨om, og, some w, H⟩ hn)
   simp -dsimp -implicitDefEqProofs only [go_sem, ↓reduceIte, Tryz.f104]
   exact ⟨_, g, cM (aB.aY hgn (aB.le_refl _)), _, _, 0, rfl, hR, by unfold opR; rw [eB, hv]; exact lB _ _⟩
set_option maxRecDepth 100000
open Go.Proofs
set_option linter.unusedVariables false
set_option linter.unusedSimpArgs false
theorem jF.ok {α : Type} {c : Int} {X : Out α} {v : α} {t : Nat} {c' : Int} (h : jF (oT c X) v t c') (hc : c' = 0) : c = 0 ∧ X = .ok (v, t) := by
 have h0 := h.bGN hc
 subst h0
 rw [cU] at h
 cases X with
 |ok q => obtain ⟨w, u⟩ := q; obtain ⟨_, rfl, rfl⟩ := h; exact ⟨rfl, rfl⟩
 |error d => exact absurd (h.1.symm.trans hc) h.2
def aD6 (h0 : aB) (nb : Nat) (p : aE) (inp : Int) (st : Nat) (c : Int) (X : Out (Int × dU)) : aD → aB → Prop := fun r h' => ∃ k S' t c', r = I k ∧ jI h0 nb p inp S' t c' h' ∧ st ≤ t ∧ t ≤ 3000 ∧ jF (oT c X) (k, S') t c'
def a7D (h0 : aB) (nb : Nat) (p : aE) (inp : Int) (st : Nat) (c : Int) (n : Nat) (X : Out (List Int × dU)) : aD → aB → Prop := fun r h' => ∃ l S' t c', r = ints l ∧ jI h0 nb p inp S' t c' h' ∧ l.length = n ∧ st ≤ t ∧ t ≤ 3000 ∧ jF (oT c X) (l, S') t c'
@[go_sem] def rF : List Nat := [0, 1, 2, 4, 6, 7, 8, 9, 10, 15, 20, 32, 33, 42, 49, 62, 85, 100, 128, 130, 131, 150, 162]
@[go_sem] def aD7 : List Nat := [4, 80, 116]
@[go_sem] def aD8 : Marks := fun id => match id with | 22 => ([6, 13, 15, 16], (.op 0 (.op 1 (.op 2 (.op 3 (.op 4 (.op 5 (.op 7 (.op 8 (.op 9 (.op 10 (.op 11 (.op 12 (.op 6 (.op 13 (.op 14 (.op 15 (.op 16 (.op 17 .nil)))))))))))))))))), []) | 28 => ([5, 16], (.op 0 (.op 1 (.op 2 (.op 3 (.op 4 (.op 6 (.op 7 (.op 11 (.op 12 (.op 15 (.op 5 (.op 8 (.op 9 (.op 10 (.op 13 (.op 14 (.op 16 (.op 17 .nil)))))))))))))))))), []) | 33 => ([5, 12], (.op 0 (.op 1 (.op 2 (.op 3 (.op 4 (.op 6 (.op 7 (.op 11 (.op 5 (.op 8 (.op 9 (.op 10 (.op 12 (.op 13 .nil)))))))))))))), []) | _ => ([], .nil, [])
def wE (p : aE) (inp : Int) (n : Nat) : Prop := ∀ (h0 h : aB) (nb st : Nat) (c : Int) (e : aC) (env : List Int) (S : dU) (funcs : Int), jI h0 nb p inp S st c h → st ≤ 3000 → 3001 ≤ n + st → e.ok p funcs env.length → 0 ≤ funcs → funcs ≤ p.aI.length → (c = 0 → Good inp S st ∧ ∀ x ∈ env, p9 S x) → env.length ≤ 412 + st →
 iH Tryz.prog 73 [.op nb 8 0 0, .agg e.c, ints env] h (aD6 h0 nb p inp st c (fC p n st e env S))
theorem nX {p : aE} (hp : p.ok) {inp : Int} {n st : Nat} {S : dU} {l : List aC} {env : List Int} {funcs : Int} (hg : Good inp S st) (hst : st ≤ 3000) (henv : ∀ x ∈ env, p9 S x) (hok : ∀ e ∈ l, e.ok p funcs env.length) (hf : funcs ≤ p.aI.length) : uG (aAO inp S st l.length) (rD (fun t e S => fC p n t e env S) l st S) :=
 lD l st S hg hst fun x hx u S' a b c => uH hp n u x env S' funcs (hok x hx) hf a c.2.2.2 fun y hy => (henv y hy).ext b
@[go_sem] def aY8 : List Nat := [0, 1, 2, 6, 7, 9, 11, 12, 13, 14]
@[go_sem] def bIG : List Nat := [10, 22]
@[go_sem] def bIH : Marks := fun _ => ([], .nil, [])
theorem sR {p : aE} (hp : p.ok) {inp : Int} {n : Nat} (hv : wE p inp n) (h0 h : aB) (nb st : Nat) (c : Int) (l : List aC) (env : List Int) (S : dU) (funcs : Int) (hb : jI h0 nb p inp S st c h) (hst : st ≤ 3000) (hn : 3001 ≤ n + st)
  (hl : l.length ≤ 1048576) (hok : ∀ e ∈ l, e.ok p funcs env.length) (fN : 0 ≤ funcs) (hf : funcs ≤ p.aI.length) (hgo : c = 0 → Good inp S st ∧ ∀ x ∈ env, p9 S x) (hel : env.length ≤ 412 + st) :
  iH Tryz.prog 41 [.op nb 8 0 0, eZ 5 aC.c l, ints env] h (a7D h0 nb p inp st c l.length (rD (fun t e S => fC p n t e env S) l st S)) := by
 refine j4 26 aY8 bIG bIH mix Tryz.func41 rfl (by kernel_rfl) (by simp) ?_
 simp -dsimp -implicitDefEqProofs only [go_sem, ↓reduceIte, Tryz.f41]
 refine ⟨Nat.zero_lt_one, fun _ => ?_⟩
 refine cS (keep := aY8) (ib := bIG) (mk := bIH) mix (by kernel_rfl) (fun x : Nat × List Int × Nat × Int × dU × aB × Option Nat => [(0, .op nb 8 0 0), (2, ints env), (7, jC 1 x.2.1.length x.2.2.2.2.2.2), (11, eZ 5 aC.c l), (12, I l.length), (13, I x.1)]) (fun x => cK x.2.2.2.2.2.1 (.row 1 ((x.2.1.map fun n => [I n]).map (List.map .v))) x.2.2.2.2.2.2) (fun x => x.1 ≤ l.length ∧ x.2.1.length = x.1 ∧ st ≤ x.2.2.1 ∧ x.2.2.1 ≤ 3000 ∧ jF (oT c (rD (fun t e S => fC p n t e env S) (l.take x.1) st S)) (x.2.1, x.2.2.2.2.1) x.2.2.1 x.2.2.2.1 ∧ jI h0 nb p inp x.2.2.2.2.1 x.2.2.1 x.2.2.2.1 x.2.2.2.2.2.1 ∧ fK x.2.2.2.2.2.1 x.2.1 x.2.2.2.2.2.2) (fun x => l.length - x.1) (0, [], st, c, S, h, none) ⟨by simp [cV, bZ, jC], by simp only [aO]; exact aB.le_refl _, Nat.zero_le _, rfl, Nat.le_refl _, hst, gO _ _ _, hb, rfl⟩ ?_
 rintro ⟨k, vs, t, c', S1, g, o⟩ ⟨hk, hvl, ht0, ht, ho, hR, hos⟩
 simp only at hk hvl ht0 ht ho hR hos ⊢
 rcases Nat.lt_or_ge k l.length with hlt | hge
 ·have ek : l[k]? = some l[k] := List.getElem?_eq_getElem hlt
  have hnext : ∀ (j : Int) (S2 : dU) (t2 : Nat) (c2 : Int), jF (oT c' (fC p n t l[k] env S1)) (j, S2) t2 c2 → jF (oT c (rD (fun t e S => fC p n t e env S) (l.take (k + 1)) st S)) (vs ++ [j], S2) t2 c2 := fun j S2 t2 c2 h3 => by
   rw [List.take_succ_eq_append_getElem hlt, aJV]
   exact ho.dP (h3.dP (gO _ _ _))
  have bII : c' = 0 → Good inp S1 t ∧ ∀ x ∈ env, p9 S1 x := fun hc => by
   obtain ⟨e1, e2⟩ := ho.ok hc
   obtain ⟨a1, a2⟩ := hgo e1
   obtain ⟨b1, b2, b3, b4⟩ := nX hp (l := l.take k) a1 hst a2 (fun x hx => hok x (List.mem_of_mem_take hx)) hf _ _ e2
   exact ⟨b1, fun x hx => (a2 x hx).ext b2⟩
  cases o with
  |none =>
   rw [bD] at hos
   subst hos
   simp -dsimp -implicitDefEqProofs only [go_sem, ↓reduceIte, Tryz.f41, bO, aO, hlt, ek, aC.aU]
   intro m9 z9
   rw [aK]
   have hvk := hv (aR h0 m9 (.row 5 [l[k].c.map .v])) (aR g m9 (.row 5 [l[k].c.map .v])) nb t c' l[k] env S1 funcs (hR.aPH z9) ht (by omega) (hok _ (List.getElem_mem _)) fN hf bII (by omega)
   rw [aC.aU] at hvk
   refine aH.fG hvk ?_
   rintro r h' ⟨j, S2, t2, c2, rfl, hR2, h1, h2, h3⟩
   obtain ⟨g2, rfl, hg2, hR2⟩ := hR2.base (hR.none z9)
   simp -dsimp -implicitDefEqProofs only [go_sem, ↓reduceIte, Tryz.f41]
   refine ⟨Nat.zero_lt_one, Nat.zero_lt_one, Nat.zero_lt_one, fun b ⟨hb9, vK⟩ => ?_⟩
   refine ⟨(k + 1, [j], t2, c2, S2, g2, some b), ⟨rfl, by rw [IntWalk.i64_in _ (by omega)]; rfl⟩, ?_, ⟨by omega, by simp only [List.length_nil] at hvl; subst hvl; rfl, Nat.le_trans ht0 h1, h2, hnext j S2 t2 c2 h3, hR2, vK⟩, by simp only; omega⟩
   simp only [aJ]
   exact (j7 (by repeat' (first | exact iM _ _ | refine j8 (by simp only [c6, ↓reduceIte, eq_self, if_true, hb9, hg2, List.map_cons, List.map_nil]) ?_ | refine gB (by first | exact .inr (by assumption) | exact .inl (by simp)) ?_)))
  |some m =>
   rw [aV] at hos
   simp -dsimp -implicitDefEqProofs only [go_sem, ↓reduceIte, Tryz.f41, aX, aJ, hlt, ek, aC.aU]
   intro m9 ⟨h9m, z9⟩
   rw [aK]
   have y6 : ¬ m9 = m := h9m
   have aYE : ¬ m = m9 := Ne.symm y6
   have aHS : (m9 = m) = False := eq_false y6
   have aHT : (m = m9) = False := eq_false aYE
   have z9' : (aR g m (.row 1 ((vs.map fun n => [I n]).map (List.map .v)))) m9 = none := by rw [aA _ _ _ _ y6]; exact z9
   have hRo := hR.aPH (o := .row 1 ((vs.map fun n => [I n]).map (List.map .v))) hos
   have hvk := hv _ _ nb t c' l[k] env S1 funcs (hRo.aPH (o := .row 5 [l[k].c.map .v]) z9') ht (by omega) (hok _ (List.getElem_mem _)) fN hf bII (by omega)
   rw [aC.aU] at hvk
   refine aH.fG hvk ?_
   rintro r h' ⟨j, S2, t2, c2, rfl, hR2, h1, h2, h3⟩
   obtain ⟨g1, rfl, o9, hR2⟩ := hR2.base (hRo.none z9')
   obtain ⟨g2, rfl, hg2, hR2⟩ := hR2.base (hR.none hos)
   rw [aA _ _ _ _ y6] at o9
   simp -dsimp -implicitDefEqProofs only [go_sem, ↓reduceIte, Tryz.f41, aA, aHT, aHS]
   refine ⟨Nat.zero_lt_one, Nat.zero_lt_one, Nat.zero_lt_one, Nat.le_refl _, by omega, by omega, fun b ⟨hb9, hbm, vK⟩ => ?_⟩
   have fJ : ¬ b = m := hbm
   have lC : ¬ m = b := Ne.symm fJ
   have kF : (b = m) = False := eq_false fJ
   have kG : (m = b) = False := eq_false lC
   have vD : ¬ b = m9 := hb9
   have aQ3 : ¬ m9 = b := Ne.symm vD
   have aHP : (b = m9) = False := eq_false vD
   have aHQ : (m9 = b) = False := eq_false aQ3
   refine ⟨(k + 1, vs ++ [j], t2, c2, S2, g2, some b), ⟨by rw [aX, List.length_append]; rfl, by rw [IntWalk.i64_in _ (by omega)]; rfl⟩, ?_, ⟨by omega, by rw [List.length_append, hvl]; rfl, Nat.le_trans ht0 h1, h2, hnext j S2 t2 c2 h3, hR2, vK⟩, by simp only; omega⟩
   simp only [aJ]
   rw [← fI]
   exact (j7 (by repeat' (first | exact iM _ _ | refine j8 (by simp only [c6, ↓reduceIte, eq_self, if_true, kF, aHP, kG, aHT, aHQ, aHS]) ?_ | refine gB (by first | exact .inr (by assumption) | exact .inl (by simp)) ?_)))
 ·have hk' : k = l.length := by omega
  subst hk'
  rw [List.take_length] at ho
  cases o with
  |none =>
   rw [bD] at hos
   subst hos
   simp -dsimp -implicitDefEqProofs only [go_sem, ↓reduceIte, Tryz.f41, bO, aO, Nat.lt_irrefl]
   exact ⟨ints [], _, Shift.of (Sub.loose _ _ _) (aB.le_refl _), [], S1, t, c', rfl, hR, hvl, ht0, ht, ho⟩
  |some m =>
   rw [aV] at hos
   simp -dsimp -implicitDefEqProofs only [go_sem, ↓reduceIte, Tryz.f41, aX, aJ, Nat.lt_irrefl]
   exact ⟨ints vs, g, fH vs hos (aB.le_refl _) rfl, vs, S1, t, c', rfl, hR, hvl, ht0, ht, ho⟩
end Go.Hl

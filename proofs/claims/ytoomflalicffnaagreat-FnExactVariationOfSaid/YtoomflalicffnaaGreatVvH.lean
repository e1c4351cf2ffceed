/-
  Contracts of functions and laws of the layer over the walk.
-/
import Derived.Test.YtoomflalicffnaaGreatVvG
import Derived.Test.YtoomflalicffnaaGreatVvE
import Derived.Test.YtoomflalicffnaaGreatVvD
namespace Go.Hl
set_option maxRecDepth 100000
open Go.Proofs
set_option linter.unusedVariables false
set_option linter.unusedSimpArgs false
theorem aUY (sz : Nat) (dirs : List (List Int)) (rg : Nat → List Int) {code : List aZ} {k : Nat} {c : aZ} (e : code[k]? = some c) : zV sz dirs rg code (k + 1) = zV sz dirs rg code k ++ [pL sz dirs (fun i => (zV sz dirs rg code k).getD i []) rg k c] := by rw [zV, wL e]
@[go_sem] def aNT : List Nat := [0, 1, 2, 3, 8, 9, 11, 12, 13, 14, 15, 30, 41, 67, 78, 85, 101, 117, 145, 163]
@[go_sem] def a3L : List Nat := [23, 65, 76, 83, 99, 115, 143, 154, 156, 178]
@[go_sem] def a3M : Marks := fun id => match id with | 8 => ([3, 5, 12, 14, 19, 24], (.op 0 (.op 1 (.op 2 (.op 6 (.op 7 (.op 8 (.op 9 (.op 10 (.op 11 (.op 17 (.op 18 (.op 3 (.op 4 (.op 5 (.op 12 (.op 13 (.op 14 (.op 15 (.op 16 (.op 19 (.op 20 (.op 21 (.op 22 (.op 23 (.op 24 (.op 25 .nil)))))))))))))))))))))))))), []) | 14 => ([3, 5, 8, 10, 13], (.op 0 (.op 1 (.op 2 (.op 6 (.op 7 (.op 3 (.op 4 (.op 5 (.op 8 (.op 9 (.op 10 (.op 11 (.op 12 (.op 13 (.op 14 .nil))))))))))))))), []) | 16 => ([3, 5, 8, 10, 13], (.op 0 (.op 1 (.op 2 (.op 6 (.op 7 (.op 3 (.op 4 (.op 5 (.op 8 (.op 9 (.op 10 (.op 11 (.op 12 (.op 13 (.op 14 .nil))))))))))))))), []) | 18 => ([3, 5, 8, 14, 19, 21, 25], (.op 0 (.op 1 (.op 2 (.op 6 (.op 7 (.op 12 (.op 13 (.op 17 (.op 18 (.op 3 (.op 4 (.op 5 (.op 8 (.op 9 (.op 10 (.op 11 (.op 14 (.op 15 (.op 16 (.op 19 (.op 20 (.op 21 (.op 22 (.op 23 (.op 24 (.op 25 (.op 26 .nil))))))))))))))))))))))))))), []) | _ => ([], .nil, [])
set_option maxHeartbeats 1000000 in
theorem aRG (t : kL) {sz inp : Nat} (hsz : 1 ≤ sz ∧ sz ≤ 1048576) (hinp : t.jE = inp) (hins : ∀ i c, t.aO[i]? = some c → bE inp i c) (hcl : 1 ≤ t.aO.length ∧ t.aO.length ≤ 3200) {args dirs : List (List Int)} (ha : eS sz inp args) (hd : eS sz inp dirs)
  (hdiv : ∀ (i : Nat) (c : aZ), t.aO[i]? = some c → c.fM = 6 → ¬ (l6 sz args t.aO c.fB.toNat).getD 0 0 = 0) (ho : ∀ r ∈ t.aM, 0 ≤ r ∧ r < t.aO.length) (hol : t.aM.length ≤ 1048576) : dV Tryz.prog 52 [.ip 4 [t.c] 0 0, bI args, bI dirs, I sz] (bI (t.aM.map fun r => xO sz dirs (l6 sz args t.aO) t.aO r.toNat)) := by
 have hsr := aRF t hsz (by rw [hinp]; exact hins) hcl.2 args ha.2 (by rw [ha.1, hinp]) hdiv
 have hrs := aLG hins ha
 have hrgd : ∀ i, (jB sz args t.aO t.aO.length).getD i [] = l6 sz args t.aO i := fun i => rfl
 have hrgS : ∀ i : Int, 0 ≤ i ∧ i < t.aO.length → (jB sz args t.aO t.aO.length)[i.toNat]? = some (l6 sz args t.aO i.toNat) ∧ bC sz (l6 sz args t.aO i.toNat) := fun i hi => by
  have := hrs.get (i := i.toNat) (by omega)
  rwa [hrgd] at this
 have hdS : ∀ k, k < t.aO.length → bC sz (xO sz dirs (l6 sz args t.aO) t.aO k) := fun k hk => aCE hsz.1 hins hd.2 (by rw [hd.1]) (fun k hk => (hrgS k (by omega)).2) (k + 1) k (by omega) hk
 generalize jB sz args t.aO t.aO.length = rs at *
 generalize hrg : l6 sz args t.aO = rg at *
 rw [kL.aN] at hsr ⊢
 refine lO 181 aNT a3L a3M mix Tryz.func52 rfl (by kernel_rfl) (by simp) fun h => ?_
 simp -dsimp -implicitDefEqProofs only [go_sem, ↓reduceIte, Tryz.f52]
 first | refine aG.mk (hsr) ?_ | refine aE.mk (hsr) ?_ | refine aG.a8 (hsr) ?_ | refine aE.mk (a6.cK (hsr)) ?_
 simp -dsimp -implicitDefEqProofs only [go_sem, ↓reduceIte, Tryz.f52]
 refine ⟨by decide, ?_⟩
 refine bX (keep := aNT) (ib := a3L) (mk := a3M) mix (by kernel_rfl) (fun x : Nat × Option Nat => [(0, .ip 4 [[I t.jE, dB 4 aZ.c t.aO, dB 2 dX.c t.nJ, ints t.aM]] 0 0), (2, bI dirs), (3, I sz), (9, bI rs), (11, eK 1 x.1 x.2), (12, I x.1)]) (fun x => gQ h (bZ (zV sz dirs rg t.aO x.1)) x.2) (fun x => x.1 ≤ t.aO.length ∧ eP h (zV sz dirs rg t.aO x.1) x.2) (fun x => t.aO.length - x.1) (0, none) ⟨by simp [b8, bJ, eK], aB.le_refl _, Nat.zero_le _, rfl⟩ ?_
 rintro ⟨k, o⟩ ⟨hk, hos⟩
 simp only at hk hos ⊢
 have hml := zN sz dirs rg t.aO k
 rcases Nat.lt_or_ge k t.aO.length with hlt | hge
 ·have ek : t.aO[k]? = some t.aO[k] := List.getElem?_eq_getElem hlt
  have hin := hins k _ ek
  have hst := aUY sz dirs rg ek
  have hkr := hrgS (k : Int) (by omega)
  rw [Int.toNat_natCast] at hkr
  have aLL := hdS k hlt
  rw [xP ek hin] at aLL
  generalize hc : t.aO[k] = c at *
  have hgR : ∀ i : Int, 0 ≤ i ∧ i < k → (zV sz dirs rg t.aO k)[i.toNat]? = some ((zV sz dirs rg t.aO k).getD i.toNat []) ∧ bC sz ((zV sz dirs rg t.aO k).getD i.toNat []) := fun i hi => by
   refine ⟨fO (by omega), ?_⟩
   have h1 := hdS i.toNat (by omega)
   rwa [xO, zO sz dirs rg t.aO (k := k) (by omega) _ (by omega)] at h1
  have hdo : pL sz dirs (xO sz dirs rg t.aO) rg k c = pL sz dirs (fun i => (zV sz dirs rg t.aO k).getD i []) rg k c := by
   rw [← xP ek hin, xO, zO sz dirs rg t.aO (k := k + 1) (by omega) _ (by omega), hst, List.getD_eq_getElem?_getD, List.getElem?_append_right (by rw [hml]; exact Nat.le_refl _), hml, Nat.sub_self]; rfl
  rw [hdo] at aLL
  generalize hR : zV sz dirs rg t.aO k = R at *
  clear hdo hdS
  cases o with
  |none =>
   rw [a9] at hos
   subst hos
   obtain rfl : k = 0 := hml.symm
   have hnext : ∀ (g : aB) (b : Nat) (s : List Int), s = pL sz dirs (fun i => ([] : List (List Int)).getD i []) rg 0 c → h b = none → (a5 h b (bZ [s])).le g → ∃ x' : Nat × Option Nat, (aD.os b 1 0 1 = eK 1 x'.1 x'.2 ∧ IntKind.i64.wrap (((0 : Nat) : Int) + 1) = (x'.1 : Int)) ∧ (gQ h (bZ (zV sz dirs rg t.aO x'.1)) x'.2).le g ∧ (x'.1 ≤ t.aO.length ∧ eP h (zV sz dirs rg t.aO x'.1) x'.2) ∧ t.aO.length - x'.1 < t.aO.length - 0 := fun g b s e z l => by
    subst e
    exact ⟨(1, some b), ⟨rfl, IntWalk.i64_in _ (by omega)⟩, by simp only [aL, hst]; exact l, ⟨hlt, z⟩, by simp only; omega⟩
   rcases (show c.fM = 1 ∨ c.fM = 2 by unfold bE at hin; omega) with h1 | h1
   ·have hn : 0 ≤ c.aW ∧ c.aW < inp := by unfold bE at hin; omega
    have ea := hd.get (i := c.aW.toNat) (by omega)
    have edl := hd.1
    simp -dsimp -implicitDefEqProofs only [go_sem, ↓reduceIte, Tryz.f52, a7, aR, hlt, ek, aZ.aN, h1, ea.1, edl]
    refine fun _ m hm => ⟨hn.1, hn.2, ?_⟩
    first | refine aG.mk (fK (dirs.getD c.aW.toNat []) (by rw [ea.2.1]; omega)) ?_ | refine aE.mk (fK (dirs.getD c.aW.toNat []) (by rw [ea.2.1]; omega)) ?_ | refine aG.a8 (fK (dirs.getD c.aW.toNat []) (by rw [ea.2.1]; omega)) ?_ | refine aE.mk (a6.cK (fK (dirs.getD c.aW.toNat []) (by rw [ea.2.1]; omega))) ?_
    simp -dsimp -implicitDefEqProofs only [go_sem, ↓reduceIte, Tryz.f52]
    refine ⟨by decide, by decide, by decide, fun b ⟨b1, _, b2⟩ => hnext _ b _ (by rw [pL, if_pos h1]) b2 ?_⟩
    rw [aK]
    exact aB.fD (aB.bF hm (aB.le_refl _))
   ·simp -dsimp -implicitDefEqProofs only [go_sem, ↓reduceIte, Tryz.f52, a7, aR, hlt, ek, aZ.aN, h1]
    refine fun _ m hm => ?_
    first | refine aG.mk (dT 0 sz hsz.2) ?_ | refine aE.mk (dT 0 sz hsz.2) ?_ | refine aG.a8 (dT 0 sz hsz.2) ?_ | refine aE.mk (a6.cK (dT 0 sz hsz.2)) ?_
    simp -dsimp -implicitDefEqProofs only [go_sem, ↓reduceIte, Tryz.f52]
    refine ⟨by decide, by decide, by decide, fun b ⟨b1, _, b2⟩ => hnext _ b _ (by rw [pL, if_neg (by omega), if_pos h1]) b2 ?_⟩
    rw [aK]
    exact aB.fD (aB.bF hm (aB.le_refl _))
  |some n =>
   rw [aU] at hos
   have hnext : ∀ (g : aB) (b : Nat) (s : List Int), s = pL sz dirs (fun i => R.getD i []) rg k c → h b = none → (a5 h b (bZ (R ++ [s]))).le g → ∃ x' : Nat × Option Nat, (aD.os b 1 0 (k + 1) = eK 1 x'.1 x'.2 ∧ IntKind.i64.wrap ((k : Int) + 1) = (x'.1 : Int)) ∧ (gQ h (bZ (zV sz dirs rg t.aO x'.1)) x'.2).le g ∧ (x'.1 ≤ t.aO.length ∧ eP h (zV sz dirs rg t.aO x'.1) x'.2) ∧ t.aO.length - x'.1 < t.aO.length - k := fun g b s e z l => by
    subst e
    exact ⟨(k + 1, some b), ⟨rfl, IntWalk.i64_in _ (by omega)⟩, by simp only [aL, hst]; exact l, ⟨hlt, z⟩, by simp only; omega⟩
   have hor := hin
   unfold bE at hor
   simp -dsimp -implicitDefEqProofs only [go_sem, ↓reduceIte, Tryz.f52, aT, aL, hlt, ek, aZ.aN]
   refine fun _ m ⟨dm, zm⟩ => ?_
   have gX : ¬ m = n := dm
   have nK : ¬ n = m := Ne.symm gX
   have cY : (m = n) = False := eq_false gX
   have cZ : (n = m) = False := eq_false nK
   have qL : ∀ X Y Z, h.le (a5 (a5 (a5 (a5 h n X) m Y) m Z) n .gone) := fun X Y Z q => by
    by_cases e1 : q = n
    ·subst e1; exact .inl hos
    by_cases e2 : q = m
    ·subst e2; exact .inl zm
    rw [aF _ _ _ _ e1, aF _ _ _ _ e2, aF _ _ _ _ e2, aF _ _ _ _ e1]; exact .inr rfl
   rcases (show c.fM = 1 ∨ c.fM = 2 ∨ c.fM = 3 ∨ c.fM = 4 ∨ c.fM = 5 ∨ c.fM = 6 ∨ c.fM = 7 by omega) with h1 | h1 | h1 | h1 | h1 | h1 | h1
   ·have hn : 0 ≤ c.aW ∧ c.aW < inp := by omega
    have ea := hd.get (i := c.aW.toNat) (by omega)
    have edl := hd.1
    simp -dsimp -implicitDefEqProofs only [go_sem, ↓reduceIte, Tryz.f52, h1, ea.1, edl, cY, cZ, aF, bZ]
    refine ⟨hn.1, hn.2, ?_⟩
    first | refine aG.mk (fK (dirs.getD c.aW.toNat []) (by rw [ea.2.1]; omega)) ?_ | refine aE.mk (fK (dirs.getD c.aW.toNat []) (by rw [ea.2.1]; omega)) ?_ | refine aG.a8 (fK (dirs.getD c.aW.toNat []) (by rw [ea.2.1]; omega)) ?_ | refine aE.mk (a6.cK (fK (dirs.getD c.aW.toNat []) (by rw [ea.2.1]; omega))) ?_
    simp -dsimp -implicitDefEqProofs only [go_sem, ↓reduceIte, Tryz.f52, cY, cZ, aF, bZ]
    refine ⟨by decide, by decide, by decide, by omega, by omega, by omega, fun b hb => hnext _ b _ (by rw [pL, if_pos h1]) (by first | exact hb.2.2.2 | exact hb.2.2) ?_⟩
    try rw [dQ R hml]
    exact aB.fD (qL _ _ _)
   ·simp -dsimp -implicitDefEqProofs only [go_sem, ↓reduceIte, Tryz.f52, h1, cY, cZ, aF, bZ]
    first | refine aG.mk (dT 0 sz hsz.2) ?_ | refine aE.mk (dT 0 sz hsz.2) ?_ | refine aG.a8 (dT 0 sz hsz.2) ?_ | refine aE.mk (a6.cK (dT 0 sz hsz.2)) ?_
    simp -dsimp -implicitDefEqProofs only [go_sem, ↓reduceIte, Tryz.f52, cY, cZ, aF, bZ]
    refine ⟨by decide, by decide, by decide, by omega, by omega, by omega, fun b hb => hnext _ b _ (by rw [pL, if_neg (by omega), if_pos h1]) (by first | exact hb.2.2.2 | exact hb.2.2) ?_⟩
    try rw [dQ R hml]
    exact aB.fD (qL _ _ _)
   ·have na := hgR c.fA (by omega)
    have nb := hgR c.fB (by omega)
    simp -dsimp -implicitDefEqProofs only [go_sem, ↓reduceIte, Tryz.f52, h1, bZ, na.1, nb.1, cY, cZ, aF]
    refine ⟨by omega, by omega, by omega, by omega, ?_⟩
    first | refine aG.mk (lI (R.getD c.fA.toNat []) (R.getD c.fB.toNat []) (by rw [nb.2.1, na.2.1]) (by rw [na.2.1]; omega) na.2.2 nb.2.2) ?_ | refine aE.mk (lI (R.getD c.fA.toNat []) (R.getD c.fB.toNat []) (by rw [nb.2.1, na.2.1]) (by rw [na.2.1]; omega) na.2.2 nb.2.2) ?_ | refine aG.a8 (lI (R.getD c.fA.toNat []) (R.getD c.fB.toNat []) (by rw [nb.2.1, na.2.1]) (by rw [na.2.1]; omega) na.2.2 nb.2.2) ?_ | refine aE.mk (a6.cK (lI (R.getD c.fA.toNat []) (R.getD c.fB.toNat []) (by rw [nb.2.1, na.2.1]) (by rw [na.2.1]; omega) na.2.2 nb.2.2)) ?_
    simp -dsimp -implicitDefEqProofs only [go_sem, ↓reduceIte, Tryz.f52, bZ, cY, cZ, aF]
    refine ⟨by decide, by decide, by decide, by omega, by omega, by omega, fun b hb => hnext _ b _ (by rw [pL, if_neg (by omega), if_neg (by omega), if_pos h1]) (by first | exact hb.2.2.2 | exact hb.2.2) ?_⟩
    try rw [dQ R hml]
    exact aB.fD (qL _ _ _)
   ·have na := hgR c.fA (by omega)
    have nb := hgR c.fB (by omega)
    simp -dsimp -implicitDefEqProofs only [go_sem, ↓reduceIte, Tryz.f52, h1, bZ, na.1, nb.1, cY, cZ, aF]
    refine ⟨by omega, by omega, by omega, by omega, ?_⟩
    first | refine aG.mk (oF (R.getD c.fA.toNat []) (R.getD c.fB.toNat []) (by rw [nb.2.1, na.2.1]) (by rw [na.2.1]; omega) na.2.2 nb.2.2) ?_ | refine aE.mk (oF (R.getD c.fA.toNat []) (R.getD c.fB.toNat []) (by rw [nb.2.1, na.2.1]) (by rw [na.2.1]; omega) na.2.2 nb.2.2) ?_ | refine aG.a8 (oF (R.getD c.fA.toNat []) (R.getD c.fB.toNat []) (by rw [nb.2.1, na.2.1]) (by rw [na.2.1]; omega) na.2.2 nb.2.2) ?_ | refine aE.mk (a6.cK (oF (R.getD c.fA.toNat []) (R.getD c.fB.toNat []) (by rw [nb.2.1, na.2.1]) (by rw [na.2.1]; omega) na.2.2 nb.2.2)) ?_
    simp -dsimp -implicitDefEqProofs only [go_sem, ↓reduceIte, Tryz.f52, bZ, cY, cZ, aF]
    refine ⟨by decide, by decide, by decide, by omega, by omega, by omega, fun b hb => hnext _ b _ (by rw [pL, if_neg (by omega), if_neg (by omega), if_neg (by omega), if_pos h1]) (by first | exact hb.2.2.2 | exact hb.2.2) ?_⟩
    try rw [dQ R hml]
    exact aB.fD (qL _ _ _)
   ·have na := hgR c.fA (by omega)
    have nb := hgR c.fB (by omega)
    have ra := hrgS c.fA (by omega)
    have rb := hrgS c.fB (by omega)
    have erl := hrs.1
    simp -dsimp -implicitDefEqProofs only [go_sem, ↓reduceIte, Tryz.f52, h1, bZ, na.1, nb.1, ra.1, rb.1, erl, cY, cZ, aF]
    refine ⟨by omega, by omega, by omega, by omega, ?_⟩
    have m1 := cW (rg c.fB.toNat) na.2
    have m2 := cW (R.getD c.fB.toNat []) ra.2
    first | refine aG.mk (lJ (R.getD c.fA.toNat []) (rg c.fB.toNat) (by rw [rb.2.1, na.2.1]) (by rw [na.2.1]; omega) na.2.2 rb.2.2) ?_ | refine aE.mk (lJ (R.getD c.fA.toNat []) (rg c.fB.toNat) (by rw [rb.2.1, na.2.1]) (by rw [na.2.1]; omega) na.2.2 rb.2.2) ?_ | refine aG.a8 (lJ (R.getD c.fA.toNat []) (rg c.fB.toNat) (by rw [rb.2.1, na.2.1]) (by rw [na.2.1]; omega) na.2.2 rb.2.2) ?_ | refine aE.mk (a6.cK (lJ (R.getD c.fA.toNat []) (rg c.fB.toNat) (by rw [rb.2.1, na.2.1]) (by rw [na.2.1]; omega) na.2.2 rb.2.2)) ?_
    simp -dsimp -implicitDefEqProofs only [go_sem, ↓reduceIte, Tryz.f52, bZ, na.1, nb.1, ra.1, rb.1, erl, cY, cZ, aF]
    refine ⟨by omega, by omega, by omega, by omega, ?_⟩
    first | refine aG.mk (lJ (rg c.fA.toNat) (R.getD c.fB.toNat []) (by rw [nb.2.1, ra.2.1]) (by rw [ra.2.1]; omega) ra.2.2 nb.2.2) ?_ | refine aE.mk (lJ (rg c.fA.toNat) (R.getD c.fB.toNat []) (by rw [nb.2.1, ra.2.1]) (by rw [ra.2.1]; omega) ra.2.2 nb.2.2) ?_ | refine aG.a8 (lJ (rg c.fA.toNat) (R.getD c.fB.toNat []) (by rw [nb.2.1, ra.2.1]) (by rw [ra.2.1]; omega) ra.2.2 nb.2.2) ?_ | refine aE.mk (a6.cK (lJ (rg c.fA.toNat) (R.getD c.fB.toNat []) (by rw [nb.2.1, ra.2.1]) (by rw [ra.2.1]; omega) ra.2.2 nb.2.2)) ?_
    simp -dsimp -implicitDefEqProofs only [go_sem, ↓reduceIte, Tryz.f52, bZ, cY, cZ, aF]
    first | refine aG.mk (lI _ _ (by rw [m2.1, m1.1]) (by rw [m1.1]; omega) m1.2 m2.2) ?_ | refine aE.mk (lI _ _ (by rw [m2.1, m1.1]) (by rw [m1.1]; omega) m1.2 m2.2) ?_ | refine aG.a8 (lI _ _ (by rw [m2.1, m1.1]) (by rw [m1.1]; omega) m1.2 m2.2) ?_ | refine aE.mk (a6.cK (lI _ _ (by rw [m2.1, m1.1]) (by rw [m1.1]; omega) m1.2 m2.2)) ?_
    simp -dsimp -implicitDefEqProofs only [go_sem, ↓reduceIte, Tryz.f52, bZ, cY, cZ, aF]
    refine ⟨by decide, by decide, by decide, by omega, by omega, by omega, fun b hb => hnext _ b _ (by rw [pL, if_neg (by omega), if_neg (by omega), if_neg (by omega), if_neg (by omega), if_pos h1]) (by first | exact hb.2.2.2 | exact hb.2.2) ?_⟩
    try rw [dQ R hml]
    exact aB.fD (qL _ _ _)
   ·have na := hgR c.fA (by omega)
    have nb := hgR c.fB (by omega)
    have rb := hrgS c.fB (by omega)
    have erl := hrs.1
    simp -dsimp -implicitDefEqProofs only [go_sem, ↓reduceIte, Tryz.f52, h1, bZ, na.1, nb.1, hkr.1, rb.1, erl, cY, cZ, aF]
    refine ⟨by omega, by omega, by omega, by omega, by omega, ?_⟩
    have m1 := cW (R.getD c.fB.toNat []) hkr.2
    have m2 := oD na.2 m1
    first | refine aG.mk (lJ (rg k) (R.getD c.fB.toNat []) (by rw [nb.2.1, hkr.2.1]) (by rw [hkr.2.1]; omega) hkr.2.2 nb.2.2) ?_ | refine aE.mk (lJ (rg k) (R.getD c.fB.toNat []) (by rw [nb.2.1, hkr.2.1]) (by rw [hkr.2.1]; omega) hkr.2.2 nb.2.2) ?_ | refine aG.a8 (lJ (rg k) (R.getD c.fB.toNat []) (by rw [nb.2.1, hkr.2.1]) (by rw [hkr.2.1]; omega) hkr.2.2 nb.2.2) ?_ | refine aE.mk (a6.cK (lJ (rg k) (R.getD c.fB.toNat []) (by rw [nb.2.1, hkr.2.1]) (by rw [hkr.2.1]; omega) hkr.2.2 nb.2.2)) ?_
    simp -dsimp -implicitDefEqProofs only [go_sem, ↓reduceIte, Tryz.f52, bZ, na.1, nb.1, hkr.1, rb.1, erl, cY, cZ, aF]
    first | refine aG.mk (oF (R.getD c.fA.toNat []) _ (by rw [m1.1, na.2.1]) (by rw [na.2.1]; omega) na.2.2 m1.2) ?_ | refine aE.mk (oF (R.getD c.fA.toNat []) _ (by rw [m1.1, na.2.1]) (by rw [na.2.1]; omega) na.2.2 m1.2) ?_ | refine aG.a8 (oF (R.getD c.fA.toNat []) _ (by rw [m1.1, na.2.1]) (by rw [na.2.1]; omega) na.2.2 m1.2) ?_ | refine aE.mk (a6.cK (oF (R.getD c.fA.toNat []) _ (by rw [m1.1, na.2.1]) (by rw [na.2.1]; omega) na.2.2 m1.2)) ?_
    simp -dsimp -implicitDefEqProofs only [go_sem, ↓reduceIte, Tryz.f52, bZ, na.1, nb.1, hkr.1, rb.1, erl, cY, cZ, aF]
    refine ⟨by omega, by omega, ?_⟩
    first | refine aG.mk (aAN _ (rg c.fB.toNat) (by rw [rb.2.1, m2.1]) (by rw [m2.1]; omega) (by rw [m2.1]; omega) m2.2 rb.2.2) ?_ | refine aE.mk (aAN _ (rg c.fB.toNat) (by rw [rb.2.1, m2.1]) (by rw [m2.1]; omega) (by rw [m2.1]; omega) m2.2 rb.2.2) ?_ | refine aG.a8 (aAN _ (rg c.fB.toNat) (by rw [rb.2.1, m2.1]) (by rw [m2.1]; omega) (by rw [m2.1]; omega) m2.2 rb.2.2) ?_ | refine aE.mk (a6.cK (aAN _ (rg c.fB.toNat) (by rw [rb.2.1, m2.1]) (by rw [m2.1]; omega) (by rw [m2.1]; omega) m2.2 rb.2.2)) ?_
    simp -dsimp -implicitDefEqProofs only [go_sem, ↓reduceIte, Tryz.f52, bZ, cY, cZ, aF]
    refine ⟨by decide, by decide, by decide, by omega, by omega, by omega, fun b hb => hnext _ b _ (by rw [pL, if_neg (by omega), if_neg (by omega), if_neg (by omega), if_neg (by omega), if_neg (by omega), if_neg (by omega)]) (by first | exact hb.2.2.2 | exact hb.2.2) ?_⟩
    try rw [dQ R hml]
    exact aB.fD (qL _ _ _)
   ·have na := hgR c.fA (by omega)
    simp -dsimp -implicitDefEqProofs only [go_sem, ↓reduceIte, Tryz.f52, h1, bZ, na.1, cY, cZ, aF]
    refine ⟨by omega, by omega, ?_⟩
    first | refine aG.mk (kD (R.getD c.fA.toNat []) 1000002 (by unfold iI; omega) (by rw [na.2.1]; omega) na.2.2) ?_ | refine aE.mk (kD (R.getD c.fA.toNat []) 1000002 (by unfold iI; omega) (by rw [na.2.1]; omega) na.2.2) ?_ | refine aG.a8 (kD (R.getD c.fA.toNat []) 1000002 (by unfold iI; omega) (by rw [na.2.1]; omega) na.2.2) ?_ | refine aE.mk (a6.cK (kD (R.getD c.fA.toNat []) 1000002 (by unfold iI; omega) (by rw [na.2.1]; omega) na.2.2)) ?_
    simp -dsimp -implicitDefEqProofs only [go_sem, ↓reduceIte, Tryz.f52, bZ, cY, cZ, aF]
    refine ⟨by decide, by decide, by decide, by omega, by omega, by omega, fun b hb => hnext _ b _ (by rw [pL, if_neg (by omega), if_neg (by omega), if_neg (by omega), if_neg (by omega), if_neg (by omega), if_pos h1]) (by first | exact hb.2.2.2 | exact hb.2.2) ?_⟩
    try rw [dQ R hml]
    exact aB.fD (qL _ _ _)
 ·have hk' : k = t.aO.length := by omega
  subst hk'
  have hdg : ∀ r, (zV sz dirs rg t.aO t.aO.length).getD r [] = xO sz dirs rg t.aO r := fun r => rfl
  have hmap : (t.aM.map fun r => xO sz dirs rg t.aO r.toNat).length = t.aM.length := List.length_map _
  generalize hD : zV sz dirs rg t.aO t.aO.length = D at *
  have hDget : ∀ r, 0 ≤ r ∧ r < (t.aO.length : Int) → D[r.toNat]? = some (xO sz dirs rg t.aO r.toNat) := fun r hr => by
   rw [← hdg]; exact fO (by omega)
  cases o with
  |none =>
   rw [a9] at hos
   rw [hos] at hml; simp at hml; omega
  |some n =>
   rw [aU] at hos
   simp -dsimp -implicitDefEqProofs only [go_sem, ↓reduceIte, Tryz.f52, aT, aL, Nat.lt_irrefl, Int.lt_irrefl]
   refine fun _ => ⟨Nat.zero_lt_one, ?_⟩
   generalize hgB : a5 h n (bZ D) = hB
   have hBn : hB n = some (bZ D) := by rw [← hgB, aH]
   have hBl : h.le hB := by rw [← hgB]; exact aB.bF hos (aB.le_refl _)
   refine bX (keep := aNT) (ib := a3L) (mk := a3M) mix (by kernel_rfl) (fun x : Nat × Option Nat => [(0, .ip 4 [[I t.jE, dB 4 aZ.c t.aO, dB 2 dX.c t.nJ, ints t.aM]] 0 0), (11, .os n 1 0 t.aO.length), (14, eK 1 ((t.aM.map fun r => xO sz dirs rg t.aO r.toNat).take x.1).length x.2), (15, I x.1)]) (fun x => gQ hB (.row 1 ((((t.aM.map fun r => xO sz dirs rg t.aO r.toNat).take x.1).map fun s => [ints s]).map (List.map .v))) x.2) (fun x => x.1 ≤ t.aM.length ∧ eP hB ((t.aM.map fun r => xO sz dirs rg t.aO r.toNat).take x.1) x.2) (fun x => t.aM.length - x.1) (0, none) ⟨by simp [b8, bJ, eK], by simp only [aR]; exact aB.le_refl _, Nat.zero_le _, by simp [eP]⟩ ?_
   rintro ⟨k, o⟩ ⟨hk, aNU⟩
   simp only at hk aNU ⊢
   rcases Nat.lt_or_ge k t.aM.length with hlt | aFF
   ·have ea : t.aM[k]? = some t.aM[k] := List.getElem?_eq_getElem hlt
    have hr0 := ho _ (List.getElem_mem hlt)
    have eg := hDget _ hr0
    have xV := hdS t.aM[k].toNat (by omega)
    have hy : (t.aM.map fun r => xO sz dirs rg t.aO r.toNat).take (k + 1) = (t.aM.map fun r => xO sz dirs rg t.aO r.toNat).take k ++ [xO sz dirs rg t.aO t.aM[k].toNat] := by
     rw [List.take_succ_eq_append_getElem (by rw [List.length_map]; exact hlt), List.getElem_map]
    have hlk : ((t.aM.map fun r => xO sz dirs rg t.aO r.toNat).take k).length = k := by rw [List.length_take, List.length_map]; omega
    generalize xO sz dirs rg t.aO t.aM[k].toNat = s at *
    have hos := aNU
    cases o with
    |none =>
     rw [a9] at hos
     rw [hos] at hy ⊢
     simp -dsimp -implicitDefEqProofs only [go_sem, ↓reduceIte, Tryz.f52, a7, aR, hlt, ea, hBn, bZ, eg]
     refine fun _ => ⟨hr0.1, hr0.2, ?_⟩
     first | refine aG.mk (fK s (by rw [xV.1]; omega)) ?_ | refine aE.mk (fK s (by rw [xV.1]; omega)) ?_ | refine aG.a8 (fK s (by rw [xV.1]; omega)) ?_ | refine aE.mk (a6.cK (fK s (by rw [xV.1]; omega))) ?_
     simp -dsimp -implicitDefEqProofs only [go_sem, ↓reduceIte, Tryz.f52]
     repeat' (with_reducible first | intro _ | refine And.intro ?_ ?_)
     all_goals try (first | omega | decide)
     rename_i b hb
     refine ⟨(k + 1, some b), ?_⟩
     simp only [hy]
     refine ⟨⟨rfl, ?_⟩, aB.le_refl _, ⟨by omega, hb⟩, by omega⟩
     rw [IntWalk.i64_in _ (by omega)]; rfl
    |some n2 =>
     rw [aU] at hos
     have aUZ : ¬ n = n2 := fun e => by rw [← e, hBn] at hos; cases hos
     have a3N : ¬ n2 = n := Ne.symm aUZ
     have a3O : (n = n2) = False := eq_false aUZ
     have a3P : (n2 = n) = False := eq_false a3N
     simp -dsimp -implicitDefEqProofs only [go_sem, ↓reduceIte, Tryz.f52, aT, aL, hlt, ea, hBn, bZ, eg, a3O, a3P, aF]
     refine fun _ => ⟨hr0.1, hr0.2, ?_⟩
     first | refine aG.mk (fK s (by rw [xV.1]; omega)) ?_ | refine aE.mk (fK s (by rw [xV.1]; omega)) ?_ | refine aG.a8 (fK s (by rw [xV.1]; omega)) ?_ | refine aE.mk (a6.cK (fK s (by rw [xV.1]; omega))) ?_
     simp -dsimp -implicitDefEqProofs only [go_sem, ↓reduceIte, Tryz.f52]
     repeat' (with_reducible first | intro _ | refine And.intro ?_ ?_)
     all_goals try (first | omega | decide | exact Nat.le_refl _)
     rename_i b hb
     refine ⟨(k + 1, some b), ?_⟩
     simp only [hy, aL, aT, aU]
     refine ⟨⟨by rw [List.length_append]; rfl, ?_⟩, ?_, ⟨by omega, hb.2⟩, by omega⟩
     ·rw [IntWalk.i64_in _ (by omega)]; rfl
     ·rw [← eN]; exact kO hos
   ·have hk' : k = t.aM.length := by omega
    subst hk'
    rw [List.take_of_length_le (by omega)] at aNU ⊢
    cases o with
    |none =>
     rw [a9] at aNU
     simp -dsimp -implicitDefEqProofs only [go_sem, ↓reduceIte, Tryz.f52, a7, aR, Nat.lt_irrefl, Int.lt_irrefl]
     rw [aNU]
     exact fun _ => Shift.of (Sub.loose _ _ _) hBl
    |some n2 =>
     rw [aU] at aNU
     simp -dsimp -implicitDefEqProofs only [go_sem, ↓reduceIte, Tryz.f52, aT, aL, Nat.lt_irrefl, Int.lt_irrefl]
     exact fun _ => (lK _ aNU (aB.le_refl _) (List.length_map _).symm).trans (bQ hBl)
theorem aYE {V : Nat → List (List Int) → List (List Int)} {start : List Int} {o k : Nat} (hk : k ≤ o) : (fS V start o).map (fun s => s.take (k + 1)) = fS V start k := by
 apply List.ext_getElem
 ·rw [List.length_map, gA, gA]
 ·intro i a b
  rw [List.length_map, gA] at a
  have h1 := nL V start a o
  have h2 := nL V start a k
  rw [List.getD_eq_getElem?_getD, List.getElem?_eq_getElem (by rw [gA]; exact a)] at h1 h2
  rw [List.getElem_map, show (fS V start o)[i]'(by rw [gA]; exact a) = _ from h1, show (fS V start k)[i]'(by rw [gA]; exact a) = _ from h2, List.take_succ_cons, ← List.map_take, List.take_range, Nat.min_eq_left hk]
theorem iM.a0Q {h g : aB} {b k m : Nat} {es : List (List OV)} {l : List Int} (l' : List Int) (X : iM h (OV.bM [OV.sl b 1 es]) g) (hk : es[k]? = some (oI m l)) (hl : l'.length = l.length) : iM h (OV.bM [OV.sl b 1 (es.set k (oI m l'))]) (a5 g m (l7 l')) ∧ OV.cells (es.set k (oI m l')) = OV.cells es := by
 obtain ⟨hlt, he⟩ := List.getElem?_eq_some_iff.1 hk
 obtain ⟨A, B, rfl, rfl⟩ : ∃ A B, es = A ++ oI m l :: B ∧ k = A.length := ⟨es.take k, es.drop (k + 1), by rw [← he, List.getElem_cons_drop, List.take_append_drop], by rw [List.length_take]; omega⟩
 have hset : (A ++ oI m l :: B).set A.length (oI m l') = A ++ oI m l' :: B := by rw [List.set_append_right _ _ (Nat.le_refl _), Nat.sub_self]; rfl
 have hrw : ∀ s, OV.bM [OV.sl b 1 (A ++ oI m s :: B)] = ((b, bL.row 1 (OV.cells (A ++ oI m s :: B))) :: OV.bG A) ++ (m, l7 s) :: OV.bG B := fun s => by
  rw [OV.cT, OV.eC, List.append_nil, OV.dI, OV.mE, cR, oI, OV.cT, OV.eC, List.append_nil, OV.dI, hU, fV]; rfl
 have hce : OV.cells (A ++ oI m l' :: B) = OV.cells (A ++ oI m l :: B) := by
  have h1 : ∀ s, OV.cells (A ++ oI m s :: B) = OV.cells A ++ [.v (.os m 1 0 s.length)] :: OV.cells B := fun s => by
   rw [cP, show oI m s :: B = [oI m s] ++ B from rfl, cP, aQU, aP3]; rfl
  rw [h1, h1, hl]
 rw [hset]
 refine ⟨?_, hce⟩
 rw [hrw] at X ⊢
 rw [hce]
 exact ((X.perm List.perm_middle).set).perm List.perm_middle.symm
theorem aGN (n : Int) {sz : Nat} (hs : 1 ≤ sz ∧ sz ≤ 1048576) : rQ Tryz.prog 51 [I n, I sz] (QS (OS (oP I) 1 (cF n sz))) := by
 have e2 := y9 (x := [aD.int .i64 0]) hs.1
 refine qD 14 tI bT bD mix Tryz.func51 rfl (by kernel_rfl) (by simp) fun h => ?_
 simp -dsimp -implicitDefEqProofs only [go_sem, ↓reduceIte, Tryz.f51, Int.toNat_natCast, e2]
 refine ⟨Nat.zero_lt_one, Nat.le_refl _, by omega, by omega, fun m hm => ⟨fun _ => ⟨by omega, ?_⟩, fun q => absurd q (by omega)⟩⟩
 rw [aK, show Int.toNat 0 = 0 from rfl, sJ]
 have := rC (c := I) (l := cF n sz) (sz := 1) hm
 rwa [lH] at this
def rW (V : Nat → List (List Int) → List (List Int)) (start : List Int) (sz q r : Nat) : List Int := (fS V start q).getD r [] ++ List.replicate (sz - (q + 1)) 0
def pN (V : Nat → List (List Int) → List (List Int)) (start : List Int) (sz k i : Nat) : List (List Int) := (List.range start.length).map fun r => rW V start sz (if r < i then k + 1 else k) r
theorem sY (V : Nat → List (List Int) → List (List Int)) {start : List Int} (ns : dP start) {sz q r : Nat} (hq : q < sz) (hr : r < start.length) : (rW V start sz q r).length = sz := by
 have := (gE V ns q).len hr
 rw [rW, List.length_append, this, List.length_replicate]; omega
theorem aU0 (V : Nat → List (List Int) → List (List Int)) {start : List Int} (ns : dP start) {sz q r : Nat} (hq : q < sz) (hr : r < start.length) : bC sz (rW V start sz q r) := ⟨sY V ns hq hr, fun x hx => by
 rcases List.mem_append.1 hx with hx | hx
 ·exact ((gE V ns q).1.get hr).2.2 x hx
 ·rw [(List.mem_replicate.1 hx).2]; exact iZ⟩
theorem aRH (V : Nat → List (List Int) → List (List Int)) {start : List Int} (ns : dP start) {sz q r : Nat} (hr : r < start.length) : (rW V start sz q r).take (q + 1) = (fS V start q).getD r [] := by
 have := (gE V ns q).len hr
 rw [rW, List.take_append_of_le_length (by omega), List.take_of_length_le (by omega)]
theorem aLM (V : Nat → List (List Int) → List (List Int)) {start : List Int} (ns : dP start) {sz q r : Nat} (hq : q + 1 < sz) (hr : r < start.length) : (rW V start sz q r).set (q + 1) (((V (q + 1) (fS V start q)).getD r []).getD q 0 * iQ ((q : Int) + 1) % 1000003) = rW V start sz (q + 1) r := by
 have h1 := (gE V ns q).len hr
 rw [rW, rW, List.set_append_right _ _ (by omega), h1, Nat.sub_self, fS, pZ hr, show sz - (q + 1) = (sz - (q + 1 + 1)) + 1 by omega, List.replicate_succ, List.set_cons_zero, List.append_assoc]; rfl
theorem jC (V : Nat → List (List Int) → List (List Int)) (start : List Int) (sz k i : Nat) : (pN V start sz k i).length = start.length := by simp [pN]
theorem aLN (V : Nat → List (List Int) → List (List Int)) (start : List Int) (sz k i : Nat) {r : Nat} (hr : r < start.length) : (pN V start sz k i).getD r [] = rW V start sz (if r < i then k + 1 else k) r := pZ hr _
theorem zS (V : Nat → List (List Int) → List (List Int)) {start : List Int} (ns : dP start) {sz k i : Nat} (hk : k < sz) (hi : i = 0 ∨ k + 1 < sz) : eS sz start.length (pN V start sz k i) := ⟨jC _ _ _ _ _, fun s hs => by
 obtain ⟨r, hr, rfl⟩ := List.mem_map.1 hs
 refine aU0 V ns ?_ (List.mem_range.1 hr)
 split <;> omega⟩
theorem aGO (V : Nat → List (List Int) → List (List Int)) (start : List Int) (sz k : Nat) : pN V start sz k start.length = pN V start sz (k + 1) 0 := List.map_congr_left fun r hr => by rw [if_pos (List.mem_range.1 hr), if_neg (Nat.not_lt_zero _)]
theorem aEU (V : Nat → List (List Int) → List (List Int)) {start : List Int} (ns : dP start) {sz k : Nat} : (pN V start sz k 0).map (fun s => s.take (k + 1)) = fS V start k := by
 apply List.ext_getElem
 ·rw [List.length_map, jC, gA]
 ·intro i a b
  rw [List.length_map, jC] at a
  simp only [List.getElem_map, pN, List.getElem_range, if_neg (Nat.not_lt_zero _)]
  rw [aRH V ns a, List.getD_eq_getElem?_getD, List.getElem?_eq_getElem b]; rfl
theorem aLO (V : Nat → List (List Int) → List (List Int)) {start : List Int} (ns : dP start) (o : Nat) : pN V start (o + 1) o 0 = fS V start o := by
 rw [← aEU V ns (sz := o + 1)]
 apply List.ext_getElem
 ·simp
 ·intro i a b
  rw [jC] at a
  rw [List.getElem_map, List.take_of_length_le]
  simp only [pN, List.getElem_map, List.getElem_range, if_neg (Nat.not_lt_zero _)]
  rw [sY V ns (by omega) a]; exact Nat.le_refl _
theorem aLP (V : Nat → List (List Int) → List (List Int)) {start : List Int} {sz k i : Nat} (hi : i < start.length) : pN V start sz k (i + 1) = (pN V start sz k i).set i (rW V start sz (k + 1) i) := by
 apply List.ext_getElem
 ·simp [pN]
 ·intro r a b
  rw [List.getElem_set]
  split
  ·rename_i e; subst e
   simp [pN]
  ·rename_i e
   simp only [pN, List.getElem_map, List.getElem_range]
   congr 1
   by_cases h1 : r < i
   ·rw [if_pos h1, if_pos (by omega)]
   ·rw [if_neg h1, if_neg (by omega)]
theorem aEV (V : Nat → List (List Int) → List (List Int)) {start : List Int} {sz : Nat} (hsz : 1 ≤ sz) : pN V start sz 0 0 = l8 start sz := by
 apply List.ext_getElem
 ·simp [pN, l8]
 ·intro r a b
  have a1 : r < start.length := by rw [jC] at a; exact a
  obtain ⟨q, rfl⟩ : ∃ q, sz = q + 1 := ⟨sz - 1, by omega⟩
  simp only [pN, List.getElem_map, List.getElem_range, if_neg (Nat.not_lt_zero _)]
  rw [rW, nL V start a1]
  simp only [l8, List.getElem_map, cF, List.replicate_succ, List.set_cons_zero]
  simp [List.getD_eq_getElem?_getD, List.getElem?_eq_getElem a1]
theorem aGP {h g : aB} {b len : Nat} {es : List (List OV)} {L : List (List Int)} (hes : OR (oL I) L es) (hnw : iM h (OV.bM [OV.sl b 1 es]) g) (hl : len = L.length) : View g (.os b 1 0 len) (bI L) := by
 have h1 := View.ovD (h := g) (d := bI L) (OV.sl b 1 es) (sW (OS.mk hes)) (by
  have := hnw.iJ
  rw [OV.cT, OV.eC, List.append_nil] at this
  exact this)
 rw [OV.nD, ← hes.length] at h1
 rwa [hl]
theorem aU1 {vs : List (List Int)} {u : Nat} : aF7 (.ok (vs, u)) = (vs.map (·.getD 0 0), (u : Int), 0) := rfl
@[go_sem] def aEW : List Nat := [0, 1, 2, 3, 8, 9, 12, 13, 14, 15, 16, 18, 28, 35, 50, 68]
@[go_sem] def aU2 : List Nat := [29, 31, 46]
@[go_sem] def aU3 : Marks := fun id => match id with | 16 => ([3, 18], (.op 0 (.op 1 (.op 2 (.op 4 (.op 5 (.op 6 (.op 7 (.op 8 (.op 9 (.op 10 (.op 11 (.op 12 (.op 13 (.op 14 (.op 15 (.op 16 (.op 3 (.op 17 (.op 18 .nil))))))))))))))))))), []) | _ => ([], .nil, [])
theorem aU4 {p : aC} (hp : p.ok) {sz : Nat} (hsz : 1 ≤ sz ∧ sz ≤ 13) (f : Int) (hf : 0 ≤ f ∧ f < p.aJ.length) {start : List Int} (ns : dP start) (hs : 1 ≤ start.length ∧ start.length ≤ 12) (hl : ∀ F, p.aJ[f.toNat]? = some F → (start.length : Int) = F.aX) {V : Nat → List (List Int) → List (List Int)} {u : Nat} {vs : List (List Int)} (hV : VF start V) (h1 : xU p 1 f (start.map fun n => [n]) = .ok (vs, u)) (qQ : ∀ sz X, 1 ≤ sz → St start sz X → xU p sz f X = .ok (V sz X, u)) :
  rQ Tryz.prog 49 [.ip 1 [p.c] 0 0, I f, ints start, I ((sz : Int) - 1)] (QS (OS (oL I) 1 (fS V start (sz - 1))) (fun y => .gN [y, I 0])) := by
 have h2 := aPP hp f hf start ns hs.2 hl
 rw [h1, aU1] at h2
 have h3 := fun k (hk : k < sz) => aXJ hp (sz := k + 1) (by omega) f hf (fS V start k) (gE V ns k).1.2 (fun F hF => by rw [gA]; exact hl F hF)
 have h3' := fun k (hk : k < sz) => qQ (k + 1) _ (by omega) (gE V ns k)
 have e1 : IntKind.i64.wrap ((sz : Int) - 1 + 1) = (sz : Int) := by rw [IntWalk.i64_in _ (by omega)]; omega
 have hel : (l8 start sz).length = start.length := by simp [l8]
 simp only [aC.aN] at h2 h3 ⊢
 refine qD 90 aEW aU2 aU3 mix Tryz.func49 rfl (by kernel_rfl) (by simp) fun h => ?_
 simp -dsimp -implicitDefEqProofs only [go_sem, ↓reduceIte, Tryz.f49]
 first | refine aG.mk (h2) ?_ | refine aE.mk (h2) ?_ | refine aG.a8 (h2) ?_ | refine aE.mk (a6.cK (h2)) ?_
 simp -dsimp -implicitDefEqProofs only [go_sem, ↓reduceIte, Tryz.f49]
 refine ⟨Nat.zero_lt_one, ?_⟩
 refine bX (keep := aEW) (ib := aU2) (mk := aU3) mix (by kernel_rfl) (fun x : Nat × LLx => [(0, .ip 1 [[dB 3 aP.c p.aJ]] 0 0), (1, I f), (2, ints start), (3, I ((sz : Int) - 1)), (13, eK 1 x.1 x.2.1), (14, I x.1)]) (fun x => rX x.2) (fun x => x.1 ≤ start.length ∧ xW h ((l8 start sz).take x.1) x.2) (fun x => start.length - x.1) (0, none, [], h) ⟨by simp [b8, bJ, eK], aB.le_refl _, Nat.zero_le _, xW.init _⟩ ?_
 rintro ⟨k, op, es, g⟩ ⟨hk, H⟩
 simp only at hk H ⊢
 rcases Nat.lt_or_ge k start.length with hlt | hge
 ·have ea : start[k]? = some start[k] := List.getElem?_eq_getElem hlt
  have hy : (l8 start sz).take (k + 1) = (l8 start sz).take k ++ [cF start[k] sz] := by
   rw [List.take_succ_eq_append_getElem (by omega)]; simp [l8]
  have hlk : ((l8 start sz).take k).length = k := by rw [List.length_take]; omega
  have nM := H.len
  simp only [hlk] at nM
  have hown := aGN start[k] (sz := sz) (by omega)
  have hc := lH start[k] sz
  cases op with
  |none =>
   obtain ⟨h1, rfl, rfl⟩ := H.nil
   obtain rfl : k = 0 := by rw [← hlk, h1]; rfl
   simp -dsimp -implicitDefEqProofs only [go_sem, ↓reduceIte, Tryz.f49, hlt, ea, e1, a7, rX, aR]
   intro _
   refine aG.wn0 (hown) ?_
   rintro r_ l_ g ⟨y_, oy_, rfl, rfl⟩ wn_
   rcases oy_.xF with ⟨_, q_⟩ | ⟨m, rfl⟩
   ·rw [q_] at hc; simp at hc; omega
   rw [OV.j9]
   rw [OV.dI, hU, fV] at wn_
   obtain ⟨zm, rfl⟩ := wn_.rT
   simp -dsimp -implicitDefEqProofs only [go_sem, ↓reduceIte, Tryz.f49, hc, a7]
   refine ⟨Nat.zero_lt_one, Nat.zero_lt_one, Nat.zero_lt_one, fun b ⟨b1, b2⟩ => ?_⟩
   obtain ⟨x', e', H', L'⟩ := H.fin (m := m) (b := b) (s := cF start[0] sz) (hc) zm b2 b1 (aB.le_refl _)
   refine ⟨(1, x'), ⟨by simp only [e']; rfl, IntWalk.i64_in _ (by omega)⟩, L', ⟨hlt, by simp only; rw [hy]; exact H'⟩, by simp only; omega⟩
  |some n =>
   simp -dsimp -implicitDefEqProofs only [go_sem, ↓reduceIte, Tryz.f49, hlt, ea, e1, aT, rX, aL, fX, nM]
   intro _
   refine aG.wn1 (hown) H.2.2 ?_
   rintro r_ l_ g' ⟨y_, oy_, rfl, rfl⟩ wn_ zn
   rcases oy_.xF with ⟨_, q_⟩ | ⟨m, rfl⟩
   ·rw [q_] at hc; simp at hc; omega
   rw [OV.j9]
   rw [OV.dI, hU, fV] at wn_
   obtain ⟨zm, rfl⟩ := wn_.rT
   have gX : ¬ m = n := fun e => by rw [e, aH] at zn; cases zn
   have nK : ¬ n = m := Ne.symm gX
   have cY : (m = n) = False := eq_false gX
   have cZ : (n = m) = False := eq_false nK
   simp -dsimp -implicitDefEqProofs only [go_sem, ↓reduceIte, Tryz.f49, hc, cY, cZ, aF, fX, nM, aT]
   refine ⟨Nat.zero_lt_one, Nat.zero_lt_one, Nat.zero_lt_one, Nat.le_refl _, by omega, by omega, fun b ⟨bn, bm, bz⟩ => ?_⟩
   rw [show List.take k (OV.cells es) = OV.cells es from nM ▸ oC es]
   refine ⟨(k + 1, some b, es ++ [oI m (cF start[k] sz)], a5 g m (l7 (cF start[k] sz))), ⟨rfl, IntWalk.i64_in _ (by omega)⟩, ?_, ⟨hlt, by simp only; rw [hy]; exact H.snoc (cF start[k] sz) zm bz bm⟩, by simp only; omega⟩
   show (rX (some b, es ++ [oI m (cF start[k] sz)], a5 g m (l7 (cF start[k] sz)))).le _
   rw [rX.snoc, show List.length (cF start[k] sz) = _ from hc]
   exact zR H.2.2 gX bn (fun q hq => by simp only [c8, if_neg hq]; (repeat' split) <;> first | rfl | contradiction)
 ·have hk' : k = start.length := by omega
  subst hk'
  simp -dsimp -implicitDefEqProofs only [go_sem, ↓reduceIte, Tryz.f49, Nat.lt_irrefl, Int.lt_irrefl]
  intro _
  rw [List.take_of_length_le (by omega)] at H
  obtain ⟨y, hy, hv, hw⟩ := H.done
  rw [hel] at hv
  generalize rX (op, es, g) = G0 at *
  rw [← hv]
  rcases hy with ⟨rfl, h0⟩ | ⟨b, es, rfl, hes⟩
  ·rw [h0] at hel; simp at hel; omega
  rw [← aEV V hsz.1] at hes
  have a3Q : es.length = start.length := by rw [← hes.length, jC]
  rw [OV.nD, a3Q]
  have hnw : iM h (OV.bM [OV.sl b 1 es]) G0 := by rw [OV.cT, OV.eC, List.append_nil]; exact hw
  refine bX (keep := aEW) (ib := aU2) (mk := aU3) mix (by kernel_rfl) (fun x : Nat × List (List OV) × aB => [(0, .ip 1 [[dB 3 aP.c p.aJ]] 0 0), (1, I f), (2, ints start), (3, I ((sz : Int) - 1)), (13, .os b 1 0 start.length), (15, I x.1)]) (fun x => x.2.2) (fun x => x.1 ≤ sz - 1 ∧ OR (oL I) (pN V start sz x.1 0) x.2.1 ∧ iM h (OV.bM [OV.sl b 1 x.2.1]) x.2.2) (fun x => sz - 1 - x.1) (0, es, G0) ⟨by simp [b8, bJ], aB.le_refl _, Nat.zero_le _, hes, hnw⟩ ?_
  rintro ⟨k, es, g⟩ ⟨hk, hes, hnw⟩
  simp only at hk hes hnw ⊢
  have hgb : g b = some (.row 1 (OV.cells es)) := hnw.aKI []
  have hesl : es.length = start.length := by rw [← hes.length, jC]
  rcases Nat.lt_or_ge k (sz - 1) with hlt | hge
  ·have hki : (k : Int) < (sz : Int) - 1 := by omega
   have hcut := aIX (pN V start sz k 0) (sz := sz) (k := k + 1) (zS V ns (by omega) (.inl rfl)).2 (by omega) (by omega) (by rw [jC]; omega)
   rw [aEU V ns] at hcut
   have aU5 := h3 k (by omega)
   rw [h3' k (by omega), show zB (.ok (V (k + 1) (fS V start k), u)) = (V (k + 1) (fS V start k), (u : Int), 0) from rfl] at aU5
   have hVs := hV.ser (k + 1) _ (by omega) (gE V ns k)
   have ek1 : IntKind.i64.wrap ((k : Int) + 1) = ((k + 1 : Nat) : Int) := IntWalk.i64_in _ (by omega)
   simp -dsimp -implicitDefEqProofs only [go_sem, ↓reduceIte, Tryz.f49, hki, ek1]
   refine aG.aUJ hcut (eJ.cons (aGP hes hnw (jC _ _ _ _ _).symm) (eJ.cons (View.same _ _) eJ.nil)) ?_
   simp -dsimp -implicitDefEqProofs only [go_sem, ↓reduceIte, Tryz.f49, ek1]
   first | refine aG.mk (aU5) ?_ | refine aE.mk (aU5) ?_ | refine aG.a8 (aU5) ?_ | refine aE.mk (a6.cK (aU5)) ?_
   simp -dsimp -implicitDefEqProofs only [go_sem, ↓reduceIte, Tryz.f49]
   refine bX (keep := aEW) (ib := aU2) (mk := aU3) mix (by kernel_rfl) (fun x : Nat × List (List OV) × aB => [(0, .ip 1 [[dB 3 aP.c p.aJ]] 0 0), (1, I f), (2, ints start), (3, I ((sz : Int) - 1)), (13, .os b 1 0 start.length), (15, I k), (16, bI (V (k + 1) (fS V start k))), (18, I x.1)]) (fun x => x.2.2) (fun x => x.1 ≤ start.length ∧ OR (oL I) (pN V start sz k x.1) x.2.1 ∧ iM h (OV.bM [OV.sl b 1 x.2.1]) x.2.2) (fun x => start.length - x.1) (0, es, g) ⟨by simp [b8, bJ], aB.le_refl _, Nat.zero_le _, hes, hnw⟩ ?_
   rintro ⟨i, es, g⟩ ⟨hi, hes, hnw⟩
   simp only at hi hes hnw ⊢
   have hgb : g b = some (.row 1 (OV.cells es)) := hnw.aKI []
   have hesl : es.length = start.length := by rw [← hes.length, jC]
   rcases Nat.lt_or_ge i start.length with jO | aFF
   ·obtain ⟨m, q1, q2, q3, q4⟩ := aNN hes hnw (zS V ns (by omega) (.inr (by omega))) hsz.1 jO
    rw [aLN V start sz k i jO, if_neg (Nat.lt_irrefl i)] at q1 q3
    have hv := hVs.get jO
    have evk := bR (l := (V (k + 1) (fS V start k)).getD i []) (i := k) (by rw [hv.2.1]; omega)
    have evl := hv.2.1
    have hn := hv.2.2.get k
    have hset := aLM V ns (sz := sz) (q := k) (by omega) jO
    have hpl := sY V ns (sz := sz) (q := k) (by omega) jO
    have epk := bR (l := rW V start sz k i) (i := k + 1) (by rw [hpl]; omega)
    have kV : ¬ m = b := q4
    have gJ : ¬ b = m := Ne.symm kV
    have lC : (m = b) = False := eq_false kV
    have lB : (b = m) = False := eq_false gJ
    simp -dsimp -implicitDefEqProofs only [go_sem, ↓reduceIte, Tryz.f49, jO, hgb, fX, hesl, q2, q3, hv.1, evk, evl, hVs.1, ek1]
    refine fun _ => ⟨by omega, ?_⟩
    first | refine aG.mk (lZ ((k + 1 : Nat) : Int)) ?_ | refine aE.mk (lZ ((k + 1 : Nat) : Int)) ?_ | refine aG.a8 (lZ ((k + 1 : Nat) : Int)) ?_ | refine aE.mk (a6.cK (lZ ((k + 1 : Nat) : Int))) ?_
    simp -dsimp -implicitDefEqProofs only [go_sem, ↓reduceIte, Tryz.f49]
    first | refine aG.mk (bA (((V (k + 1) (fS V start k)).getD i []).getD k 0) (iQ ((k + 1 : Nat) : Int)) hn (num_inv _)) ?_ | refine aE.mk (bA (((V (k + 1) (fS V start k)).getD i []).getD k 0) (iQ ((k + 1 : Nat) : Int)) hn (num_inv _)) ?_ | refine aG.a8 (bA (((V (k + 1) (fS V start k)).getD i []).getD k 0) (iQ ((k + 1 : Nat) : Int)) hn (num_inv _)) ?_ | refine aE.mk (a6.cK (bA (((V (k + 1) (fS V start k)).getD i []).getD k 0) (iQ ((k + 1 : Nat) : Int)) hn (num_inv _))) ?_
    simp -dsimp -implicitDefEqProofs only [go_sem, ↓reduceIte, Tryz.f49, hgb, q2, q3, hpl, fX, hesl, jO, l7, epk]
    rw [pC I, show ((k + 1 : Nat) : Int) = (k : Int) + 1 from rfl, hset]
    refine ⟨by omega, ?_⟩
    have hpe := hnw.a0Q (rW V start sz (k + 1) i) q1 (by rw [hpl, sY V ns (by omega) jO])
    trace_state
    exact ⟨(i + 1, es.set i (oI m (rW V start sz (k + 1) i)), a5 g m (l7 (rW V start sz (k + 1) i))), IntWalk.i64_in _ (by omega), aB.le_refl _, ⟨jO, by simp only; rw [aLP V jO]; exact hes.set i _ _ (a3D m _), hpe.1⟩, by simp only; omega⟩
   ·obtain rfl : i = start.length := by omega
    simp -dsimp -implicitDefEqProofs only [go_sem, ↓reduceIte, Tryz.f49, Nat.lt_irrefl, Int.lt_irrefl]
    exact fun _ => ⟨(k + 1, es, g), IntWalk.i64_in _ (by omega), aB.le_refl _, ⟨by omega, by simp only; rw [← aGO]; exact hes, hnw⟩, by simp only; omega⟩
  ·have hk' : k = sz - 1 := by omega
   subst hk'
   simp -dsimp -implicitDefEqProofs only [go_sem, ↓reduceIte, Tryz.f49, show ¬ (((sz - 1 : Nat) : Int) < (sz : Int) - 1) by omega]
   obtain ⟨o, rfl⟩ : ∃ o, sz = o + 1 := ⟨sz - 1, by omega⟩
   rw [Nat.add_sub_cancel, aLO V ns] at hes
   rw [OV.cT, OV.eC, List.append_nil] at hnw
   exact ⟨_, g, _, aV _ _, ⟨OV.sl b 1 es, OS.mk hes, by rw [OV.nD, hesl], rfl⟩, hnw⟩
theorem aU6 {p : aC} (hp : p.ok) (f : Int) (hf : 0 ≤ f ∧ f < p.aJ.length) {start : List Int} (ns : dP start) (hs : 1 ≤ start.length ∧ start.length ≤ 12) (hl : ∀ F, p.aJ[f.toNat]? = some F → (start.length : Int) = F.aX) {c : Int} (h1 : xU p 1 f (start.map fun n => [n]) = .error c) (order : Int) :
  dV Tryz.prog 49 [.ip 1 [p.c] 0 0, I f, ints start, I order] (.gN [bI [], I c]) := by
 have h2 := aPP hp f hf start ns hs.2 hl
 have hc := y8 p 1 f _ c h1
 rw [h1, show aF7 (.error c) = ([], 0, c) from rfl] at h2
 simp only [aC.aN] at h2 ⊢
 refine lO 90 aEW aU2 aU3 mix Tryz.func49 rfl (by kernel_rfl) (by simp) fun h => ?_
 simp -dsimp -implicitDefEqProofs only [go_sem, ↓reduceIte, Tryz.f49]
 first | refine aG.mk (h2) ?_ | refine aE.mk (h2) ?_ | refine aG.a8 (h2) ?_ | refine aE.mk (a6.cK (h2)) ?_
 simp -dsimp -implicitDefEqProofs only [go_sem, ↓reduceIte, Tryz.f49]
 exact ⟨fun _ => ⟨Nat.zero_lt_one, Shift.of (Sub.gN (.cons (Sub.loose _ _ _) (.cons (.refl _) .nil))) (aB.le_refl _)⟩, fun q => absurd q (by omega)⟩
def bH (p : aC) (inp : Int) (S : b5) (om og ov : Option Nat) : bL :=
 .row 6 [[.v (.ip 1 [[dB 3 aP.c p.aJ]] 0 0), .v (I inp), .v (mL 4 S.code.length om), .v (mL 2 S.guards.length og), .v .bO, .v (mL 1 S.dU.length ov)]]
theorem aLQ (p : aC) (inp : Int) : ∀ S om og ov, ∃ sz cs, bH p inp S om og ov = .row sz cs ∧ ¬ sz = 1 ∧ ¬ sz = 2 ∧ ¬ sz = 4 := fun S om og ov => ⟨6, _, rfl, by decide, by decide, by decide⟩
@[go_sem] def a0S : List Nat := [4, 14, 25]
@[go_sem] def a0T : Marks := fun id => match id with | 1 => ([5, 8, 12], (.op 0 (.op 1 (.op 2 (.op 3 (.op 4 (.op 6 (.op 7 (.op 5 (.op 8 (.op 9 (.op 10 (.op 11 (.op 12 .nil))))))))))))), []) | _ => ([], .nil, [])
theorem v5 {h0 h : aB} {nb : Nat} {p : aC} {inp : Int} {S : b5} (H : cE (bH p inp) h0 nb S h) (x : aZ) (v : Int) (hl : S.code.length = S.dU.length) (hcap : S.dU.length ≤ 1048576) :
  eH Tryz.prog 125 [.op nb 6 0 0, .agg x.c, I v] h fun r h' => r = I S.dU.length ∧ cE (bH p inp) h0 nb (S.put x v) h' := by
 obtain ⟨om, og, ov, H⟩ := H
 have hb := H.box
 have hc := H.code
 have hv := H.dU
 unfold bH at hb
 rw [aZ.aN]
 cases om with
 |none =>
  have pB : S.code = [] := fR.1 hc
  cases ov with
  |some v =>
   have lV : S.dU = [] := List.eq_nil_of_length_eq_zero (by rw [← hl, pB]; rfl)
   exact absurd (by rw [lV]; rfl) hv.1
  |none =>
   have lV : S.dU = [] := fR.1 hv
   refine gG 36 aOK a0S a0T mix Tryz.func125 rfl (by kernel_rfl) (by simp) ?_
   simp -dsimp -implicitDefEqProofs only [go_sem, ↓reduceIte, Tryz.f125, hb, sG]
   refine ⟨by decide, by decide, by decide, fun m hm => ?_⟩
   have dA : ¬ m = nb := fun e => by rw [e, hb] at hm; cases hm
   have c5 : ¬ nb = m := Ne.symm dA
   have dG : (m = nb) = False := eq_false dA
   have dH : (nb = m) = False := eq_false c5
   simp -dsimp -implicitDefEqProofs only [go_sem, ↓reduceIte, Tryz.f125, hb, sG, dG, dH, aF]
   refine ⟨by decide, by decide, by decide, fun w ⟨hwb, hwm, hw⟩ => ?_⟩
   have l5 : ¬ w = nb := hwb
   have uB : ¬ nb = w := Ne.symm l5
   have kP : (w = nb) = False := eq_false l5
   have kQ : (nb = w) = False := eq_false uB
   have sO : ¬ w = m := hwm
   have zD : ¬ m = w := Ne.symm sO
   have rH : (w = m) = False := eq_false sO
   have rI : (m = w) = False := eq_false zD
   try simp -dsimp -implicitDefEqProofs only [go_sem, ↓reduceIte, Tryz.f125, hb, dG, rI, dH, kQ, rH, kP, aF]
   obtain ⟨g, hg, hR⟩ := H.put x v hm hw sO (F := a5 (a5 (a5 h m (.row 4 [x.c.map .v])) w (.row 1 [[.v (I v)]])) nb (bH p inp (S.put x v) (some m) og (some w))) (aH _ _ _)
    (by rw [aF _ _ _ _ dA, aF _ _ _ _ zD, aH, pB]; rfl) (by rw [aF _ _ _ _ l5, aH, lV]; rfl) (fun n h1 h2 h3 _ _ => by rw [aF _ _ _ _ h1, aF _ _ _ _ h3, aF _ _ _ _ h2])
   refine ⟨_, g, bQ (aB.le_trans hg ?_), by rw [lV]; rfl, hR⟩
   unfold bH
   simp only [b5.put, pB, lV, cV, aZ.aN, List.nil_append, List.length_singleton, List.map_cons, List.map_nil]
   exact (jM (by repeat' (first | exact h8 _ _ | refine jN (by simp only [c8, ↓reduceIte, eq_self, if_true, dG, rI, dH, kQ, rH, kP]) ?_ | refine fY (by first | exact .inr (by assumption) | exact .inl (by simp)) ?_)))
 |some m =>
  cases ov with
  |none =>
   have lV : S.dU = [] := fR.1 hv
   have pB : S.code = [] := List.eq_nil_of_length_eq_zero (by rw [hl, lV]; rfl)
   exact absurd (by rw [pB]; rfl) hc.1
  |some w =>
   have hm := hc.2
   have hw := hv.2
   have dA : ¬ m = nb := fun e => by rw [e, hb] at hm; cases hm
   have c5 : ¬ nb = m := Ne.symm dA
   have dG : (m = nb) = False := eq_false dA
   have dH : (nb = m) = False := eq_false c5
   have l5 : ¬ w = nb := fun e => by rw [e, hb] at hw; cases hw
   have uB : ¬ nb = w := Ne.symm l5
   have kP : (w = nb) = False := eq_false l5
   have kQ : (nb = w) = False := eq_false uB
   have sO : ¬ w = m := fun e => by rw [e, hm] at hw; cases hw
   have zD : ¬ m = w := Ne.symm sO
   have rH : (w = m) = False := eq_false sO
   have rI : (m = w) = False := eq_false zD
   refine gG 36 aOK a0S a0T mix Tryz.func125 rfl (by kernel_rfl) (by simp) ?_
   simp -dsimp -implicitDefEqProofs only [go_sem, ↓reduceIte, Tryz.f125, hb, cV, hm, hw, dG, rI, dH, kQ, rH, kP, aF]
   refine ⟨by decide, by decide, by decide, by rw [dJ]; exact Nat.le_refl _, by omega, by omega, fun b jL => ?_⟩
   have bS : ¬ b = nb := fun e => by rw [e, hb] at jL; cases jL
   have dO : ¬ nb = b := Ne.symm bS
   have cI : (b = nb) = False := eq_false bS
   have cJ : (nb = b) = False := eq_false dO
   have gJ : ¬ b = m := fun e => by rw [e, hm] at jL; cases jL
   have kV : ¬ m = b := Ne.symm gJ
   have lB : (b = m) = False := eq_false gJ
   have lC : (m = b) = False := eq_false kV
   have aEH : ¬ b = w := fun e => by rw [e, hw] at jL; cases jL
   have aTO : ¬ w = b := Ne.symm aEH
   have aEI : (b = w) = False := eq_false aEH
   have aEJ : (w = b) = False := eq_false aTO
   simp -dsimp -implicitDefEqProofs only [go_sem, ↓reduceIte, Tryz.f125, hb, hw, dG, rI, lC, dH, kQ, cJ, rH, kP, aEJ, lB, cI, aEI, aF]
   rw [cV]
   simp -dsimp -implicitDefEqProofs only [go_sem, ↓reduceIte, Tryz.f125, hb, hw, dG, rI, lC, dH, kQ, cJ, rH, kP, aEJ, lB, cI, aEI, aF]
   refine ⟨by decide, by decide, by decide, by rw [dJ]; exact Nat.le_refl _, by omega, by omega, fun b2 ⟨bCR, a2W, a2X, jX⟩ => ?_⟩
   have uC : ¬ b2 = nb := bCR
   have aHY : ¬ nb = b2 := Ne.symm uC
   have aCA : (b2 = nb) = False := eq_false uC
   have aCB : (nb = b2) = False := eq_false aHY
   have aEK : ¬ b2 = m := a2X
   have aM5 : ¬ m = b2 := Ne.symm aEK
   have aHZ : (b2 = m) = False := eq_false aEK
   have aH0 : (m = b2) = False := eq_false aM5
   have aEL : ¬ b2 = w := fun e => by rw [e, hw] at jX; cases jX
   have aM6 : ¬ w = b2 := Ne.symm aEL
   have aH1 : (b2 = w) = False := eq_false aEL
   have aH2 : (w = b2) = False := eq_false aM6
   have xI : ¬ b2 = b := a2W
   have aEM : ¬ b = b2 := Ne.symm xI
   have aH3 : (b2 = b) = False := eq_false xI
   have aH4 : (b = b2) = False := eq_false aEM
   simp -dsimp -implicitDefEqProofs only [go_sem, ↓reduceIte, Tryz.f125, hb, hw, dG, rI, lC, aH0, dH, kQ, cJ, aCB, rH, kP, aEJ, aH2, lB, cI, aEI, aH4, aHZ, aCA, aH1, aH3, aF]
   rw [List.take_of_length_le (by rw [dJ]; exact Nat.le_refl _), List.take_of_length_le (by rw [dJ]; exact Nat.le_refl _)]
   obtain ⟨g, hg, hR⟩ := H.put x v jL jX xI (F := a5 (a5 (a5 (a5 (a5 h m .gone) b (.row 4 (rowsOf aZ.c S.code ++ [x.c.map .v]))) w .gone) b2 (.row 1 (rowsOf (fun n => [I n]) S.dU ++ [[.v (I v)]]))) nb (bH p inp (S.put x v) (some b) og (some b2))) (aH _ _ _)
    (by rw [aF _ _ _ _ bS, aF _ _ _ _ aEM, aF _ _ _ _ aEH, aH, kK]) (by rw [aF _ _ _ _ uC, aH, kK]; rfl)
    (fun n h1 h2 h3 h4 h5 => by rw [aF _ _ _ _ h1, aF _ _ _ _ h3, aF _ _ _ _ (fun q => h5 (by rw [q])), aF _ _ _ _ h2, aF _ _ _ _ (fun q => h4 (by rw [q]))])
   refine fun _ => ⟨_, g, bQ (aB.le_trans hg ?_), ?_, hR⟩
   ·unfold bH
    simp only [b5.put, cV, aZ.aN, List.length_append, List.length_singleton, List.map_cons, List.map_nil]
    exact (jM (by repeat' (first | exact h8 _ _ | refine jN (by simp only [c8, ↓reduceIte, eq_self, if_true, dG, rI, lC, aH0, dH, kQ, cJ, aCB, rH, kP, aEJ, aH2, lB, cI, aEI, aH4, aHZ, aCA, aH1, aH3]) ?_ | refine fY (by first | exact .inr (by assumption) | exact .inl (by simp)) ?_)))
   ·rw [IntWalk.i64_in _ (by omega)]
    congr 1
    omega
theorem aIY (a : Int) (ha : iI a) : dV Tryz.prog 90 [I a] (I ((0 - a) % 1000003)) := by
 unfold iI at ha
 refine dS 6 aAH bT bD mix Tryz.func90 rfl (by kernel_rfl) (by simp) fun h => ?_
 simp -dsimp -implicitDefEqProofs only [go_sem, ↓reduceIte, Tryz.f90]
 rw [IntWalk.i64_in _ (by omega)]
 first | refine aG.mk (b6 (0 - a)) ?_ | refine aE.mk (b6 (0 - a)) ?_ | refine aG.a8 (b6 (0 - a)) ?_ | refine aE.mk (a6.cK (b6 (0 - a))) ?_
 simp -dsimp -implicitDefEqProofs only [go_sem, ↓reduceIte, Tryz.f90]
@[go_sem] def aYF : List Nat := [0, 2, 3, 4, 6, 8]
theorem aP7 (k : Int) (hk : k = 3 ∨ k = 4 ∨ k = 5 ∨ k = 6) : dV Tryz.prog 209 [I k] (I k) := by
 refine dS 10 aYF bT bD mix Tryz.func209 rfl (by kernel_rfl) (by simp) fun h => ?_
 simp -dsimp -implicitDefEqProofs only [go_sem, ↓reduceIte, Tryz.f209]
 refine ⟨fun q => by rw [q], fun q => ⟨fun q4 => by rw [q4], fun q4 => ⟨fun q5 => by rw [q5], fun q5 => ?_⟩⟩⟩
 rw [show k = 6 by omega]
@[go_sem] def aYG : List Nat := [0, 1, 2, 6, 7, 8, 13, 18]
theorem iR (k a b v : Int) (ha : iI a) (hb : iI b) (hk : k = 3 ∨ k = 4 ∨ k = 5 ∨ k = 6) (hv : opV k a b = some v) : dV Tryz.prog 210 [I k, I a, I b] (I v) := by
 have hni : iI (iQ b) := num_inv b
 refine dS 27 aYG bT bD mix Tryz.func210 rfl (by kernel_rfl) (by simp) fun h => ?_
 simp -dsimp -implicitDefEqProofs only [go_sem, ↓reduceIte, Tryz.f210]
 refine ⟨fun q => ?_, fun q => ⟨fun q4 => ?_, fun q4 => ⟨fun q5 => ?_, fun q5 => ?_⟩⟩⟩
 ·first | refine aG.mk (fZ a b) ?_ | refine aE.mk (fZ a b) ?_ | refine aG.a8 (fZ a b) ?_ | refine aE.mk (a6.cK (fZ a b)) ?_
  simp -dsimp -implicitDefEqProofs only [go_sem, ↓reduceIte, Tryz.f210]
  unfold opV at hv; rw [if_pos q] at hv; rw [Option.some.inj hv]
 ·first | refine aG.mk (oX a b ha hb) ?_ | refine aE.mk (oX a b ha hb) ?_ | refine aG.a8 (oX a b ha hb) ?_ | refine aE.mk (a6.cK (oX a b ha hb)) ?_
  simp -dsimp -implicitDefEqProofs only [go_sem, ↓reduceIte, Tryz.f210]
  unfold opV at hv; rw [if_neg q, if_pos q4] at hv; rw [Option.some.inj hv]
 ·first | refine aG.mk (bA a b ha hb) ?_ | refine aE.mk (bA a b ha hb) ?_ | refine aG.a8 (bA a b ha hb) ?_ | refine aE.mk (a6.cK (bA a b ha hb)) ?_
  simp -dsimp -implicitDefEqProofs only [go_sem, ↓reduceIte, Tryz.f210]
  unfold opV at hv; rw [if_neg q, if_neg q4, if_pos q5] at hv; rw [Option.some.inj hv]
 ·first | refine aG.mk (lZ b) ?_ | refine aE.mk (lZ b) ?_ | refine aG.a8 (lZ b) ?_ | refine aE.mk (a6.cK (lZ b)) ?_
  simp -dsimp -implicitDefEqProofs only [go_sem, ↓reduceIte, Tryz.f210]
  first | refine aG.mk (bA a (iQ b) ha hni) ?_ | refine aE.mk (bA a (iQ b) ha hni) ?_ | refine aG.a8 (bA a (iQ b) ha hni) ?_ | refine aE.mk (a6.cK (bA a (iQ b) ha hni)) ?_
  simp -dsimp -implicitDefEqProofs only [go_sem, ↓reduceIte, Tryz.f210]
  unfold opV at hv
  rw [if_neg q, if_neg q4, if_neg q5, if_neg (by omega)] at hv
  by_cases hz : b = 0
  ·rw [if_pos hz] at hv; cases hv
  ·rw [if_neg hz] at hv; rw [Option.some.inj hv]
@[go_sem] def nN : List Nat := [0, 1, 2, 6, 7, 8, 9, 10, 11, 12, 13, 17, 18, 31, 40, 62, 94, 111, 133]
@[go_sem] def v7 : List Nat := [89, 130]
@[go_sem] def v8 : Marks := fun id => match id with | 3 => ([10], (.op 0 (.op 1 (.op 2 (.op 3 (.op 4 (.op 5 (.op 6 (.op 7 (.op 8 (.op 9 (.op 10 (.op 11 .nil)))))))))))), []) | 18 => ([7, 10, 11], (.op 0 (.op 1 (.op 2 (.op 3 (.op 4 (.op 5 (.op 6 (.op 8 (.op 9 (.op 7 (.op 10 (.op 11 (.op 12 .nil))))))))))))), []) | 25 => ([9, 12, 16, 19, 20, 21], (.op 0 (.op 1 (.op 2 (.op 3 (.op 4 (.op 5 (.op 6 (.op 7 (.op 8 (.op 10 (.op 13 (.op 14 (.op 15 (.op 17 (.op 9 (.op 11 (.op 12 (.op 16 (.op 18 (.op 19 (.op 20 (.op 21 (.op 22 .nil))))))))))))))))))))))), []) | _ => ([], .nil, [])
def nO (p : aC) (inp : Int) (n : Nat) : Prop := ∀ (h0 h : aB) (nb st : Nat) (e : aA) (env : List Int) (S : b5) (funcs : Int) (k : Int) (S' : b5) (t : Nat), cE (bH p inp) h0 nb S h → st ≤ 3000 → e.ok p funcs env.length → 0 ≤ funcs → funcs ≤ p.aJ.length → Good inp S st → (∀ x ∈ env, j5 S x) → env.length ≤ 412 + st → cN p n st e env S = .ok ((k, S'), t) →
 eH Tryz.prog 184 [.op nb 6 0 0, .ip 5 [e.c] 0 0, ints env] h fun r h' => r = I k ∧ cE (bH p inp) h0 nb S' h'
theorem gB {α β : Type} {X : Out α} {F : α → Nat → Out β} {v : β} {t : Nat} (h : X.andThen F = .ok (v, t)) : ∃ w u, X = .ok (w, u) ∧ F w u = .ok (v, t) := by
 cases X with
 |ok q => exact ⟨q.1, q.2, rfl, h⟩
 |error c => cases h
theorem aLR (ev : Nat → aA → b5 → Out (Int × b5)) (b : List aA) : ∀ (a : List aA) (t : Nat) (S : b5), jG ev (a ++ b) t S = (jG ev a t S).andThen fun q t => (jG ev b t q.2).andThen fun r t => .ok ((q.1 ++ r.1, r.2), t)
 | [], t, S => by
  show jG ev b t S = (jG ev b t S).andThen fun r t => .ok (([] ++ r.1, r.2), t)
  cases jG ev b t S with
  |ok q => rfl
  |error c => rfl
 |x :: a, t, S => by
  simp only [List.cons_append, jG, aLR ev b a, Out.jW, Out.andThen_ok]
theorem kG {ev : Nat → aA → b5 → Out (Int × b5)} {l : List aA} {st : Nat} {S : b5} {v : List Int × b5} {t : Nat} (h : jG ev l st S = .ok (v, t)) {k : Nat} (hk : k < l.length) {vs : List Int} {S1 : b5} {t1 : Nat} (h1 : jG ev (l.take k) st S = .ok ((vs, S1), t1)) :
  ∃ j S2 t2, ev t1 l[k] S1 = .ok ((j, S2), t2) ∧ jG ev (l.take (k + 1)) st S = .ok ((vs ++ [j], S2), t2) := by
 have e : l = l.take k ++ (l[k] :: l.drop (k + 1)) := by rw [← List.drop_eq_getElem_cons hk, List.take_append_drop]
 rw [e, aLR, h1] at h
 have h' : (jG ev (l[k] :: l.drop (k + 1)) t1 S1).andThen (fun r t => .ok ((vs ++ r.1, r.2), t)) = .ok (v, t) := h
 obtain ⟨w, u, h2, _⟩ := gB h'
 obtain ⟨r, u2, h3, _⟩ := gB h2
 refine ⟨r.1, r.2, u2, h3, ?_⟩
 rw [List.take_succ_eq_append_getElem hk, aAP, h1]
 show (ev t1 l[k] S1).andThen _ = _
 rw [h3]; rfl
theorem aLS {p : aC} (hp : p.ok) {inp : Int} {n : Nat} (hv : nO p inp n) (h0 h : aB) (nb st : Nat) (f : aP) (env : List Int) (S : b5) (funcs : Int) (l : List Int) (S' : b5) (t : Nat) (hb : cE (bH p inp) h0 nb S h) (hst : st ≤ 3000)
  (hl : f.aM.length ≤ 1048576) (hok : ∀ e ∈ f.aM, e.ok p funcs env.length) (c7 : 0 ≤ funcs) (hf : funcs ≤ p.aJ.length) (hg : Good inp S st) (henv : ∀ x ∈ env, j5 S x) (hel : env.length ≤ 412 + st) (hr : jG (fun t e S => cN p n t e env S) f.aM st S = .ok ((l, S'), t)) :
  eH Tryz.prog 126 [.op nb 6 0 0, .ip 3 [f.c] 0 0, ints env] h fun r h' => r = ints l ∧ cE (bH p inp) h0 nb S' h' := by
 rw [aP.aN]
 refine gG 32 aOI aOJ bD mix Tryz.func126 rfl (by kernel_rfl) (by simp) ?_
 simp -dsimp -implicitDefEqProofs only [go_sem, ↓reduceIte, Tryz.f126]
 refine ⟨by decide, ?_⟩
 refine bX (keep := aOI) (ib := aOJ) (mk := bD) mix (by kernel_rfl) (fun x : Nat × List Int × b5 × Nat × aB × Option Nat => [(0, .op nb 6 0 0), (1, .ip 3 [f.c] 0 0), (2, ints env), (7, eK 1 x.2.1.length x.2.2.2.2.2), (8, I x.1)]) (fun x => gQ x.2.2.2.2.1 (.row 1 ((x.2.1.map fun n => [I n]).map (List.map .v))) x.2.2.2.2.2) (fun x => x.1 ≤ f.aM.length ∧ x.2.1.length = x.1 ∧ jG (fun t e S => cN p n t e env S) (f.aM.take x.1) st S = .ok ((x.2.1, x.2.2.1), x.2.2.2.1) ∧ cE (bH p inp) h0 nb x.2.2.1 x.2.2.2.2.1 ∧ eP x.2.2.2.2.1 x.2.1 x.2.2.2.2.2) (fun x => f.aM.length - x.1) (0, [], S, st, h, none) ⟨by simp [b8, bJ, eK, aP.aN], aB.le_refl _, Nat.zero_le _, rfl, rfl, hb, rfl⟩ ?_
 rintro ⟨k, vs, S1, t1, g, o⟩ ⟨hk, hvl, hs, hR, hos⟩
 simp only at hk hvl hs hR hos ⊢
 rw [aP.aN]
 rcases Nat.lt_or_ge k f.aM.length with hlt | hge
 ·have ek : f.aM[k]? = some f.aM[k] := List.getElem?_eq_getElem hlt
  obtain ⟨j, S2, t2, hj, j3⟩ := kG hr hlt hs
  obtain ⟨b1, b2, b3, b4⟩ := fN hp (l := f.aM.take k) hg hst henv (fun x hx => hok x (List.mem_of_mem_take hx)) hf _ _ hs
  simp only at b1 b2 b3
  have hsub : fH [.op nb 6 0 0, .ip 5 (f.aM.map aA.c) k 0, ints env] [.op nb 6 0 0, .ip 5 [f.aM[k].c] 0 0, ints env] := .cons (.refl _) (.cons (Sub.ip (bY hlt) (by simp)) (.cons (.refl _) .nil))
  cases o with
  |none =>
   rw [a9] at hos
   subst hos
   simp -dsimp -implicitDefEqProofs only [go_sem, ↓reduceIte, Tryz.f126, a7, aR, hlt, ek]
   refine fun _ => aG.fF (eH.sub hsub (hv h0 g nb t1 f.aM[k] env S1 funcs j S2 t2 hR b4.2.2.2 (hok _ (List.getElem_mem _)) c7 hf b1 (fun x hx => (henv x hx).ext b2) (by have := b4.2.2.1; omega) hj)) ?_
   rintro r h' ⟨rfl, k5⟩
   simp -dsimp -implicitDefEqProofs only [go_sem, ↓reduceIte, Tryz.f126]
   refine ⟨Nat.zero_lt_one, Nat.zero_lt_one, Nat.zero_lt_one, fun b jX => ?_⟩
   refine ⟨(k + 1, [j], S2, t2, h', some b), ⟨rfl, by rw [IntWalk.i64_in _ (by omega)]; rfl⟩, aB.le_refl _, ⟨by omega, by simp only [List.length_nil] at hvl; subst hvl; rfl, j3, k5, jX⟩, by simp only; omega⟩
  |some m =>
   rw [aU] at hos
   simp -dsimp -implicitDefEqProofs only [go_sem, ↓reduceIte, Tryz.f126, aT, aL, hlt, ek]
   refine fun _ => aG.fF (eH.sub hsub (hv _ _ nb t1 f.aM[k] env S1 funcs j S2 t2 (hR.uS hos) b4.2.2.2 (hok _ (List.getElem_mem _)) c7 hf b1 (fun x hx => (henv x hx).ext b2) (by have := b4.2.2.1; omega) hj)) ?_
   rintro r h' ⟨rfl, k5⟩
   obtain ⟨g2, rfl, hg2, k5⟩ := k5.base (hR.none hos)
   simp -dsimp -implicitDefEqProofs only [go_sem, ↓reduceIte, Tryz.f126]
   refine ⟨Nat.zero_lt_one, Nat.zero_lt_one, Nat.zero_lt_one, Nat.le_refl _, by omega, by omega, fun b ⟨hbm, jX⟩ => ?_⟩
   have gJ : ¬ b = m := hbm
   have kV : ¬ m = b := Ne.symm gJ
   have lB : (b = m) = False := eq_false gJ
   have lC : (m = b) = False := eq_false kV
   refine ⟨(k + 1, vs ++ [j], S2, t2, g2, some b), ⟨by rw [aT, List.length_append]; rfl, by rw [IntWalk.i64_in _ (by omega)]; rfl⟩, ?_, ⟨by omega, by rw [List.length_append, hvl]; rfl, j3, k5, jX⟩, by simp only; omega⟩
   simp only [aL]
   rw [← eN]
   exact kO hg2
 ·have hk' : k = f.aM.length := by omega
  subst hk'
  rw [List.take_length, hr] at hs
  obtain ⟨rfl, rfl⟩ := Prod.mk.inj (Prod.mk.inj (Except.ok.inj hs)).1
  cases o with
  |none =>
   rw [a9] at hos
   subst hos
   simp -dsimp -implicitDefEqProofs only [go_sem, ↓reduceIte, Tryz.f126, a7, aR, Nat.lt_irrefl, Int.lt_irrefl]
   exact fun _ => ⟨ints [], _, Shift.of (Sub.loose _ _ _) (aB.le_refl _), rfl, hR⟩
  |some m =>
   rw [aU] at hos
   simp -dsimp -implicitDefEqProofs only [go_sem, ↓reduceIte, Tryz.f126, aT, aL, Nat.lt_irrefl, Int.lt_irrefl]
   exact fun _ => ⟨ints l, g, iL l hos (aB.le_refl _) rfl, rfl, hR⟩
theorem iM.single {h g : aB} {m : Nat} {o : bL} (w : iM h [(m, o)] g) : h m = none ∧ g = a5 h m o := by
 refine ⟨w.fresh m (by simp [aY]), ?_⟩
 funext q
 by_cases e : q = m
 ·subst e; rw [aH]; exact w.iJ (q, o) (by simp)
 ·rw [aF _ _ _ _ e]; exact w.upto q (by simpa [aY] using e)
theorem aYH {p : aC} (hp : p.ok) {inp : Int} {n : Nat} (hv : nO p inp n) {h0 h : aB} {nb st : Nat} {e : aA} {env : List Int} {S : b5} {funcs : Int} {k : Int} {S' : b5} {t : Nat} (hR : cE (bH p inp) h0 nb S h) (hst : st < 3000)
  (hok : e.ok p funcs env.length) (c7 : 0 ≤ funcs) (hf : funcs ≤ p.aJ.length) (hg : Good inp S st) (henv : ∀ x ∈ env, j5 S x) (hel : env.length ≤ 412 + st) (hr : cN p (n + 1) st e env S = .ok ((k, S'), t)) (hk : e.aQ = 1) :
  eH Tryz.prog 184 [.op nb 6 0 0, .ip 5 [e.c] 0 0, ints env] h fun r h' => r = I k ∧ cE (bH p inp) h0 nb S' h' := by
 rw [aA.aN]
 have hnode := (aA.cC _ _ _ _).1 hok
 have h3 : ¬ st = 3000 := by omega
 have hcap := hg.cap
 have hgcap := hg.m5
 have iY := hg.kJ (Nat.le_succ st)
 rw [aEA h3 hk] at hr
 cases hr
 refine gG 183 nN v7 v8 mix Tryz.func184 rfl (by kernel_rfl) (by simp) ?_
 simp -dsimp -implicitDefEqProofs only [go_sem, ↓reduceIte, Tryz.f184, hk]
 refine aG.fF (v5 hR ⟨2, 0, 0, e.aW⟩ e.aW hg.len (by omega)) ?_
 rintro r h' ⟨rfl, k5⟩
 simp -dsimp -implicitDefEqProofs only [go_sem, ↓reduceIte, Tryz.f184]
 exact ⟨_, _, aV _ _, rfl, k5⟩
theorem aYI {p : aC} (hp : p.ok) {inp : Int} {n : Nat} (hv : nO p inp n) {h0 h : aB} {nb st : Nat} {e : aA} {env : List Int} {S : b5} {funcs : Int} {k : Int} {S' : b5} {t : Nat} (hR : cE (bH p inp) h0 nb S h) (hst : st < 3000)
  (hok : e.ok p funcs env.length) (c7 : 0 ≤ funcs) (hf : funcs ≤ p.aJ.length) (hg : Good inp S st) (henv : ∀ x ∈ env, j5 S x) (hel : env.length ≤ 412 + st) (hr : cN p (n + 1) st e env S = .ok ((k, S'), t)) (hk : e.aQ = 2) :
  eH Tryz.prog 184 [.op nb 6 0 0, .ip 5 [e.c] 0 0, ints env] h fun r h' => r = I k ∧ cE (bH p inp) h0 nb S' h' := by
 rw [aA.aN]
 have hnode := (aA.cC _ _ _ _).1 hok
 have h3 : ¬ st = 3000 := by omega
 have hcap := hg.cap
 have hgcap := hg.m5
 have iY := hg.kJ (Nat.le_succ st)
 rw [aEB h3 hk] at hr
 cases hr
 have hnum := ((dM (by omega)).1 hnode.1).2.2.2.2.1 hk
 have hlt : e.aW.toNat < env.length := by omega
 refine gG 183 nN v7 v8 mix Tryz.func184 rfl (by kernel_rfl) (by simp) ?_
 simp -dsimp -implicitDefEqProofs only [go_sem, ↓reduceIte, Tryz.f184, hk, bR hlt]
 exact ⟨hnum.1, by omega, _, _, aV _ _, rfl, hR⟩
theorem aYJ {p : aC} (hp : p.ok) {inp : Int} {n : Nat} (hv : nO p inp n) {h0 h : aB} {nb st : Nat} {e : aA} {env : List Int} {S : b5} {funcs : Int} {k : Int} {S' : b5} {t : Nat} (hR : cE (bH p inp) h0 nb S h) (hst : st < 3000)
  (hok : e.ok p funcs env.length) (c7 : 0 ≤ funcs) (hf : funcs ≤ p.aJ.length) (hg : Good inp S st) (henv : ∀ x ∈ env, j5 S x) (hel : env.length ≤ 412 + st) (hr : cN p (n + 1) st e env S = .ok ((k, S'), t)) (hk : e.aQ = 9) :
  eH Tryz.prog 184 [.op nb 6 0 0, .ip 5 [e.c] 0 0, ints env] h fun r h' => r = I k ∧ cE (bH p inp) h0 nb S' h' := by
 rw [aA.aN]
 have hnode := (aA.cC _ _ _ _).1 hok
 have h3 : ¬ st = 3000 := by omega
 have hcap := hg.cap
 have hgcap := hg.m5
 have iY := hg.kJ (Nat.le_succ st)
 have hlen := cG hok (by omega)
 rw [hk, show eE 9 = 2 from rfl] at hlen
 have g0 : e.aI[Int.toNat 0]? = some (e.kU 0) := aA.fE (by omega)
 have g1 : e.aI[Int.toNat 1]? = some (e.kU 1) := aA.fE (by omega)
 have o0 := aA.dW hok (i := 0) (by omega)
 have o1 := aA.dW hok (i := 1) (by omega)
 rw [gI (by omega)] at o0
 rw [hk, show j2 9 1 (env.length : Int) = env.length + 1 from rfl] at o1
 rw [aEC h3 hk] at hr
 obtain ⟨⟨k1, S1⟩, t1, e1, e2⟩ := gB hr
 obtain ⟨b1, b2, b3, b4⟩ := lD hp n (st + 1) (e.kU 0) env S funcs o0 hf iY (by omega) henv _ _ e1
 simp only at b1 b2 b3
 have hsub : ∀ (i : Nat), i < e.aI.length → fH [.op nb 6 0 0, .ip 5 (e.aI.map aA.c) i 0, ints env] [.op nb 6 0 0, .ip 5 [(e.kU i).c] 0 0, ints env] := fun i hi => by
  rw [aA.qG hi]
  exact .cons (.refl _) (.cons (Sub.ip (bY hi) (by simp)) (.cons (.refl _) .nil))
 refine gG 183 nN v7 v8 mix Tryz.func184 rfl (by kernel_rfl) (by simp) ?_
 simp -dsimp -implicitDefEqProofs only [go_sem, ↓reduceIte, Tryz.f184, hk]
 refine ⟨by omega, aG.fF (eH.sub (hsub 0 (by omega)) (hv h0 _ nb (st + 1) (e.kU 0) env S funcs k1 S1 t1 hR (by omega) o0 c7 hf iY henv (by omega) e1)) ?_⟩
 rintro r h' ⟨rfl, k5⟩
 simp -dsimp -implicitDefEqProofs only [go_sem, ↓reduceIte, Tryz.f184]
 refine ⟨by omega, by decide, by decide, aG.wn0 (aM0 env (by omega)) ?_⟩
 rintro r l g ⟨y, oy, rfl, rfl⟩ wn
 have bCS : ∀ x ∈ env ++ [k1], j5 S1 x := fun x hx => by
  rcases List.mem_append.1 hx with hx | hx
  ·exact (henv x hx).ext b2
  ·rw [List.mem_singleton.1 hx]; exact b3
 have hfin : ∀ {h1 g1 : aB}, cE (bH p inp) h1 nb S1 g1 → eH Tryz.prog 184 [.op nb 6 0 0, .ip 5 (e.aI.map aA.c) 1 0, ints (env ++ [k1])] g1 fun r h' => r = I k ∧ cE (bH p inp) h1 nb S' h' := fun nP =>
  eH.sub (.cons (.refl _) (.cons (by rw [aA.qG (show 1 < e.aI.length by omega)]; exact Sub.ip (bY (by omega)) (by simp)) (.cons (.refl _) .nil))) (hv _ _ nb t1 (e.kU 1) (env ++ [k1]) S1 funcs k S' t nP b4.2.2.2 (by rw [List.length_append]; exact o1) c7 hf b1 bCS (by rw [List.length_append]; have := b4.2.2.1; show env.length + 1 ≤ _; omega) e2)
 rcases oy.xF with ⟨rfl, rfl⟩ | ⟨m, rfl⟩
 ·rw [OV.nC] at wn
  have hgh : g = h' := funext fun q => wn.upto q (by simp [aY])
  subst hgh
  simp -dsimp -implicitDefEqProofs only [go_sem, ↓reduceIte, Tryz.f184, OV.val]
  refine ⟨by decide, fun b jX => ?_⟩
  have dO : ¬ nb = b := fun e => by obtain ⟨_, _, _, H2⟩ := k5; have := H2.box; rw [e, jX] at this; cases this
  have bS : ¬ b = nb := Ne.symm dO
  have cJ : (nb = b) = False := eq_false dO
  have cI : (b = nb) = False := eq_false bS
  refine aG.aBI (x := .ip 5 (e.aI.map aA.c) 1 0) (es := [[I k1]]) (len := 1) rfl rfl dO rfl jX ?_
  refine eH.mono (hfin (k5.uS (o := .gone) jX)) ?_
  rintro r h2 ⟨rfl, nP⟩
  obtain ⟨g3, rfl, hg3, nP⟩ := nP.base (k5.none jX)
  simp -dsimp -implicitDefEqProofs only [go_sem, ↓reduceIte, Tryz.f184]
  exact ⟨_, g3, bQ (aB.bF hg3 (aB.le_refl _)), rfl, nP⟩
 ·rw [OV.dI, hU, fV] at wn
  obtain ⟨hm, rfl⟩ := wn.single
  simp -dsimp -implicitDefEqProofs only [go_sem, ↓reduceIte, Tryz.f184, OV.val]
  refine ⟨by decide, Nat.le_refl _, by omega, by omega, fun b ⟨hbm, jX⟩ => ?_⟩
  have gJ : ¬ b = m := hbm
  have kV : ¬ m = b := Ne.symm gJ
  have lB : (b = m) = False := eq_false gJ
  have lC : (m = b) = False := eq_false kV
  have dO : ¬ nb = b := fun e => by obtain ⟨_, _, _, H2⟩ := k5; have := H2.box; rw [e, jX] at this; cases this
  have bS : ¬ b = nb := Ne.symm dO
  have cJ : (nb = b) = False := eq_false dO
  have cI : (b = nb) = False := eq_false bS
  have hb3 : (a5 h' m .gone) b = none := by rw [aF _ _ _ _ hbm]; exact jX
  rw [aK, List.take_of_length_le (by simp), show (env.map fun x => [I x]).map (List.map Cell.v) ++ [[Cell.v (aD.int .i64 k1)]] = ((env ++ [k1]).map fun n => [I n]).map (List.map .v) by simp]
  refine aG.aBI (x := .ip 5 (e.aI.map aA.c) 1 0) (es := (env ++ [k1]).map fun n => [I n]) (len := env.length + 1) rfl rfl dO (by simp) hb3 ?_
  refine eH.mono (hfin ((k5.uS (o := .gone) hm).uS (o := .gone) hb3)) ?_
  rintro r h2 ⟨rfl, nP⟩
  obtain ⟨g3, rfl, hg3, nP⟩ := nP.base ((k5.uS (o := .gone) hm).none hb3)
  obtain ⟨g4, rfl, hg4, nP⟩ := nP.base (k5.none hm)
  rw [aF _ _ _ _ hbm] at hg3
  simp -dsimp -implicitDefEqProofs only [go_sem, ↓reduceIte, Tryz.f184]
  exact ⟨_, g4, bQ (aB.bF hg3 (aB.bF hg4 (aB.le_refl _))), rfl, nP⟩
theorem aYK {p : aC} (hp : p.ok) {inp : Int} {n : Nat} (hv : nO p inp n) {h0 h : aB} {nb st : Nat} {e : aA} {env : List Int} {S : b5} {funcs : Int} {k : Int} {S' : b5} {t : Nat} (hR : cE (bH p inp) h0 nb S h) (hst : st < 3000)
  (hok : e.ok p funcs env.length) (c7 : 0 ≤ funcs) (hf : funcs ≤ p.aJ.length) (hg : Good inp S st) (henv : ∀ x ∈ env, j5 S x) (hel : env.length ≤ 412 + st) (hr : cN p (n + 1) st e env S = .ok ((k, S'), t)) (hk : e.aQ = 7) :
  eH Tryz.prog 184 [.op nb 6 0 0, .ip 5 [e.c] 0 0, ints env] h fun r h' => r = I k ∧ cE (bH p inp) h0 nb S' h' := by
 rw [aA.aN]
 have hnode := (aA.cC _ _ _ _).1 hok
 have h3 : ¬ st = 3000 := by omega
 have hcap := hg.cap
 have hgcap := hg.m5
 have iY := hg.kJ (Nat.le_succ st)
 have hlen := cG hok (by omega)
 rw [hk, show eE 7 = 1 from rfl] at hlen
 have o0 := dD hok (by omega)
 rw [jD h3 (by omega)] at hr
 obtain ⟨⟨vs, S1⟩, t1, e1, e2⟩ := gB hr
 obtain ⟨b1, b2, b3, b4⟩ := fN hp iY (by omega) henv o0 hf _ _ e1
 simp only at b1 b2 b3
 obtain ⟨j, S2, t2, hj, j3⟩ := kG e1 (k := 0) (by omega) (vs := []) (S1 := S) (t1 := st + 1) rfl
 rw [List.take_of_length_le (by omega), e1] at j3
 obtain ⟨rfl, rfl⟩ := Prod.mk.inj (Prod.mk.inj (Except.ok.inj j3)).1
 obtain rfl := (Prod.mk.inj (Except.ok.inj j3)).2
 have hsub : fH [.op nb 6 0 0, .ip 5 (e.aI.map aA.c) 0 0, ints env] [.op nb 6 0 0, .ip 5 [e.aI[0].c] 0 0, ints env] := .cons (.refl _) (.cons (Sub.ip (bY (by omega)) (by simp)) (.cons (.refl _) .nil))
 have hj0 : j5 S1 j := b3.2 j (by simp)
 have hvj := b1.val j
 refine gG 183 nN v7 v8 mix Tryz.func184 rfl (by kernel_rfl) (by simp) ?_
 simp -dsimp -implicitDefEqProofs only [go_sem, ↓reduceIte, Tryz.f184, hk]
 refine ⟨by omega, aG.fF (eH.sub hsub (hv h0 _ nb (st + 1) e.aI[0] env S funcs j S1 t1 hR (by omega) (o0 _ (List.getElem_mem _)) c7 hf iY henv (by omega) hj)) ?_⟩
 rintro r h' ⟨rfl, ⟨om, og, ov, H1⟩⟩
 obtain ⟨w, rfl, hw, dw⟩ := H1.row hj0
 have jL := H1.box
 unfold bH at jL
 rw [cV] at jL
 have rk := gU hj0
 have k0 := hj0.1
 have k2 := hj0.2
 have lw := dJ (fun n => [I n]) S1.dU
 simp -dsimp -implicitDefEqProofs only [go_sem, ↓reduceIte, Tryz.f184, jL, hw, rk]
 refine ⟨k0, by omega, ?_⟩
 first | refine aG.mk (aIY (S1.val j) hvj) ?_ | refine aE.mk (aIY (S1.val j) hvj) ?_ | refine aG.a8 (aIY (S1.val j) hvj) ?_ | refine aE.mk (a6.cK (aIY (S1.val j) hvj)) ?_
 simp -dsimp -implicitDefEqProofs only [go_sem, ↓reduceIte, Tryz.f184]
 have e3 : xG 7 [j] S1 t1 = .ok (((S1.dU.length : Int), S1.put ⟨7, j, 0, 0⟩ ((0 - S1.val j) % 1000003)), t1) := rfl
 rw [hk] at e2
 have e4 := e3.symm.trans e2
 have e5 := (Prod.mk.inj (Prod.mk.inj (Except.ok.inj e4)).1)
 unfold k8 at b4
 simp only at b4
 refine aG.fF (v5 ⟨om, og, some w, H1⟩ ⟨7, j, 0, 0⟩ ((0 - S1.val j) % 1000003) b1.len (by have := b1.cap; omega)) ?_
 rintro r h2 ⟨rfl, k5⟩
 simp -dsimp -implicitDefEqProofs only [go_sem, ↓reduceIte, Tryz.f184]
 rw [e5.2] at k5
 exact ⟨_, _, aV _ _, by rw [e5.1], k5⟩
theorem aYL {p : aC} (hp : p.ok) {inp : Int} {n : Nat} (hv : nO p inp n) {h0 h : aB} {nb st : Nat} {e : aA} {env : List Int} {S : b5} {funcs : Int} {k : Int} {S' : b5} {t : Nat} (hR : cE (bH p inp) h0 nb S h) (hst : st < 3000)
  (hok : e.ok p funcs env.length) (c7 : 0 ≤ funcs) (hf : funcs ≤ p.aJ.length) (hg : Good inp S st) (henv : ∀ x ∈ env, j5 S x) (hel : env.length ≤ 412 + st) (hr : cN p (n + 1) st e env S = .ok ((k, S'), t)) (hk : e.aQ = 3) :
  eH Tryz.prog 184 [.op nb 6 0 0, .ip 5 [e.c] 0 0, ints env] h fun r h' => r = I k ∧ cE (bH p inp) h0 nb S' h' := by
 rw [aA.aN]
 have hnode := (aA.cC _ _ _ _).1 hok
 have h3 : ¬ st = 3000 := by omega
 have hcap := hg.cap
 have hgcap := hg.m5
 have iY := hg.kJ (Nat.le_succ st)
 have hlen := cG hok (by omega)
 rw [hk, show eE 3 = 2 from rfl] at hlen
 have o0 := dD hok (by omega)
 rw [jD h3 (by omega)] at hr
 obtain ⟨⟨vs, S1⟩, t1, e1, e2⟩ := gB hr
 obtain ⟨b1, b2, b3, b4⟩ := fN hp iY (by omega) henv o0 hf _ _ e1
 simp only at b1 b2 b3
 obtain ⟨j0, S0, t0, hj0, xV⟩ := kG e1 (k := 0) (by omega) (vs := []) (S1 := S) (t1 := st + 1) rfl
 obtain ⟨c1, c2, c3, c4⟩ := lD hp n (st + 1) e.aI[0] env S funcs (o0 _ (List.getElem_mem _)) hf iY (by omega) henv _ _ hj0
 simp only at c1 c2 c3
 obtain ⟨j1, S2, t2, hj1, jF⟩ := kG e1 (k := 1) (by omega) xV
 rw [List.take_of_length_le (by omega), e1] at jF
 obtain ⟨rfl, rfl⟩ := Prod.mk.inj (Prod.mk.inj (Except.ok.inj jF)).1
 obtain rfl := (Prod.mk.inj (Except.ok.inj jF)).2
 have hsub : ∀ (i : Nat) (hi : i < e.aI.length), fH [.op nb 6 0 0, .ip 5 (e.aI.map aA.c) i 0, ints env] [.op nb 6 0 0, .ip 5 [e.aI[i].c] 0 0, ints env] := fun i hi => .cons (.refl _) (.cons (Sub.ip (bY hi) (by simp)) (.cons (.refl _) .nil))
 have i0 : j5 S1 j0 := b3.2 j0 (by simp)
 have i1 : j5 S1 j1 := b3.2 j1 (by simp)
 have lV := b1.val j0
 have qY := b1.val j1
 refine gG 183 nN v7 v8 mix Tryz.func184 rfl (by kernel_rfl) (by simp) ?_
 simp -dsimp -implicitDefEqProofs only [go_sem, ↓reduceIte, Tryz.f184, hk]
 refine ⟨by omega, aG.fF (eH.sub (hsub 0 (by omega)) (hv h0 _ nb (st + 1) e.aI[0] env S funcs j0 S0 t0 hR (by omega) (o0 _ (List.getElem_mem _)) c7 hf iY henv (by omega) hj0)) ?_⟩
 rintro r h' ⟨rfl, zE⟩
 simp -dsimp -implicitDefEqProofs only [go_sem, ↓reduceIte, Tryz.f184]
 refine ⟨by omega, aG.fF (eH.sub (hsub 1 (by omega)) (hv h0 _ nb t0 e.aI[1] env S0 funcs j1 S1 t1 zE c4.2.2.2 (o0 _ (List.getElem_mem _)) c7 hf c1 (fun x hx => (henv x hx).ext c2) (by have := c4.2.2.1; omega) hj1)) ?_⟩
 rintro r h2 ⟨rfl, ⟨om, og, ov, H1⟩⟩
 obtain ⟨w, rfl, hw, dw⟩ := H1.row i0
 have jL := H1.box
 unfold bH at jL
 rw [cV] at jL
 have rk0 := gU i0
 have rk1 := gU i1
 have k0 := i0.1
 have k1 := i0.2
 have k2 := i1.1
 have k3 := i1.2
 have lw := dJ (fun n => [I n]) S1.dU
 have hop := aP7 3 (by decide)
 try simp -dsimp -implicitDefEqProofs only [go_sem, ↓reduceIte, Tryz.f184, hk]
 first | refine aG.mk (hop) ?_ | refine aE.mk (hop) ?_ | refine aG.a8 (hop) ?_ | refine aE.mk (a6.cK (hop)) ?_
 simp -dsimp -implicitDefEqProofs only [go_sem, ↓reduceIte, Tryz.f184]
 try simp -dsimp -implicitDefEqProofs only [go_sem, ↓reduceIte, Tryz.f184, jL, hw, rk0, rk1]
 refine ⟨k0, by omega, k2, by omega, ?_⟩
 rw [hk] at e2
 cases hv : opV 3 (S1.val j0) (S1.val j1) with
 |none =>
  have e3 : xG 3 [j0, j1] S1 t1 = .error 6 := by
   unfold xG
   rw [show ([j0, j1].getD 0 0) = j0 from rfl, show opB 3 [j0, j1] = j1 from rfl, hv]
  have e4 := e3.symm.trans e2
  cases e4
 |some v =>
  have e3 : xG 3 [j0, j1] S1 t1 = .ok (((S1.dU.length : Int), S1.put ⟨3, j0, j1, 0⟩ v), t1) := by
   unfold xG
   rw [show ([j0, j1].getD 0 0) = j0 from rfl, show opB 3 [j0, j1] = j1 from rfl, hv]
  have e4 := e3.symm.trans e2
  have e5 := (Prod.mk.inj (Prod.mk.inj (Except.ok.inj e4)).1)
  first | refine aG.mk (iR 3 (S1.val j0) (S1.val j1) v lV qY (by decide) hv) ?_ | refine aE.mk (iR 3 (S1.val j0) (S1.val j1) v lV qY (by decide) hv) ?_ | refine aG.a8 (iR 3 (S1.val j0) (S1.val j1) v lV qY (by decide) hv) ?_ | refine aE.mk (a6.cK (iR 3 (S1.val j0) (S1.val j1) v lV qY (by decide) hv)) ?_
  simp -dsimp -implicitDefEqProofs only [go_sem, ↓reduceIte, Tryz.f184]
  unfold k8 at b4
  simp only at b4
  refine aG.fF (v5 ⟨om, og, some w, H1⟩ ⟨3, j0, j1, 0⟩ v b1.len (by have := b1.cap; omega)) ?_
  rintro r h3 ⟨rfl, k5⟩
  simp -dsimp -implicitDefEqProofs only [go_sem, ↓reduceIte, Tryz.f184]
  rw [e5.2] at k5
  exact ⟨_, _, aV _ _, by rw [e5.1], k5⟩
theorem aYM {p : aC} (hp : p.ok) {inp : Int} {n : Nat} (hv : nO p inp n) {h0 h : aB} {nb st : Nat} {e : aA} {env : List Int} {S : b5} {funcs : Int} {k : Int} {S' : b5} {t : Nat} (hR : cE (bH p inp) h0 nb S h) (hst : st < 3000)
  (hok : e.ok p funcs env.length) (c7 : 0 ≤ funcs) (hf : funcs ≤ p.aJ.length) (hg : Good inp S st) (henv : ∀ x ∈ env, j5 S x) (hel : env.length ≤ 412 + st) (hr : cN p (n + 1) st e env S = .ok ((k, S'), t)) (hk : e.aQ = 4) :
  eH Tryz.prog 184 [.op nb 6 0 0, .ip 5 [e.c] 0 0, ints env] h fun r h' => r = I k ∧ cE (bH p inp) h0 nb S' h' := by
 rw [aA.aN]
 have hnode := (aA.cC _ _ _ _).1 hok
 have h3 : ¬ st = 3000 := by omega
 have hcap := hg.cap
 have hgcap := hg.m5
 have iY := hg.kJ (Nat.le_succ st)
 have hlen := cG hok (by omega)
 rw [hk, show eE 4 = 2 from rfl] at hlen
 have o0 := dD hok (by omega)
 rw [jD h3 (by omega)] at hr
 obtain ⟨⟨vs, S1⟩, t1, e1, e2⟩ := gB hr
 obtain ⟨b1, b2, b3, b4⟩ := fN hp iY (by omega) henv o0 hf _ _ e1
 simp only at b1 b2 b3
 obtain ⟨j0, S0, t0, hj0, xV⟩ := kG e1 (k := 0) (by omega) (vs := []) (S1 := S) (t1 := st + 1) rfl
 obtain ⟨c1, c2, c3, c4⟩ := lD hp n (st + 1) e.aI[0] env S funcs (o0 _ (List.getElem_mem _)) hf iY (by omega) henv _ _ hj0
 simp only at c1 c2 c3
 obtain ⟨j1, S2, t2, hj1, jF⟩ := kG e1 (k := 1) (by omega) xV
 rw [List.take_of_length_le (by omega), e1] at jF
 obtain ⟨rfl, rfl⟩ := Prod.mk.inj (Prod.mk.inj (Except.ok.inj jF)).1
 obtain rfl := (Prod.mk.inj (Except.ok.inj jF)).2
 have hsub : ∀ (i : Nat) (hi : i < e.aI.length), fH [.op nb 6 0 0, .ip 5 (e.aI.map aA.c) i 0, ints env] [.op nb 6 0 0, .ip 5 [e.aI[i].c] 0 0, ints env] := fun i hi => .cons (.refl _) (.cons (Sub.ip (bY hi) (by simp)) (.cons (.refl _) .nil))
 have i0 : j5 S1 j0 := b3.2 j0 (by simp)
 have i1 : j5 S1 j1 := b3.2 j1 (by simp)
 have lV := b1.val j0
 have qY := b1.val j1
 refine gG 183 nN v7 v8 mix Tryz.func184 rfl (by kernel_rfl) (by simp) ?_
 simp -dsimp -implicitDefEqProofs only [go_sem, ↓reduceIte, Tryz.f184, hk]
 refine ⟨by omega, aG.fF (eH.sub (hsub 0 (by omega)) (hv h0 _ nb (st + 1) e.aI[0] env S funcs j0 S0 t0 hR (by omega) (o0 _ (List.getElem_mem _)) c7 hf iY henv (by omega) hj0)) ?_⟩
 rintro r h' ⟨rfl, zE⟩
 simp -dsimp -implicitDefEqProofs only [go_sem, ↓reduceIte, Tryz.f184]
 refine ⟨by omega, aG.fF (eH.sub (hsub 1 (by omega)) (hv h0 _ nb t0 e.aI[1] env S0 funcs j1 S1 t1 zE c4.2.2.2 (o0 _ (List.getElem_mem _)) c7 hf c1 (fun x hx => (henv x hx).ext c2) (by have := c4.2.2.1; omega) hj1)) ?_⟩
 rintro r h2 ⟨rfl, ⟨om, og, ov, H1⟩⟩
 obtain ⟨w, rfl, hw, dw⟩ := H1.row i0
 have jL := H1.box
 unfold bH at jL
 rw [cV] at jL
 have rk0 := gU i0
 have rk1 := gU i1
 have k0 := i0.1
 have k1 := i0.2
 have k2 := i1.1
 have k3 := i1.2
 have lw := dJ (fun n => [I n]) S1.dU
 have hop := aP7 4 (by decide)
 try simp -dsimp -implicitDefEqProofs only [go_sem, ↓reduceIte, Tryz.f184, hk]
 first | refine aG.mk (hop) ?_ | refine aE.mk (hop) ?_ | refine aG.a8 (hop) ?_ | refine aE.mk (a6.cK (hop)) ?_
 simp -dsimp -implicitDefEqProofs only [go_sem, ↓reduceIte, Tryz.f184]
 try simp -dsimp -implicitDefEqProofs only [go_sem, ↓reduceIte, Tryz.f184, jL, hw, rk0, rk1]
 refine ⟨k0, by omega, k2, by omega, ?_⟩
 rw [hk] at e2
 cases hv : opV 4 (S1.val j0) (S1.val j1) with
 |none =>
  have e3 : xG 4 [j0, j1] S1 t1 = .error 6 := by
   unfold xG
   rw [show ([j0, j1].getD 0 0) = j0 from rfl, show opB 4 [j0, j1] = j1 from rfl, hv]
  have e4 := e3.symm.trans e2
  cases e4
 |some v =>
  have e3 : xG 4 [j0, j1] S1 t1 = .ok (((S1.dU.length : Int), S1.put ⟨4, j0, j1, 0⟩ v), t1) := by
   unfold xG
   rw [show ([j0, j1].getD 0 0) = j0 from rfl, show opB 4 [j0, j1] = j1 from rfl, hv]
  have e4 := e3.symm.trans e2
  have e5 := (Prod.mk.inj (Prod.mk.inj (Except.ok.inj e4)).1)
  first | refine aG.mk (iR 4 (S1.val j0) (S1.val j1) v lV qY (by decide) hv) ?_ | refine aE.mk (iR 4 (S1.val j0) (S1.val j1) v lV qY (by decide) hv) ?_ | refine aG.a8 (iR 4 (S1.val j0) (S1.val j1) v lV qY (by decide) hv) ?_ | refine aE.mk (a6.cK (iR 4 (S1.val j0) (S1.val j1) v lV qY (by decide) hv)) ?_
  simp -dsimp -implicitDefEqProofs only [go_sem, ↓reduceIte, Tryz.f184]
  unfold k8 at b4
  simp only at b4
  refine aG.fF (v5 ⟨om, og, some w, H1⟩ ⟨4, j0, j1, 0⟩ v b1.len (by have := b1.cap; omega)) ?_
  rintro r h3 ⟨rfl, k5⟩
  simp -dsimp -implicitDefEqProofs only [go_sem, ↓reduceIte, Tryz.f184]
  rw [e5.2] at k5
  exact ⟨_, _, aV _ _, by rw [e5.1], k5⟩
theorem aYN {p : aC} (hp : p.ok) {inp : Int} {n : Nat} (hv : nO p inp n) {h0 h : aB} {nb st : Nat} {e : aA} {env : List Int} {S : b5} {funcs : Int} {k : Int} {S' : b5} {t : Nat} (hR : cE (bH p inp) h0 nb S h) (hst : st < 3000)
  (hok : e.ok p funcs env.length) (c7 : 0 ≤ funcs) (hf : funcs ≤ p.aJ.length) (hg : Good inp S st) (henv : ∀ x ∈ env, j5 S x) (hel : env.length ≤ 412 + st) (hr : cN p (n + 1) st e env S = .ok ((k, S'), t)) (hk : e.aQ = 5) :
  eH Tryz.prog 184 [.op nb 6 0 0, .ip 5 [e.c] 0 0, ints env] h fun r h' => r = I k ∧ cE (bH p inp) h0 nb S' h' := by
 rw [aA.aN]
 have hnode := (aA.cC _ _ _ _).1 hok
 have h3 : ¬ st = 3000 := by omega
 have hcap := hg.cap
 have hgcap := hg.m5
 have iY := hg.kJ (Nat.le_succ st)
 have hlen := cG hok (by omega)
 rw [hk, show eE 5 = 2 from rfl] at hlen
 have o0 := dD hok (by omega)
 rw [jD h3 (by omega)] at hr
 obtain ⟨⟨vs, S1⟩, t1, e1, e2⟩ := gB hr
 obtain ⟨b1, b2, b3, b4⟩ := fN hp iY (by omega) henv o0 hf _ _ e1
 simp only at b1 b2 b3
 obtain ⟨j0, S0, t0, hj0, xV⟩ := kG e1 (k := 0) (by omega) (vs := []) (S1 := S) (t1 := st + 1) rfl
 obtain ⟨c1, c2, c3, c4⟩ := lD hp n (st + 1) e.aI[0] env S funcs (o0 _ (List.getElem_mem _)) hf iY (by omega) henv _ _ hj0
 simp only at c1 c2 c3
 obtain ⟨j1, S2, t2, hj1, jF⟩ := kG e1 (k := 1) (by omega) xV
 rw [List.take_of_length_le (by omega), e1] at jF
 obtain ⟨rfl, rfl⟩ := Prod.mk.inj (Prod.mk.inj (Except.ok.inj jF)).1
 obtain rfl := (Prod.mk.inj (Except.ok.inj jF)).2
 have hsub : ∀ (i : Nat) (hi : i < e.aI.length), fH [.op nb 6 0 0, .ip 5 (e.aI.map aA.c) i 0, ints env] [.op nb 6 0 0, .ip 5 [e.aI[i].c] 0 0, ints env] := fun i hi => .cons (.refl _) (.cons (Sub.ip (bY hi) (by simp)) (.cons (.refl _) .nil))
 have i0 : j5 S1 j0 := b3.2 j0 (by simp)
 have i1 : j5 S1 j1 := b3.2 j1 (by simp)
 have lV := b1.val j0
 have qY := b1.val j1
 refine gG 183 nN v7 v8 mix Tryz.func184 rfl (by kernel_rfl) (by simp) ?_
 simp -dsimp -implicitDefEqProofs only [go_sem, ↓reduceIte, Tryz.f184, hk]
 refine ⟨by omega, aG.fF (eH.sub (hsub 0 (by omega)) (hv h0 _ nb (st + 1) e.aI[0] env S funcs j0 S0 t0 hR (by omega) (o0 _ (List.getElem_mem _)) c7 hf iY henv (by omega) hj0)) ?_⟩
 rintro r h' ⟨rfl, zE⟩
 simp -dsimp -implicitDefEqProofs only [go_sem, ↓reduceIte, Tryz.f184]
 refine ⟨by omega, aG.fF (eH.sub (hsub 1 (by omega)) (hv h0 _ nb t0 e.aI[1] env S0 funcs j1 S1 t1 zE c4.2.2.2 (o0 _ (List.getElem_mem _)) c7 hf c1 (fun x hx => (henv x hx).ext c2) (by have := c4.2.2.1; omega) hj1)) ?_⟩
 rintro r h2 ⟨rfl, ⟨om, og, ov, H1⟩⟩
 obtain ⟨w, rfl, hw, dw⟩ := H1.row i0
 have jL := H1.box
 unfold bH at jL
 rw [cV] at jL
 have rk0 := gU i0
 have rk1 := gU i1
 have k0 := i0.1
 have k1 := i0.2
 have k2 := i1.1
 have k3 := i1.2
 have lw := dJ (fun n => [I n]) S1.dU
 have hop := aP7 5 (by decide)
 try simp -dsimp -implicitDefEqProofs only [go_sem, ↓reduceIte, Tryz.f184, hk]
 first | refine aG.mk (hop) ?_ | refine aE.mk (hop) ?_ | refine aG.a8 (hop) ?_ | refine aE.mk (a6.cK (hop)) ?_
 simp -dsimp -implicitDefEqProofs only [go_sem, ↓reduceIte, Tryz.f184]
 try simp -dsimp -implicitDefEqProofs only [go_sem, ↓reduceIte, Tryz.f184, jL, hw, rk0, rk1]
 refine ⟨k0, by omega, k2, by omega, ?_⟩
 rw [hk] at e2
 cases hv : opV 5 (S1.val j0) (S1.val j1) with
 |none =>
  have e3 : xG 5 [j0, j1] S1 t1 = .error 6 := by
   unfold xG
   rw [show ([j0, j1].getD 0 0) = j0 from rfl, show opB 5 [j0, j1] = j1 from rfl, hv]
  have e4 := e3.symm.trans e2
  cases e4
 |some v =>
  have e3 : xG 5 [j0, j1] S1 t1 = .ok (((S1.dU.length : Int), S1.put ⟨5, j0, j1, 0⟩ v), t1) := by
   unfold xG
   rw [show ([j0, j1].getD 0 0) = j0 from rfl, show opB 5 [j0, j1] = j1 from rfl, hv]
  have e4 := e3.symm.trans e2
  have e5 := (Prod.mk.inj (Prod.mk.inj (Except.ok.inj e4)).1)
  first | refine aG.mk (iR 5 (S1.val j0) (S1.val j1) v lV qY (by decide) hv) ?_ | refine aE.mk (iR 5 (S1.val j0) (S1.val j1) v lV qY (by decide) hv) ?_ | refine aG.a8 (iR 5 (S1.val j0) (S1.val j1) v lV qY (by decide) hv) ?_ | refine aE.mk (a6.cK (iR 5 (S1.val j0) (S1.val j1) v lV qY (by decide) hv)) ?_
  simp -dsimp -implicitDefEqProofs only [go_sem, ↓reduceIte, Tryz.f184]
  unfold k8 at b4
  simp only at b4
  refine aG.fF (v5 ⟨om, og, some w, H1⟩ ⟨5, j0, j1, 0⟩ v b1.len (by have := b1.cap; omega)) ?_
  rintro r h3 ⟨rfl, k5⟩
  simp -dsimp -implicitDefEqProofs only [go_sem, ↓reduceIte, Tryz.f184]
  rw [e5.2] at k5
  exact ⟨_, _, aV _ _, by rw [e5.1], k5⟩
theorem aYO {p : aC} (hp : p.ok) {inp : Int} {n : Nat} (hv : nO p inp n) {h0 h : aB} {nb st : Nat} {e : aA} {env : List Int} {S : b5} {funcs : Int} {k : Int} {S' : b5} {t : Nat} (hR : cE (bH p inp) h0 nb S h) (hst : st < 3000)
  (hok : e.ok p funcs env.length) (c7 : 0 ≤ funcs) (hf : funcs ≤ p.aJ.length) (hg : Good inp S st) (henv : ∀ x ∈ env, j5 S x) (hel : env.length ≤ 412 + st) (hr : cN p (n + 1) st e env S = .ok ((k, S'), t)) (hk : e.aQ = 6) :
  eH Tryz.prog 184 [.op nb 6 0 0, .ip 5 [e.c] 0 0, ints env] h fun r h' => r = I k ∧ cE (bH p inp) h0 nb S' h' := by
 rw [aA.aN]
 have hnode := (aA.cC _ _ _ _).1 hok
 have h3 : ¬ st = 3000 := by omega
 have hcap := hg.cap
 have hgcap := hg.m5
 have iY := hg.kJ (Nat.le_succ st)
 have hlen := cG hok (by omega)
 rw [hk, show eE 6 = 2 from rfl] at hlen
 have o0 := dD hok (by omega)
 rw [jD h3 (by omega)] at hr
 obtain ⟨⟨vs, S1⟩, t1, e1, e2⟩ := gB hr
 obtain ⟨b1, b2, b3, b4⟩ := fN hp iY (by omega) henv o0 hf _ _ e1
 simp only at b1 b2 b3
 obtain ⟨j0, S0, t0, hj0, xV⟩ := kG e1 (k := 0) (by omega) (vs := []) (S1 := S) (t1 := st + 1) rfl
 obtain ⟨c1, c2, c3, c4⟩ := lD hp n (st + 1) e.aI[0] env S funcs (o0 _ (List.getElem_mem _)) hf iY (by omega) henv _ _ hj0
 simp only at c1 c2 c3
 obtain ⟨j1, S2, t2, hj1, jF⟩ := kG e1 (k := 1) (by omega) xV
 rw [List.take_of_length_le (by omega), e1] at jF
 obtain ⟨rfl, rfl⟩ := Prod.mk.inj (Prod.mk.inj (Except.ok.inj jF)).1
 obtain rfl := (Prod.mk.inj (Except.ok.inj jF)).2
 have hsub : ∀ (i : Nat) (hi : i < e.aI.length), fH [.op nb 6 0 0, .ip 5 (e.aI.map aA.c) i 0, ints env] [.op nb 6 0 0, .ip 5 [e.aI[i].c] 0 0, ints env] := fun i hi => .cons (.refl _) (.cons (Sub.ip (bY hi) (by simp)) (.cons (.refl _) .nil))
 have i0 : j5 S1 j0 := b3.2 j0 (by simp)
 have i1 : j5 S1 j1 := b3.2 j1 (by simp)
 have lV := b1.val j0
 have qY := b1.val j1
 refine gG 183 nN v7 v8 mix Tryz.func184 rfl (by kernel_rfl) (by simp) ?_
 simp -dsimp -implicitDefEqProofs only [go_sem, ↓reduceIte, Tryz.f184, hk]
 refine ⟨by omega, aG.fF (eH.sub (hsub 0 (by omega)) (hv h0 _ nb (st + 1) e.aI[0] env S funcs j0 S0 t0 hR (by omega) (o0 _ (List.getElem_mem _)) c7 hf iY henv (by omega) hj0)) ?_⟩
 rintro r h' ⟨rfl, zE⟩
 simp -dsimp -implicitDefEqProofs only [go_sem, ↓reduceIte, Tryz.f184]
 refine ⟨by omega, aG.fF (eH.sub (hsub 1 (by omega)) (hv h0 _ nb t0 e.aI[1] env S0 funcs j1 S1 t1 zE c4.2.2.2 (o0 _ (List.getElem_mem _)) c7 hf c1 (fun x hx => (henv x hx).ext c2) (by have := c4.2.2.1; omega) hj1)) ?_⟩
 rintro r h2 ⟨rfl, ⟨om, og, ov, H1⟩⟩
 obtain ⟨w, rfl, hw, dw⟩ := H1.row i0
 have jL := H1.box
 unfold bH at jL
 rw [cV] at jL
 have rk0 := gU i0
 have rk1 := gU i1
 have k0 := i0.1
 have k1 := i0.2
 have k2 := i1.1
 have k3 := i1.2
 have lw := dJ (fun n => [I n]) S1.dU
 have hop := aP7 6 (by decide)
 try simp -dsimp -implicitDefEqProofs only [go_sem, ↓reduceIte, Tryz.f184, hk]
 first | refine aG.mk (hop) ?_ | refine aE.mk (hop) ?_ | refine aG.a8 (hop) ?_ | refine aE.mk (a6.cK (hop)) ?_
 simp -dsimp -implicitDefEqProofs only [go_sem, ↓reduceIte, Tryz.f184]
 try simp -dsimp -implicitDefEqProofs only [go_sem, ↓reduceIte, Tryz.f184, jL, hw, rk0, rk1]
 refine ⟨k0, by omega, k2, by omega, ?_⟩
 rw [hk] at e2
 cases hv : opV 6 (S1.val j0) (S1.val j1) with
 |none =>
  have e3 : xG 6 [j0, j1] S1 t1 = .error 6 := by
   unfold xG
   rw [show ([j0, j1].getD 0 0) = j0 from rfl, show opB 6 [j0, j1] = j1 from rfl, hv]
  have e4 := e3.symm.trans e2
  cases e4
 |some v =>
  have e3 : xG 6 [j0, j1] S1 t1 = .ok (((S1.dU.length : Int), S1.put ⟨6, j0, j1, 0⟩ v), t1) := by
   unfold xG
   rw [show ([j0, j1].getD 0 0) = j0 from rfl, show opB 6 [j0, j1] = j1 from rfl, hv]
  have e4 := e3.symm.trans e2
  have e5 := (Prod.mk.inj (Prod.mk.inj (Except.ok.inj e4)).1)
  first | refine aG.mk (iR 6 (S1.val j0) (S1.val j1) v lV qY (by decide) hv) ?_ | refine aE.mk (iR 6 (S1.val j0) (S1.val j1) v lV qY (by decide) hv) ?_ | refine aG.a8 (iR 6 (S1.val j0) (S1.val j1) v lV qY (by decide) hv) ?_ | refine aE.mk (a6.cK (iR 6 (S1.val j0) (S1.val j1) v lV qY (by decide) hv)) ?_
  simp -dsimp -implicitDefEqProofs only [go_sem, ↓reduceIte, Tryz.f184]
  unfold k8 at b4
  simp only at b4
  refine aG.fF (v5 ⟨om, og, some w, H1⟩ ⟨6, j0, j1, 0⟩ v b1.len (by have := b1.cap; omega)) ?_
  rintro r h3 ⟨rfl, k5⟩
  simp -dsimp -implicitDefEqProofs only [go_sem, ↓reduceIte, Tryz.f184]
  rw [e5.2] at k5
  exact ⟨_, _, aV _ _, by rw [e5.1], k5⟩
theorem aYP {p : aC} (hp : p.ok) {inp : Int} {n : Nat} (hv : nO p inp n) {h0 h : aB} {nb st : Nat} {e : aA} {env : List Int} {S : b5} {funcs : Int} {k : Int} {S' : b5} {t : Nat} (hR : cE (bH p inp) h0 nb S h) (hst : st < 3000)
  (hok : e.ok p funcs env.length) (c7 : 0 ≤ funcs) (hf : funcs ≤ p.aJ.length) (hg : Good inp S st) (henv : ∀ x ∈ env, j5 S x) (hel : env.length ≤ 412 + st) (hr : cN p (n + 1) st e env S = .ok ((k, S'), t)) (hk : e.aQ = 8) :
  eH Tryz.prog 184 [.op nb 6 0 0, .ip 5 [e.c] 0 0, ints env] h fun r h' => r = I k ∧ cE (bH p inp) h0 nb S' h' := by
 rw [aA.aN]
 have hnode := (aA.cC _ _ _ _).1 hok
 have h3 : ¬ st = 3000 := by omega
 have hcap := hg.cap
 have hgcap := hg.m5
 have iY := hg.kJ (Nat.le_succ st)
 have hlen := cG hok (by omega)
 rw [hk, show eE 8 = 3 from rfl] at hlen
 have o0 := dD hok (by omega)
 rw [tY h3 hk] at hr
 obtain ⟨⟨k1, S1⟩, t1, e1, e2⟩ := gB hr
 rw [aA.qG (show 0 < e.aI.length by omega)] at e1
 obtain ⟨q1, q2, q3, q4⟩ := lD hp n (st + 1) e.aI[0] env S funcs (o0 _ (List.getElem_mem _)) hf iY (by omega) henv _ _ e1
 unfold k8 at q4
 simp only at q1 q2 q3 q4 e2
 have hsub : ∀ (i : Nat) (hi : i < e.aI.length), fH [.op nb 6 0 0, .ip 5 (e.aI.map aA.c) i 0, ints env] [.op nb 6 0 0, .ip 5 [e.aI[i].c] 0 0, ints env] := fun i hi => .cons (.refl _) (.cons (Sub.ip (bY hi) (by simp)) (.cons (.refl _) .nil))
 refine gG 183 nN v7 v8 mix Tryz.func184 rfl (by kernel_rfl) (by simp) ?_
 simp -dsimp -implicitDefEqProofs only [go_sem, ↓reduceIte, Tryz.f184, hk]
 refine ⟨by omega, aG.fF (eH.sub (hsub 0 (by omega)) (hv h0 _ nb (st + 1) e.aI[0] env S funcs k1 S1 t1 hR (by omega) (o0 _ (List.getElem_mem _)) c7 hf iY henv (by omega) e1)) ?_⟩
 rintro r h' ⟨rfl, ⟨om1, og1, ov1, H1⟩⟩
 obtain ⟨w, rfl, hw, dw⟩ := H1.row q3
 have jL := H1.box
 unfold bH at jL
 rw [cV] at jL
 have rk := gU q3
 have k0 := q3.1
 have k2 := q3.2
 have lw := dJ (fun n => [I n]) S1.dU
 have hgc := q1.m5
 simp -dsimp -implicitDefEqProofs only [go_sem, ↓reduceIte, Tryz.f184, jL, hw, rk]
 refine ⟨k0, by omega, ?_⟩
 have hgd := H1.gds
 cases og1 with
 |none =>
  have hg0 : S1.guards = [] := fR.1 hgd
  rw [sG]
  simp -dsimp -implicitDefEqProofs only [go_sem, ↓reduceIte, Tryz.f184, jL]
  refine ⟨by decide, by decide, by decide, fun b jX => ?_⟩
  have bS : ¬ b = nb := fun e => by rw [e, jL] at jX; cases jX
  have dO : ¬ nb = b := Ne.symm bS
  have cI : (b = nb) = False := eq_false bS
  have cJ : (nb = b) = False := eq_false dO
  simp -dsimp -implicitDefEqProofs only [go_sem, ↓reduceIte, Tryz.f184, jL, cI, cJ, aF]
  refine ⟨fun hz => ⟨by omega, ?_⟩, fun hz => ⟨by omega, ?_⟩⟩
  ·rw [decide_eq_true hz]
   obtain ⟨g, hgl, hG⟩ := H1.guard ⟨k1, true⟩ jX (F := a5 (a5 h' b (.row 2 [[.v (I k1), .v (.bool true)]])) nb (bH p inp (S1.guard ⟨k1, true⟩) om1 (some b) (some w))) (aH _ _ _) (by rw [aF _ _ _ _ bS, aH, hg0]; rfl) (fun n h1 h2 _ => by rw [aF _ _ _ _ h1, aF _ _ _ _ h2])
   unfold bH at hgl
   simp only [b5.guard, hg0, cV, List.nil_append, List.length_singleton] at hgl
   refine aG.wk (aB.iX hgl) ?_
   have hgG := q1.guard (b := true) q3 (by omega)
   have heG := q2.trans (S1.kE ⟨k1, true⟩)
   rw [if_pos hz, aA.qG (show 1 < e.aI.length by omega)] at e2
   refine aG.fF (eH.sub (hsub 1 (by omega)) (hv h0 g nb t1 e.aI[1] env (S1.guard ⟨k1, true⟩) funcs k S' t ⟨_, _, _, hG⟩ (by omega) (o0 _ (List.getElem_mem _)) c7 hf hgG (fun x hx => (henv x hx).ext heG) (by omega) e2)) ?_
   rintro r h2 ⟨rfl, nP⟩
   simp -dsimp -implicitDefEqProofs only [go_sem, ↓reduceIte, Tryz.f184]
   exact ⟨_, _, aV _ _, rfl, nP⟩
  ·rw [decide_eq_false hz]
   obtain ⟨g, hgl, hG⟩ := H1.guard ⟨k1, false⟩ jX (F := a5 (a5 h' b (.row 2 [[.v (I k1), .v (.bool false)]])) nb (bH p inp (S1.guard ⟨k1, false⟩) om1 (some b) (some w))) (aH _ _ _) (by rw [aF _ _ _ _ bS, aH, hg0]; rfl) (fun n h1 h2 _ => by rw [aF _ _ _ _ h1, aF _ _ _ _ h2])
   unfold bH at hgl
   simp only [b5.guard, hg0, cV, List.nil_append, List.length_singleton] at hgl
   refine aG.wk (aB.iX hgl) ?_
   have hgG := q1.guard (b := false) q3 (by omega)
   have heG := q2.trans (S1.kE ⟨k1, false⟩)
   rw [if_neg hz, aA.qG (show 2 < e.aI.length by omega)] at e2
   refine aG.fF (eH.sub (hsub 2 (by omega)) (hv h0 g nb t1 e.aI[2] env (S1.guard ⟨k1, false⟩) funcs k S' t ⟨_, _, _, hG⟩ (by omega) (o0 _ (List.getElem_mem _)) c7 hf hgG (fun x hx => (henv x hx).ext heG) (by omega) e2)) ?_
   rintro r h2 ⟨rfl, nP⟩
   simp -dsimp -implicitDefEqProofs only [go_sem, ↓reduceIte, Tryz.f184]
   exact ⟨_, _, aV _ _, rfl, nP⟩
 |some gm =>
  have hgm := hgd.2
  have zF : ¬ gm = nb := fun e => by rw [e, jL] at hgm; cases hgm
  have aH5 : ¬ nb = gm := Ne.symm zF
  have aH6 : (gm = nb) = False := eq_false zF
  have aH7 : (nb = gm) = False := eq_false aH5
  rw [cV]
  simp -dsimp -implicitDefEqProofs only [go_sem, ↓reduceIte, Tryz.f184, jL, hgm, dJ]
  refine ⟨by decide, by decide, by decide, Nat.le_refl _, by omega, by omega, fun b jX => ?_⟩
  have bS : ¬ b = nb := fun e => by rw [e, jL] at jX; cases jX
  have dO : ¬ nb = b := Ne.symm bS
  have cI : (b = nb) = False := eq_false bS
  have cJ : (nb = b) = False := eq_false dO
  have aEN : ¬ b = gm := fun e => by rw [e, hgm] at jX; cases jX
  have aM8 : ¬ gm = b := Ne.symm aEN
  have aM9 : (b = gm) = False := eq_false aEN
  have aNA : (gm = b) = False := eq_false aM8
  simp -dsimp -implicitDefEqProofs only [go_sem, ↓reduceIte, Tryz.f184, jL, cI, aM9, cJ, aH7, aNA, aH6, aF]
  refine ⟨fun hz => ⟨by omega, ?_⟩, fun hz => ⟨by omega, ?_⟩⟩
  ·rw [decide_eq_true hz, List.take_of_length_le (by rw [dJ]; exact Nat.le_refl _)]
   obtain ⟨g, hgl, hG⟩ := H1.guard ⟨k1, true⟩ jX (F := a5 (a5 (a5 h' gm .gone) b (.row 2 (rowsOf dX.c S1.guards ++ [[.v (I k1), .v (.bool true)]]))) nb (bH p inp (S1.guard ⟨k1, true⟩) om1 (some b) (some w))) (aH _ _ _) (by rw [aF _ _ _ _ bS, aH, kK]; rfl) (fun n h1 h2 h3 => by rw [aF _ _ _ _ h1, aF _ _ _ _ h2, aF _ _ _ _ (fun q => h3 (by rw [q]))])
   unfold bH at hgl
   simp only [b5.guard, cV, List.length_append, List.length_singleton] at hgl
   refine aG.wk (aB.iX hgl) ?_
   have hgG := q1.guard (b := true) q3 (by omega)
   have heG := q2.trans (S1.kE ⟨k1, true⟩)
   rw [if_pos hz, aA.qG (show 1 < e.aI.length by omega)] at e2
   refine aG.fF (eH.sub (hsub 1 (by omega)) (hv h0 g nb t1 e.aI[1] env (S1.guard ⟨k1, true⟩) funcs k S' t ⟨_, _, _, hG⟩ (by omega) (o0 _ (List.getElem_mem _)) c7 hf hgG (fun x hx => (henv x hx).ext heG) (by omega) e2)) ?_
   rintro r h2 ⟨rfl, nP⟩
   simp -dsimp -implicitDefEqProofs only [go_sem, ↓reduceIte, Tryz.f184]
   exact ⟨_, _, aV _ _, rfl, nP⟩
  ·rw [decide_eq_false hz, List.take_of_length_le (by rw [dJ]; exact Nat.le_refl _)]
   obtain ⟨g, hgl, hG⟩ := H1.guard ⟨k1, false⟩ jX (F := a5 (a5 (a5 h' gm .gone) b (.row 2 (rowsOf dX.c S1.guards ++ [[.v (I k1), .v (.bool false)]]))) nb (bH p inp (S1.guard ⟨k1, false⟩) om1 (some b) (some w))) (aH _ _ _) (by rw [aF _ _ _ _ bS, aH, kK]; rfl) (fun n h1 h2 h3 => by rw [aF _ _ _ _ h1, aF _ _ _ _ h2, aF _ _ _ _ (fun q => h3 (by rw [q]))])
   unfold bH at hgl
   simp only [b5.guard, cV, List.length_append, List.length_singleton] at hgl
   refine aG.wk (aB.iX hgl) ?_
   have hgG := q1.guard (b := false) q3 (by omega)
   have heG := q2.trans (S1.kE ⟨k1, false⟩)
   rw [if_neg hz, aA.qG (show 2 < e.aI.length by omega)] at e2
   refine aG.fF (eH.sub (hsub 2 (by omega)) (hv h0 g nb t1 e.aI[2] env (S1.guard ⟨k1, false⟩) funcs k S' t ⟨_, _, _, hG⟩ (by omega) (o0 _ (List.getElem_mem _)) c7 hf hgG (fun x hx => (henv x hx).ext heG) (by omega) e2)) ?_
   rintro r h2 ⟨rfl, nP⟩
   simp -dsimp -implicitDefEqProofs only [go_sem, ↓reduceIte, Tryz.f184]
   exact ⟨_, _, aV _ _, rfl, nP⟩
def aYQ (l : List Int) : Option Nat → aD
 |none => ints l
 |some m => .os m 1 0 l.length
theorem aGQ (l : List Int) : aYQ l none = ints l := rfl
theorem aGR (l : List Int) (m : Nat) : aYQ l (some m) = .os m 1 0 l.length := rfl
theorem aNV {f : List Int → Nat → b5 → Out (List Int × b5)} {N : Nat} {vs : List Int} {t : Nat} {S : b5} {v : List Int × b5} {u : Nat} (h : mB f N vs t S = .ok (v, u)) {k : Nat} (hk : k < N) {us : List Int} {S1 : b5} {t1 : Nat} (h1 : mB f k vs t S = .ok ((us, S1), t1)) :
  ∃ l S2 t2, f us t1 S1 = .ok ((l, S2), t2) ∧ mB f (k + 1) vs t S = .ok ((l, S2), t2) := by
 have h2 := tX f k vs t S
 rw [h1] at h2
 have h3 : mB f (k + 1) vs t S = f us t1 S1 := h2
 cases hf : f us t1 S1 with
 |ok q => exact ⟨q.1.1, q.1.2, q.2, rfl, h3.trans hf⟩
 |error c =>
  have := aF8 f (k + 1) (n := N) hk (h3.trans hf)
  rw [h] at this; cases this
theorem aLT {p : aC} (hp : p.ok) {inp : Int} {n : Nat} (hv : nO p inp n) {h0 h : aB} {nb st : Nat} {e : aA} {env : List Int} {S : b5} {funcs : Int} {k : Int} {S' : b5} {t : Nat} (hR : cE (bH p inp) h0 nb S h) (hst : st < 3000)
  (hok : e.ok p funcs env.length) (c7 : 0 ≤ funcs) (hf : funcs ≤ p.aJ.length) (hg : Good inp S st) (henv : ∀ x ∈ env, j5 S x) (hel : env.length ≤ 412 + st) (hr : cN p (n + 1) st e env S = .ok ((k, S'), t)) (hk : e.aQ = 10 ∨ e.aQ = 11) :
  eH Tryz.prog 208 [.op nb 6 0 0, .ip 5 [e.c] 0 0, ints env] h fun r h' => r = I k ∧ cE (bH p inp) h0 nb S' h' := by
 have h3 : ¬ st = 3000 := by omega
 have iY := hg.kJ (Nat.le_succ st)
 obtain ⟨f, F⟩ := lQ hp hok hf hk
 have hkl : e.aI.length ≤ 1048576 := by have := F.kids; have := F.params; omega
 have f1 := F.lo
 have f2 := F.hi
 have f3 := F.pk
 have f4 := F.pk2
 have f5 := F.kids
 have f6 := F.params
 have f8 := F.outs
 have o0 := dD hok (by omega)
 have hseq : ∃ vs S1 t1, jG (fun t e S => cN p n t e env S) e.aI (st + 1) S = .ok ((vs, S1), t1) := by
  rcases hk with hk | hk
  ·rw [tZ h3 hk] at hr
   obtain ⟨w, u, h1, _⟩ := gB hr
   exact ⟨w.1, w.2, u, h1⟩
  ·rw [uA h3 hk] at hr
   obtain ⟨w, u, h1, _⟩ := gB hr
   exact ⟨w.1, w.2, u, h1⟩
 obtain ⟨ws, Sw, tw, xV⟩ := hseq
 obtain ⟨q1, q2, q3, q4⟩ := fN hp iY (by omega) henv o0 hf _ _ xV
 simp only at q1 q2 q3
 have q5 := q4.2.2.1
 have q6 := q4.2.2.2
 rw [aA.aN]
 refine gG 81 aA8 aA9 aBA mix Tryz.func208 rfl (by kernel_rfl) (by simp) ?_
 simp -dsimp -implicitDefEqProofs only [go_sem, ↓reduceIte, Tryz.f208]
 refine ⟨by decide, ?_⟩
 refine bX (keep := aA8) (ib := aA9) (mk := aBA) mix (by kernel_rfl) (fun x : Nat × List Int × b5 × Nat × aB × Option Nat => [(0, .op nb 6 0 0), (1, .ip 5 [e.c] 0 0), (2, ints env), (7, eK 1 x.2.1.length x.2.2.2.2.2), (8, I x.1)]) (fun x => gQ x.2.2.2.2.1 (.row 1 ((x.2.1.map fun n => [I n]).map (List.map .v))) x.2.2.2.2.2) (fun x => x.1 ≤ e.aI.length ∧ x.2.1.length = x.1 ∧ jG (fun t e S => cN p n t e env S) (e.aI.take x.1) (st + 1) S = .ok ((x.2.1, x.2.2.1), x.2.2.2.1) ∧ cE (bH p inp) h0 nb x.2.2.1 x.2.2.2.2.1 ∧ eP x.2.2.2.2.1 x.2.1 x.2.2.2.2.2) (fun x => e.aI.length - x.1) (0, [], S, st + 1, h, none) ⟨by simp [b8, bJ, eK, aA.aN], aB.le_refl _, Nat.zero_le _, rfl, rfl, hR, rfl⟩ ?_
 rintro ⟨i, vs, S1, t1, g, o⟩ ⟨hi, hvl, hs, hR, hos⟩
 simp only at hi hvl hs hR hos ⊢
 rw [aA.aN]
 rcases Nat.lt_or_ge i e.aI.length with hlt | hge
 ·have ek : e.aI[i]? = some e.aI[i] := List.getElem?_eq_getElem hlt
  obtain ⟨j, S2, t2, hj, j3⟩ := kG xV hlt hs
  obtain ⟨b1, b2, b3, b4⟩ := fN hp (l := e.aI.take i) iY (by omega) henv (fun x hx => o0 x (List.mem_of_mem_take hx)) hf _ _ hs
  simp only at b1 b2 b3
  have hsub : fH [.op nb 6 0 0, .ip 5 (e.aI.map aA.c) i 0, ints env] [.op nb 6 0 0, .ip 5 [e.aI[i].c] 0 0, ints env] := .cons (.refl _) (.cons (Sub.ip (bY hlt) (by simp)) (.cons (.refl _) .nil))
  cases o with
  |none =>
   rw [a9] at hos
   subst hos
   simp -dsimp -implicitDefEqProofs only [go_sem, ↓reduceIte, Tryz.f208, a7, aR, hlt, ek]
   refine fun _ => aG.fF (eH.sub hsub (hv h0 g nb t1 e.aI[i] env S1 funcs j S2 t2 hR b4.2.2.2 (o0 _ (List.getElem_mem _)) c7 hf b1 (fun x hx => (henv x hx).ext b2) (by have := b4.2.2.1; omega) hj)) ?_
   rintro r h' ⟨rfl, k5⟩
   simp -dsimp -implicitDefEqProofs only [go_sem, ↓reduceIte, Tryz.f208]
   refine ⟨Nat.zero_lt_one, Nat.zero_lt_one, Nat.zero_lt_one, fun b jX => ?_⟩
   refine ⟨(i + 1, [j], S2, t2, h', some b), ⟨rfl, by rw [IntWalk.i64_in _ (by omega)]; rfl⟩, aB.le_refl _, ⟨by omega, by simp only [List.length_nil] at hvl; subst hvl; rfl, j3, k5, jX⟩, by simp only; omega⟩
  |some m =>
   rw [aU] at hos
   simp -dsimp -implicitDefEqProofs only [go_sem, ↓reduceIte, Tryz.f208, aT, aL, hlt, ek]
   refine fun _ => aG.fF (eH.sub hsub (hv _ _ nb t1 e.aI[i] env S1 funcs j S2 t2 (hR.uS hos) b4.2.2.2 (o0 _ (List.getElem_mem _)) c7 hf b1 (fun x hx => (henv x hx).ext b2) (by have := b4.2.2.1; omega) hj)) ?_
   rintro r h' ⟨rfl, k5⟩
   obtain ⟨g2, rfl, hg2, k5⟩ := k5.base (hR.none hos)
   simp -dsimp -implicitDefEqProofs only [go_sem, ↓reduceIte, Tryz.f208]
   refine ⟨Nat.zero_lt_one, Nat.zero_lt_one, Nat.zero_lt_one, Nat.le_refl _, by omega, by omega, fun b ⟨hbm, jX⟩ => ?_⟩
   have gJ : ¬ b = m := hbm
   have kV : ¬ m = b := Ne.symm gJ
   have lB : (b = m) = False := eq_false gJ
   have lC : (m = b) = False := eq_false kV
   refine ⟨(i + 1, vs ++ [j], S2, t2, g2, some b), ⟨by rw [aT, List.length_append]; rfl, by rw [IntWalk.i64_in _ (by omega)]; rfl⟩, ?_, ⟨by omega, by rw [List.length_append, hvl]; rfl, j3, k5, jX⟩, by simp only; omega⟩
   simp only [aL]
   rw [← eN]
   exact kO hg2
 ·have hi' : i = e.aI.length := by omega
  subst hi'
  rw [List.take_length, xV] at hs
  obtain ⟨rfl, rfl⟩ := Prod.mk.inj (Prod.mk.inj (Except.ok.inj hs)).1
  obtain rfl := (Prod.mk.inj (Except.ok.inj hs)).2
  obtain ⟨om, og, ov, H⟩ := hR
  have hb := H.box
  unfold bH at hb
  have hR : cE (bH p inp) h0 nb Sw g := ⟨om, og, ov, H⟩
  have hsubp : ∀ x, fH [.op nb 6 0 0, .ip 5 (f.aM.map aA.c) e.b7.toNat 0, x] [.op nb 6 0 0, .ip 5 [(p.out e.aW e.b7).c] 0 0, x] := fun x => .cons (.refl _) (.cons (Sub.ip (by rw [List.getElem?_map, F.out]; rfl) (by simp)) (.cons (.refl _) .nil))
  rcases hk with hk | hk
  ·rw [tZ h3 hk, xV] at hr
   have hr' : cN p n tw (p.out e.aW e.b7) ws Sw = .ok ((k, S'), t) := hr
   have hfin : ∀ {h1 g1 : aB}, cE (bH p inp) h1 nb Sw g1 → eH Tryz.prog 184 [.op nb 6 0 0, .ip 5 (f.aM.map aA.c) e.b7.toNat 0, ints ws] g1 fun r h' => r = I k ∧ cE (bH p inp) h1 nb S' h' := fun nP =>
    eH.sub (hsubp _) (hv _ _ nb tw (p.out e.aW e.b7) ws Sw e.aW k S' t nP (by omega) (by rw [hvl, f5]; exact F.oks _ (List.mem_of_getElem? F.out)) f1 (by omega) q1 q3.2 (by omega) hr')
   cases o with
   |none =>
    rw [a9] at hos
    subst hos
    simp -dsimp -implicitDefEqProofs only [go_sem, ↓reduceIte, Tryz.f208, a7, aR, Nat.lt_irrefl, Int.lt_irrefl, hb, F.get, aP.aN, hk]
    refine fun _ => ⟨f1, f2, f3, by omega, ?_⟩
    refine aG.fF (eH.sub (.cons (.refl _) (.cons (.refl _) (.cons (Sub.loose _ _ _) .nil))) (hfin hR)) ?_
    rintro r h' ⟨rfl, k5⟩
    simp -dsimp -implicitDefEqProofs only [go_sem, ↓reduceIte, Tryz.f208]
    exact ⟨_, _, aV _ _, rfl, k5⟩
   |some m =>
    rw [aU] at hos
    have c5 : ¬ nb = m := fun q => by rw [q, hos] at hb; cases hb
    have dA : ¬ m = nb := Ne.symm c5
    have dH : (nb = m) = False := eq_false c5
    have dG : (m = nb) = False := eq_false dA
    simp -dsimp -implicitDefEqProofs only [go_sem, ↓reduceIte, Tryz.f208, aT, aL, Nat.lt_irrefl, Int.lt_irrefl, hb, dH, dG, aF, F.get, aP.aN, hk]
    refine fun _ => ⟨f1, f2, f3, by omega, ?_⟩
    refine aG.aBI (es := ws.map fun n => [I n]) rfl rfl c5 (by simp) hos ?_
    refine eH.mono (hfin (hR.uS (o := .gone) hos)) ?_
    rintro r h2 ⟨rfl, nP⟩
    obtain ⟨g3, rfl, hg3, nP⟩ := nP.base (hR.none hos)
    simp -dsimp -implicitDefEqProofs only [go_sem, ↓reduceIte, Tryz.f208]
    exact ⟨_, g3, bQ (aB.bF hg3 (aB.le_refl _)), rfl, nP⟩
  ·have f7 := F.loop hk
   rw [uA h3 hk, xV] at hr
   obtain ⟨w0, u0, h9, hr⟩ := gB hr
   cases h9
   obtain ⟨w, u, hit, hr2⟩ := gB hr
   obtain ⟨e1, rfl⟩ := Prod.mk.inj (Except.ok.inj hr2)
   obtain ⟨rfl, rfl⟩ := Prod.mk.inj e1
   obtain ⟨us0, S'⟩ := w
   simp only at hit hr2 e1 ⊢
   have hfl : ∀ us t S2, Good inp S2 t → (us.length = f.aM.length ∧ ∀ x ∈ us, j5 S2 x) → t ≤ 3000 → qR (vS inp S2 t f.aM.length) (jG (fun t e S => cN p n t e us S) (p.outs e.aW) t S2) := fun us w S2 hg' hv' hw => by
    rw [F.eq]
    exact fN hp hg' hw hv'.2 (funcs := e.aW) (fun x hx => by rw [hv'.1, f7.2.2]; exact F.oks x hx) (by omega)
   obtain ⟨m, rfl⟩ : ∃ m, o = some m := by
    cases o with
    |none => rw [a9] at hos; rw [hos] at hvl; simp at hvl; omega
    |some m => exact ⟨m, rfl⟩
   rw [aU] at hos
   have c5 : ¬ nb = m := fun q => by rw [q, hos] at hb; cases hb
   have dA : ¬ m = nb := Ne.symm c5
   have dH : (nb = m) = False := eq_false c5
   have dG : (m = nb) = False := eq_false dA
   simp -dsimp -implicitDefEqProofs only [go_sem, ↓reduceIte, Tryz.f208, aT, aL, Nat.lt_irrefl, Int.lt_irrefl, hb, dH, dG, aF, F.get, aP.aN, hk]
   refine fun _ => ⟨f1, f2, ?_⟩
   refine bX (keep := aA8) (ib := aA9) (mk := aBA) mix (by kernel_rfl) (fun x : Nat × List Int × b5 × Nat × aB × Option Nat => [(0, .op nb 6 0 0), (1, .ip 5 [e.c] 0 0), (7, aYQ x.2.1 x.2.2.2.2.2), (9, .ip 3 (p.aJ.map aP.c) e.aW.toNat 0), (10, I x.1)]) (fun x => gQ x.2.2.2.2.1 (.row 1 ((x.2.1.map fun n => [I n]).map (List.map .v))) x.2.2.2.2.2) (fun x => x.1 ≤ e.bV.toNat ∧ x.2.1.length = f.aM.length ∧ mB (fun vs t S => jG (fun t e S => cN p n t e vs S) (p.outs e.aW) t S) x.1 ws tw Sw = .ok ((x.2.1, x.2.2.1), x.2.2.2.1) ∧ cE (bH p inp) h0 nb x.2.2.1 x.2.2.2.2.1 ∧ ∀ q, x.2.2.2.2.2 = some q → x.2.2.2.2.1 q = none) (fun x => e.bV.toNat - x.1) (0, ws, Sw, tw, g, some m) ⟨by simp [b8, bJ, aYQ, aA.aN, hvl, hk], aB.le_refl _, Nat.zero_le _, by simp only; omega, rfl, hR, fun q e => by cases e; exact hos⟩ ?_
   clear hR hos H hb
   rintro ⟨i, us, S2, t2, g, o⟩ ⟨hi, hul, hs, hR, hos⟩
   simp only at hi hul hs hR hos ⊢
   obtain ⟨w1, w2, w3, w4⟩ := qJ hfl i ws tw Sw q1 ⟨by omega, q3.2⟩ q6 _ _ hs
   simp only at w1 w2 w3
   rw [aA.aN]
   rcases Nat.lt_or_ge i e.bV.toNat with hlt | hge
   ·obtain ⟨l2, S3, t3, hf3, hs3⟩ := aNV hit hlt hs
    rw [F.eq] at hf3
    have hou : ∀ {h1 g1 : aB}, cE (bH p inp) h1 nb S2 g1 → eH Tryz.prog 126 [.op nb 6 0 0, .ip 3 (p.aJ.map aP.c) e.aW.toNat 0, ints us] g1 fun r h' => r = ints l2 ∧ cE (bH p inp) h1 nb S3 h' := fun nP =>
     eH.sub (.cons (.refl _) (.cons (Sub.ip (by rw [List.getElem?_map, F.get]; rfl) (by simp)) (.cons (.refl _) .nil))) (aLS hp hv _ _ nb t2 f us S2 e.aW l2 S3 t3 nP w4.2.2.2 (by omega) (by rw [hul, f7.2.2]; exact F.oks) f1 (by omega) w1 w3.2 (by omega) hf3)
    obtain ⟨v1, v2, v3, v4⟩ := hfl us t2 S2 w1 w3 w4.2.2.2 (l2, S3) t3 (by rw [F.eq]; exact hf3)
    simp only at v3
    cases o with
    |none =>
     simp -dsimp -implicitDefEqProofs only [go_sem, ↓reduceIte, Tryz.f208, aGQ, aR]
     refine ⟨fun hq => aG.fF (hou hR) ?_, fun hq => by omega⟩
     rintro r h' ⟨rfl, k5⟩
     simp -dsimp -implicitDefEqProofs only [go_sem, ↓reduceIte, Tryz.f208]
     exact ⟨(i + 1, l2, S3, t3, h', none), ⟨rfl, by rw [IntWalk.i64_in _ (by omega)]; rfl⟩, aB.le_refl _, ⟨by omega, v3.1, hs3, k5, fun q e => by cases e⟩, by simp only; omega⟩
    |some b =>
     have jX := hos b rfl
     have dO : ¬ nb = b := fun q => by obtain ⟨_, _, _, H2⟩ := hR; have := H2.box; rw [q, jX] at this; cases this
     have bS : ¬ b = nb := Ne.symm dO
     have cJ : (nb = b) = False := eq_false dO
     have cI : (b = nb) = False := eq_false bS
     simp -dsimp -implicitDefEqProofs only [go_sem, ↓reduceIte, Tryz.f208, aGR, aL]
     refine ⟨fun hq => aG.aBI (es := us.map fun n => [I n]) rfl rfl dO (by simp) jX ?_, fun hq => by omega⟩
     refine eH.mono (hou (hR.uS (o := .gone) jX)) ?_
     rintro r h2 ⟨rfl, nP⟩
     obtain ⟨g3, rfl, hg3, nP⟩ := nP.base (hR.none jX)
     simp -dsimp -implicitDefEqProofs only [go_sem, ↓reduceIte, Tryz.f208]
     exact ⟨(i + 1, l2, S3, t3, g3, none), ⟨rfl, by rw [IntWalk.i64_in _ (by omega)]; rfl⟩, aB.bF hg3 (aB.le_refl _), ⟨by omega, v3.1, hs3, nP, fun q e => by cases e⟩, by simp only; omega⟩
   ·have hi' : i = e.bV.toNat := by omega
    subst hi'
    rw [hit] at hs
    obtain ⟨rfl, rfl⟩ := Prod.mk.inj (Prod.mk.inj (Except.ok.inj hs)).1
    have gp : us0[e.b7.toNat]? = some (us0.getD e.b7.toNat 0) := bR (by omega)
    cases o with
    |none =>
     simp -dsimp -implicitDefEqProofs only [go_sem, ↓reduceIte, Tryz.f208, aGQ, aR, gp]
     exact ⟨fun q => by omega, fun _ => ⟨f3, by omega, _, _, aV _ _, rfl, hR⟩⟩
    |some b =>
     have jX := hos b rfl
     simp -dsimp -implicitDefEqProofs only [go_sem, ↓reduceIte, Tryz.f208, aGR, aL, gp]
     exact ⟨fun q => by omega, fun _ => ⟨f3, by omega, _, _, bQ (aB.bF jX (aB.le_refl _)), rfl, hR⟩⟩
theorem aU7 {p : aC} (hp : p.ok) {inp : Int} {n : Nat} (hv : nO p inp n) {h0 h : aB} {nb st : Nat} {e : aA} {env : List Int} {S : b5} {funcs : Int} {k : Int} {S' : b5} {t : Nat} (hR : cE (bH p inp) h0 nb S h) (hst : st < 3000)
  (hok : e.ok p funcs env.length) (c7 : 0 ≤ funcs) (hf : funcs ≤ p.aJ.length) (hg : Good inp S st) (henv : ∀ x ∈ env, j5 S x) (hel : env.length ≤ 412 + st) (hr : cN p (n + 1) st e env S = .ok ((k, S'), t)) (hk : e.aQ = 10) :
  eH Tryz.prog 184 [.op nb 6 0 0, .ip 5 [e.c] 0 0, ints env] h fun r h' => r = I k ∧ cE (bH p inp) h0 nb S' h' := by
 rw [aA.aN]
 have hnode := (aA.cC _ _ _ _).1 hok
 have h3 : ¬ st = 3000 := by omega
 have hcap := hg.cap
 have hgcap := hg.m5
 have iY := hg.kJ (Nat.le_succ st)
 have hc := aLT hp hv hR hst hok c7 hf hg henv hel hr (Or.inl hk)
 rw [aA.aN, hk] at hc
 refine gG 183 nN v7 v8 mix Tryz.func184 rfl (by kernel_rfl) (by simp) ?_
 simp -dsimp -implicitDefEqProofs only [go_sem, ↓reduceIte, Tryz.f184, hk]
 refine aG.fF hc ?_
 rintro r h' ⟨rfl, k5⟩
 simp -dsimp -implicitDefEqProofs only [go_sem, ↓reduceIte, Tryz.f184]
 exact ⟨_, _, aV _ _, rfl, k5⟩
theorem aU8 {p : aC} (hp : p.ok) {inp : Int} {n : Nat} (hv : nO p inp n) {h0 h : aB} {nb st : Nat} {e : aA} {env : List Int} {S : b5} {funcs : Int} {k : Int} {S' : b5} {t : Nat} (hR : cE (bH p inp) h0 nb S h) (hst : st < 3000)
  (hok : e.ok p funcs env.length) (c7 : 0 ≤ funcs) (hf : funcs ≤ p.aJ.length) (hg : Good inp S st) (henv : ∀ x ∈ env, j5 S x) (hel : env.length ≤ 412 + st) (hr : cN p (n + 1) st e env S = .ok ((k, S'), t)) (hk : e.aQ = 11) :
  eH Tryz.prog 184 [.op nb 6 0 0, .ip 5 [e.c] 0 0, ints env] h fun r h' => r = I k ∧ cE (bH p inp) h0 nb S' h' := by
 rw [aA.aN]
 have hnode := (aA.cC _ _ _ _).1 hok
 have h3 : ¬ st = 3000 := by omega
 have hcap := hg.cap
 have hgcap := hg.m5
 have iY := hg.kJ (Nat.le_succ st)
 have hc := aLT hp hv hR hst hok c7 hf hg henv hel hr (Or.inr hk)
 rw [aA.aN, hk] at hc
 refine gG 183 nN v7 v8 mix Tryz.func184 rfl (by kernel_rfl) (by simp) ?_
 simp -dsimp -implicitDefEqProofs only [go_sem, ↓reduceIte, Tryz.f184, hk]
 refine aG.fF hc ?_
 rintro r h' ⟨rfl, k5⟩
 simp -dsimp -implicitDefEqProofs only [go_sem, ↓reduceIte, Tryz.f184]
 exact ⟨_, _, aV _ _, rfl, k5⟩
theorem a0U {p : aC} (hp : p.ok) {inp : Int} : ∀ n, nO p inp n
 |0 => fun h0 h nb st e env S funcs k S' t hR hst hok c7 hf hg henv hel hr => by rw [cN] at hr; cases hr
 |n + 1 => fun h0 h nb st e env S funcs k S' t hR hst hok c7 hf hg henv hel hr => by
  have hv := a0U hp (inp := inp) n
  by_cases h3 : st = 3000
  ·rw [cN, if_pos h3] at hr; cases hr
  have h3' : st < 3000 := by omega
  rcases oE ((aA.cC _ _ _ _).1 hok).1 with hk | hk | hk | hk | hk | hk | hk | hk | hk | hk | hk
  ·exact aYH hp hv hR h3' hok c7 hf hg henv hel hr hk
  ·exact aYI hp hv hR h3' hok c7 hf hg henv hel hr hk
  ·exact aYL hp hv hR h3' hok c7 hf hg henv hel hr hk
  ·exact aYM hp hv hR h3' hok c7 hf hg henv hel hr hk
  ·exact aYN hp hv hR h3' hok c7 hf hg henv hel hr hk
  ·exact aYO hp hv hR h3' hok c7 hf hg henv hel hr hk
  ·exact aYK hp hv hR h3' hok c7 hf hg henv hel hr hk
  ·exact aYP hp hv hR h3' hok c7 hf hg henv hel hr hk
  ·exact aYJ hp hv hR h3' hok c7 hf hg henv hel hr hk
  ·exact aU7 hp hv hR h3' hok c7 hf hg henv hel hr hk
  ·exact aU8 hp hv hR h3' hok c7 hf hg henv hel hr hk
end Go.Hl

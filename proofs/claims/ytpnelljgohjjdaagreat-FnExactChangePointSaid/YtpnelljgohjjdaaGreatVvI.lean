/-
  Contracts of functions and laws of the layer over the walk.
-/
import Derived.Test.YtpnelljgohjjdaaGreatVvH
import Derived.Test.YtpnelljgohjjdaaGreatVvC
import Derived.Test.YtpnelljgohjjdaaGreatVvE
import Derived.Test.YtpnelljgohjjdaaGreatVvA
namespace Go.Hl
set_option maxRecDepth 100000
open Go.Proofs
set_option linter.unusedVariables false
set_option linter.unusedSimpArgs false
theorem vL.bAW {bx : dV → Option Nat → Option Nat → Option Nat → bM} {h0 h F hh : aB} {nb : Nat} {inp : Int} {S : dV} {om og ov : Option Nat} (H : vL bx h0 nb S om og ov h) (l : List Int)
  (hF : ∀ n, some n = om ∨ some n = og → F n = h n) (hl : hh.le F) (hn : ∀ n, some n = om ∨ some n = og → hh n = none) :
  Shift (.agg [I inp, gV 4 S.code.length om, gV 2 S.guards.length og, ints l]) F (.agg [I inp, c5 4 cC.c S.code, c5 2 eS.c S.guards, ints l]) hh := by
 have hc := H.code
 have hg := H.gds
 have ap := H.apart
 cases om with
 |none =>
  have oB : S.code = [] := gY.1 hc
  cases og with
  |none =>
   have hg0 : S.guards = [] := gY.1 hg
   rw [oB, hg0]
   exact Shift.of (Sub.agg (.cons (.refl _) (.cons (Sub.nil _ _) (.cons (Sub.nil _ _) (.cons (.refl _) .nil))))) hl
  |some g =>
   have hgF := (hF g (.inr rfl)).trans hg.2
   rw [oB]
   refine Shift.trans (Shift.of (Sub.agg (.cons (.refl _) (.cons (Sub.nil 4 false) (.cons (.refl _) (.cons (.refl _) .nil))))) (aB.le_refl F)) ?_
   refine lP (n := g) (sz := 2) (S.guards.map eS.c) (hn g (.inr rfl)) ?_ (by simp [iK, iC, gV]) ?_
   ·intro q
    by_cases e : q = g
    ·subst e; right; rw [aU]; exact hgF.symm
    ·rw [aC _ _ _ _ e]; exact hl q
   ·simp [aD.fZ, nQ, gV, List.take_of_length_le]
 |some m =>
  have hmF := (hF m (.inl rfl)).trans hc.2
  cases og with
  |none =>
   have hg0 : S.guards = [] := gY.1 hg
   rw [hg0]
   refine Shift.trans (Shift.of (Sub.agg (.cons (.refl _) (.cons (.refl _) (.cons (Sub.nil 2 false) (.cons (.refl _) .nil))))) (aB.le_refl F)) ?_
   refine lP (n := m) (sz := 4) (S.code.map cC.c) (hn m (.inl rfl)) ?_ (by simp [iK, iC, gV]) ?_
   ·intro q
    by_cases e : q = m
    ·subst e; right; rw [aU]; exact hmF.symm
    ·rw [aC _ _ _ _ e]; exact hl q
   ·simp [aD.fZ, nQ, gV, List.take_of_length_le]
  |some g =>
   have hgF := (hF g (.inr rfl)).trans hg.2
   have hne : ¬ g = m := fun e => ((ap g).2.1 (by rw [e])).1 rfl
   refine Shift.trans (b := .agg [I inp, gV 4 S.code.length (some m), c5 2 eS.c S.guards, ints l]) (h2 := bK hh m (.row 4 (rowsOf cC.c S.code))) ?_ ?_
   ·refine lP (n := g) (sz := 2) (S.guards.map eS.c) (by rw [aC _ _ _ _ hne]; exact hn g (.inr rfl)) ?_ (by simp [iK, iC, gV]; exact fun e => hne e.symm) ?_
    ·intro q
     by_cases e : q = g
     ·subst e; right; rw [aU]; exact hgF.symm
     ·rw [aC _ _ _ _ e]
      by_cases e2 : q = m
      ·subst e2; right; rw [aU]; exact hmF.symm
      ·rw [aC _ _ _ _ e2]; exact hl q
    ·have hne' : ¬ m = g := fun e => hne e.symm
     simp [aD.fZ, nQ, gV, List.take_of_length_le, hne']
   ·refine lP (n := m) (sz := 4) (S.code.map cC.c) (hn m (.inl rfl)) (aB.le_refl _) (by simp [iK, iC, gV]) ?_
    simp [aD.fZ, nQ, gV, List.take_of_length_le]
@[go_sem] def a22 : List Nat := [0, 1, 2, 6, 7, 8, 9, 23]
@[go_sem] def bMP : List Nat := [19, 35]
@[go_sem] def bMQ : Marks := fun _ => ([], .nil, [])
theorem aSB {h0 : aB} {nb : Nat} (p : aI) (inp : Int) (hn : h0 nb = none) : dT (cR p inp) h0 nb ⟨[], [], []⟩ (bK h0 nb (cR p inp ⟨[], [], []⟩ none none none)) :=
 ⟨none, none, none, aU _ _ _, aR7 _ _, rfl, rfl, rfl, fun n h => (by rcases h with rfl | h | h | h; exact hn; cases h; cases h; cases h), fun n h1 _ _ _ => aC _ _ _ _ h1⟩
theorem aY8 {p : aI} (hp : p.ok) (f : Int) (hf : 0 ≤ f ∧ f < p.aH.length) (args : List Int) (ha : pB args) (bE5 : args.length ≤ 12) (hl : ∀ F, p.aH[f.toNat]? = some F → (args.length : Int) = F.bE) {l : List Int} {S' : dV} {t : Nat} (hr : aLY p f args = .ok ((l, S'), t)) :
  e8 Tryz.prog 82 [.ip 1 [p.c] 0 0, I f, ints args] (.agg (pL.c ⟨args.length, S'.code, S'.guards, l⟩)) := by
 obtain ⟨F, ef, hF1, hF2, hF3, hF4⟩ := aBC hp hf
 have hla := hl F ef
 simp only [aI.aN]
 refine tB 54 a22 bMP bMQ mix Tryz.func82 rfl (by kernel_rfl) (by simp) fun h => ?_
 simp -dsimp -implicitDefEqProofs only [go_sem, ↓reduceIte, Tryz.f82, ef, aV.aN]
 intro n6 z6
 try simp -dsimp -implicitDefEqProofs only [go_sem, ↓reduceIte, Tryz.f82, ef, aV.aN]
 refine fun nb ⟨hb6, zb⟩ _ => ⟨by decide, ?_⟩
 have mX : ¬ nb = n6 := hb6
 have p1 : ¬ n6 = nb := Ne.symm mX
 have lT : (nb = n6) = False := eq_false mX
 have lS : (n6 = nb) = False := eq_false p1
 rw [aF]
 generalize hh6 : bK h n6 (.row 4 [[.v (.int .i64 0), .v .bC, .v .bC, .v .bC]]) = h6
 have zb6 : h6 nb = none := by rw [← hh6, aC _ _ _ _ mX]; exact zb
 have hin := aSB (h0 := h6) p args.length zb6
 refine cS (keep := a22) (ib := bMP) (mk := bMQ) mix (by kernel_rfl) (fun x : Nat × aB × Option Nat => [(0, .ip 1 [[c5 3 aV.c p.aH]] 0 0), (1, I f), (2, ints args), (6, .op n6 4 0 0), (7, .op nb 6 0 0), (8, nO 1 x.1 x.2.2), (9, I x.1)]) (fun x => dD x.2.1 (.row 1 (((aE3 x.1).map fun n => [I n]).map (List.map .v))) x.2.2) (fun x => x.1 ≤ args.length ∧ dT (cR p args.length) h6 nb (zN args x.1) x.2.1 ∧ lQ x.2.1 (aE3 x.1) x.2.2) (fun x => args.length - x.1) (0, bK h6 nb (cR p args.length ⟨[], [], []⟩ none none none), none) ⟨by simp [dA, cH, nO], aB.le_refl _, Nat.zero_le _, hin, rfl⟩ ?_
 rintro ⟨k, g, o⟩ ⟨hk, hR, hos⟩
 simp only at hk hR hos ⊢
 have hel : (aE3 k).length = k := by simp [aE3]
 rcases Nat.lt_or_ge k args.length with hlt | hge
 ·have ek : args[k]? = some args[k] := List.getElem?_eq_getElem hlt
  have hsl : (zN args k).code.length = (zN args k).fS.length := by simp [zN]; omega
  have hvl : (zN args k).fS.length = k := by simp [zN]; omega
  have hy := aMR k
  cases o with
  |none =>
   rw [dB] at hos
   have k0 : k = 0 := by rw [← hel, hos]; rfl
   subst k0
   simp -dsimp -implicitDefEqProofs only [go_sem, ↓reduceIte, Tryz.f82, dN, aK, hlt, ek]
   refine fun _ => aJ.iF (aA5 hR ⟨1, 0, 0, ((0 : Nat) : Int)⟩ args[0] hsl (by omega)) ?_
   rintro r h' ⟨rfl, nL⟩
   simp -dsimp -implicitDefEqProofs only [go_sem, ↓reduceIte, Tryz.f82]
   refine ⟨Nat.zero_lt_one, Nat.zero_lt_one, Nat.zero_lt_one, fun b kU => ⟨(1, h', some b), ⟨rfl, by rw [IntWalk.i64_in _ (by omega)]; rfl⟩, ?_, ⟨hlt, by rw [aBJ hlt]; exact nL, kU⟩, by simp only; omega⟩⟩
   rw [hvl]
   exact aB.le_refl _
  |some m =>
   rw [cQ] at hos
   simp -dsimp -implicitDefEqProofs only [go_sem, ↓reduceIte, Tryz.f82, cI, aG, hlt, ek]
   refine fun _ => aJ.iF (aA5 (hR.wO hos) ⟨1, 0, 0, (k : Int)⟩ args[k] hsl (by omega)) ?_
   rintro r h' ⟨rfl, nL⟩
   obtain ⟨g2, rfl, hg2, nL⟩ := nL.base (hR.none hos)
   simp -dsimp -implicitDefEqProofs only [go_sem, ↓reduceIte, Tryz.f82]
   refine ⟨Nat.zero_lt_one, Nat.zero_lt_one, Nat.zero_lt_one, Nat.le_of_eq hel.symm, by omega, by omega, fun b ⟨hbm, kU⟩ => ⟨(k + 1, g2, some b), ⟨rfl, by rw [IntWalk.i64_in _ (by omega)]; rfl⟩, ?_, ⟨hlt, by rw [aBJ hlt]; exact nL, kU⟩, by simp only; omega⟩⟩
   simp only [aG]
   rw [hvl, hy, ← jN (fun n => I n), hel]
   exact qA hg2
 ·have hk' : k = args.length := by omega
  subst hk'
  rw [aR2] at hR
  have hg0 := aKO args ha bE5
  have hie : aE3 args.length = inE args := rfl
  have hr' : mE (fun t e S => eT p 3001 t e (inE args) S) F.aZ 0 (inS args) = .ok ((l, S'), t) := by rw [← hF3]; exact hr
  have hall : ∀ {h0 g : aB}, dT (cR p args.length) h0 nb (inS args) g → fO Tryz.prog 103 [.op nb 6 0 0, .ip 3 (p.aH.map aV.c) f.toNat 0, ints (inE args)] g (fun r h' => r = ints l ∧ dT (cR p args.length) h0 nb S' h') := fun hR =>
   fO.sub (.cons (.refl _) (.cons (Sub.ip (by rw [List.getElem?_map, ef]; rfl) (by simp)) (.cons (.refl _) .nil))) (aR9 hp (bAV hp 3001) _ _ nb 0 F (inE args) (inS args) f l S' t hR (by omega) (by omega) (fun x hx => by rw [← hie, hel, hla]; exact hF4 x hx) hf.1 (by omega) hg0 (aUV args) (by rw [← hie, hel]; omega) hr')
  cases o with
  |none =>
   rw [dB, hie] at hos
   simp -dsimp -implicitDefEqProofs only [go_sem, ↓reduceIte, Tryz.f82, dN, aK, Nat.lt_irrefl, Int.lt_irrefl, ef, aV.aN]
   refine fun _ => ⟨hf.1, hf.2, aJ.iF (fO.sub (.cons (.refl _) (.cons (.refl _) (.cons (by rw [hos]; exact Sub.loose _ _ _) .nil))) (hall hR)) ?_⟩
   rintro r h2 ⟨rfl, om, og, ov, H2⟩
   have kU := H2.box
   unfold cR at kU
   have hz := H2.keep (n := n6) (by rw [← hh6, aU])
   have hz1 := hz.1
   simp -dsimp -implicitDefEqProofs only [go_sem, ↓reduceIte, Tryz.f82, kU, hz1, lT, lS, aC]
   generalize hE : h2 = h2H at *
   have hle : h.le h2H := by
    have h1 := H2.le
    rw [← hh6] at h1
    intro q
    by_cases e : q = n6
    ·subst e; exact .inl z6
    ·have := h1 q
     rwa [aC _ _ _ _ e] at this
   have hfr : ∀ n, some n = om ∨ some n = og → h n = none ∧ ¬ n = n6 ∧ ¬ n = nb := fun n hn => by
    have h1 := H2.fresh n (by rcases hn with hn | hn; exact .inr (.inl hn); exact .inr (.inr (.inl hn)))
    have h3 : ¬ n = n6 := fun e => by rw [← hh6, e, aU] at h1; cases h1
    refine ⟨by rwa [← hh6, aC _ _ _ _ h3] at h1, h3, fun e => ?_⟩
    rcases hn with hn | hn
    ·exact ((H2.apart n).1 e).1 hn
    ·exact ((H2.apart n).1 e).2.1 hn
   refine ⟨by rw [eY, eY]; rfl, ?_⟩
   rw [pL.aN]
   refine H2.bAW l (fun n hn => ?_) (aB.bD z6 (aB.bD zb (hle))) (fun n hn => (hfr n hn).1)
   obtain ⟨v1, v2, v3⟩ := hfr n hn
   rw [aC _ _ _ _ v2, aC _ _ _ _ v3]
  |some m =>
   rw [cQ] at hos
   simp -dsimp -implicitDefEqProofs only [go_sem, ↓reduceIte, Tryz.f82, cI, aG, Nat.lt_irrefl, Int.lt_irrefl, ef, aV.aN]
   have dR : ¬ nb = m := fun e => by obtain ⟨_, _, _, H1⟩ := hR; have := H1.box; rw [e, hos] at this; cases this
   have eJ : ¬ m = nb := Ne.symm dR
   have eH : (nb = m) = False := eq_false dR
   have eG : (m = nb) = False := eq_false eJ
   refine fun _ => ⟨hf.1, hf.2, aJ.aHH rfl rfl dR (by rw [List.length_map]; exact hel.symm) hos ?_⟩
   refine fO.mono (hall (hR.wO (o := .gone) hos)) ?_
   rintro r h2 ⟨rfl, nL⟩
   obtain ⟨g3, rfl, hg3, ⟨om, og, ov, H2⟩⟩ := nL.base (hR.none hos)
   have kU := H2.box
   unfold cR at kU
   have hz := H2.keep (n := n6) (by rw [← hh6, aU])
   have hz1 := hz.1
   have aDJ : ¬ n6 = m := fun e => by rw [e, hg3] at hz1; cases hz1
   have aU2 : ¬ m = n6 := Ne.symm aDJ
   have aU3 : (n6 = m) = False := eq_false aDJ
   have aU4 : (m = n6) = False := eq_false aU2
   simp -dsimp -implicitDefEqProofs only [go_sem, ↓reduceIte, Tryz.f82, kU, hz1, lT, eH, lS, aU3, eG, aU4, aC]
   have hgo : ∀ n, some n = om ∨ some n = og → ¬ n = m := fun n hn e => by
    have := (H2.apart n).2.2.2 (by rw [e]; exact hg3)
    rcases hn with hn | hn
    ·exact this.2.1 hn
    ·exact this.2.2.1 hn
   have hhm : h m = none := by
    have h1 := hR.none hos
    rw [← hh6, aC _ _ _ _ (fun e => aDJ e.symm)] at h1
    exact h1
   generalize hE : g3 = h2H at *
   have hle : h.le h2H := by
    have h1 := H2.le
    rw [← hh6] at h1
    intro q
    by_cases e : q = n6
    ·subst e; exact .inl z6
    ·have := h1 q
     rwa [aC _ _ _ _ e] at this
   have hfr : ∀ n, some n = om ∨ some n = og → h n = none ∧ ¬ n = n6 ∧ ¬ n = nb := fun n hn => by
    have h1 := H2.fresh n (by rcases hn with hn | hn; exact .inr (.inl hn); exact .inr (.inr (.inl hn)))
    have h3 : ¬ n = n6 := fun e => by rw [← hh6, e, aU] at h1; cases h1
    refine ⟨by rwa [← hh6, aC _ _ _ _ h3] at h1, h3, fun e => ?_⟩
    rcases hn with hn | hn
    ·exact ((H2.apart n).1 e).1 hn
    ·exact ((H2.apart n).1 e).2.1 hn
   refine ⟨by rw [eY, eY]; rfl, ?_⟩
   rw [pL.aN]
   refine H2.bAW l (fun n hn => ?_) (aB.bD z6 (aB.bD zb (aB.bD hhm hle))) (fun n hn => (hfr n hn).1)
   obtain ⟨v1, v2, v3⟩ := hfr n hn
   rw [aC _ _ _ _ v2, aC _ _ _ _ v3, aC _ _ _ _ (hgo n hn)]
open Go.Proofs
set_option linter.unusedVariables false
set_option linter.unusedSimpArgs false
def aGO (a b : List Int) (out : List Bool) (c : cC) : Bool := if c.sC = 1 then decide (c.bQ < a.length ∧ ¬ a.getD c.bQ.toNat 0 = b.getD c.bQ.toNat 0) else if c.sC = 2 then false else if c.sC = 7 then out.getD c.fA.toNat false else (out.getD c.fA.toNat false || out.getD c.fB.toNat false)
def s4 (a b : List Int) (code : List cC) : Nat → List Bool
 |0 => []
 |k + 1 => s4 a b code k ++ [aGO a b (s4 a b code k) (code.getD k ⟨0, 0, 0, 0⟩)]
theorem xI (a b : List Int) (code : List cC) : ∀ k, (s4 a b code k).length = k
 |0 => rfl
 |k + 1 => by rw [s4, List.length_append, xI a b code k]; rfl
theorem aE6 (a b : List Int) (code : List cC) {r k : Nat} (hr : r < k) : ∀ n, k ≤ n → (s4 a b code n).getD r false = (s4 a b code k).getD r false
 |0, h => by omega
 |n + 1, h => by
  rcases Nat.lt_or_ge n k with h1 | h1
  ·have : k = n + 1 := by omega
   rw [this]
  ·rw [← aE6 a b code hr n h1, s4, List.getD_eq_getElem?_getD, List.getElem?_append_left (by rw [xI]; omega), List.getD_eq_getElem?_getD]
theorem a72 (a b : List Int) (code : List cC) {k n : Nat} (h : k < n) : (s4 a b code n).getD k false = aGO a b (s4 a b code k) (code.getD k ⟨0, 0, 0, 0⟩) := by
 rw [aE6 a b code (Nat.lt_succ_self k) n h, s4, List.getD_eq_getElem?_getD, List.getElem?_append_right (by rw [xI]; exact Nat.le_refl _), xI, Nat.sub_self]; rfl
def a73 (a b : List Int) (c : cC) : Prop := c.sC = 1 ∧ c.bQ < a.length ∧ ¬ a.getD c.bQ.toNat 0 = b.getD c.bQ.toNat 0
theorem a23 {a b : List Int} {out : List Bool} {inp : Int} {i : Nat} {c : cC} (h : gL inp i c) : aGO a b out c = true ↔ a73 a b c ∨ ∃ x ∈ opsOf c, out.getD x.toNat false = true := by
 unfold aGO a73 opsOf
 unfold gL at h
 by_cases h1 : c.sC = 1
 ·rw [if_pos h1, if_neg (by omega), if_neg (by omega)]; simp [h1]
 rw [if_neg h1]
 by_cases h2 : c.sC = 2
 ·rw [if_pos h2, if_neg (by omega), if_neg (by omega)]; simp [h1]
 rw [if_neg h2]
 by_cases h7 : c.sC = 7
 ·rw [if_pos h7, if_neg (by omega), if_pos h7]; simp [h1]
 ·rw [if_neg h7, if_pos (by omega)]; simp [h1]
theorem aGP (b : List Bool) (i : Nat) (v : Bool) (r : Nat) (hi : i < b.length) : (b.set i v).getD r false = if i = r then v else b.getD r false := by
 rw [List.getD_eq_getElem?_getD, List.getElem?_set]
 by_cases e : i = r
 ·subst e; rw [if_pos rfl, if_pos rfl, if_pos hi]; rfl
 ·rw [if_neg e, if_neg e, List.getD_eq_getElem?_getD]
theorem aMZ (r : Nat) : ∀ (l : List Int) (b : List Bool), (∀ x ∈ l, 0 ≤ x ∧ x < b.length) → ((vG l b).getD r false = true ↔ b.getD r false = true ∨ (r : Int) ∈ l)
 | [], b, _ => by simp [vG]
 |x :: l, b, h => by
  have hx := h x List.mem_cons_self
  rw [show vG (x :: l) b = vG l (b.set x.toNat true) from rfl, aMZ r l _ (fun y hy => by rw [List.length_set]; exact h y (List.mem_cons_of_mem _ hy)), aGP _ _ _ _ (by omega), List.mem_cons]
  by_cases e : x.toNat = r
  ·rw [if_pos e]; simp [show (r : Int) = x by omega]
  ·rw [if_neg e]; simp [show ¬ (r : Int) = x by omega]
theorem aM0 (k r : Nat) : ∀ (l : List Int) (b : List Bool), (∀ x ∈ l, 0 ≤ x ∧ x < (k : Int)) → k < b.length → ((sM k l b).getD r false = true ↔ b.getD r false = true ∨ ((r : Int) ∈ l ∧ b.getD k false = true))
 | [], b, _, _ => by simp [sM]
 |x :: l, b, h, hk => by
  have hx := h x List.mem_cons_self
  rw [show sM k (x :: l) b = sM k l (b.set x.toNat (b.getD x.toNat false || b.getD k false)) from rfl, aM0 k r l _ (fun y hy => h y (List.mem_cons_of_mem _ hy)) (by rw [List.length_set]; exact hk), aGP _ _ _ _ (by omega), aGP _ _ _ _ (by omega), List.mem_cons, if_neg (show ¬ x.toNat = k by omega)]
  by_cases e : x.toNat = r
  ·rw [if_pos e]
   subst e
   simp [show ((x.toNat : Nat) : Int) = x by omega]
   exact fun _ h => .inr h
  ·rw [if_neg e]; simp [show ¬ (r : Int) = x by omega]
def a74 (a b : List Int) (code : List cC) (k : Nat) (v : List Bool) : Prop := (∃ r c, k ≤ r ∧ code[r]? = some c ∧ v.getD r false = true ∧ a73 a b c) ∨ ∃ r, r < k ∧ v.getD r false = true ∧ (s4 a b code code.length).getD r false = true
theorem aY9 {a b : List Int} {code : List cC} {inp : Int} (hi : ∀ i c, code[i]? = some c → gL inp i c) {k : Nat} (hk : k < code.length) {v : List Bool} (hv : v.length = code.length) : a74 a b code (k + 1) v ↔ a74 a b code k (sM k (aR3 code k) v) := by
 have ek : code[k]? = some code[k] := List.getElem?_eq_getElem hk
 have hok := hi k _ ek
 have hlt := a2V hok
 have hg : ∀ r, (sM k (aR3 code k) v).getD r false = true ↔ v.getD r false = true ∨ ((r : Int) ∈ opsOf code[k] ∧ v.getD k false = true) := fun r => by
  rw [aR4 hk]; exact aM0 k r _ _ hlt (by omega)
 have hm : (s4 a b code code.length).getD k false = true ↔ a73 a b code[k] ∨ ∃ x ∈ opsOf code[k], (s4 a b code code.length).getD x.toNat false = true := by
  rw [a72 a b code hk, show code.getD k ⟨0, 0, 0, 0⟩ = code[k] by rw [List.getD_eq_getElem?_getD, ek]; rfl, a23 hok]
  refine or_congr Iff.rfl ⟨?_, ?_⟩
  ·rintro ⟨x, hx, e⟩
   exact ⟨x, hx, by rw [aE6 a b code (k := k) (by have := hlt x hx; omega) _ (by omega)]; exact e⟩
  ·rintro ⟨x, hx, e⟩
   exact ⟨x, hx, by rwa [aE6 a b code (k := k) (by have := hlt x hx; omega) _ (by omega)] at e⟩
 constructor
 ·rintro (⟨r, c, h1, h2, h3, h4⟩ | ⟨r, h1, h2, h3⟩)
  ·exact .inl ⟨r, c, by omega, h2, (hg r).2 (.inl h3), h4⟩
  ·rcases Nat.lt_or_ge r k with h5 | h5
   ·exact .inr ⟨r, h5, (hg r).2 (.inl h2), h3⟩
   ·obtain rfl : r = k := by omega
    rcases hm.1 h3 with h6 | ⟨x, hx, h6⟩
    ·exact .inl ⟨r, _, Nat.le_refl _, ek, (hg r).2 (.inl h2), h6⟩
    ·have := hlt x hx
     exact .inr ⟨x.toNat, by omega, (hg _).2 (.inr ⟨by rw [show ((x.toNat : Nat) : Int) = x by omega]; exact hx, h2⟩), h6⟩
 ·rintro (⟨r, c, h1, h2, h3, h4⟩ | ⟨r, h1, h2, h3⟩)
  ·have h5 : v.getD r false = true := by
    rcases (hg r).1 h3 with h | ⟨h, _⟩
    ·exact h
    ·have := hlt _ h; omega
   rcases Nat.lt_or_ge k r with h6 | h6
   ·exact .inl ⟨r, c, by omega, h2, h5, h4⟩
   ·obtain rfl : r = k := by omega
    rw [ek] at h2
    obtain rfl := Option.some.inj h2
    exact .inr ⟨r, by omega, h5, hm.2 (.inl h4)⟩
  ·rcases (hg r).1 h2 with h | ⟨h, h5⟩
   ·exact .inr ⟨r, by omega, h, h3⟩
   ·exact .inr ⟨k, by omega, h5, hm.2 (.inr ⟨_, h, by rw [Int.toNat_natCast]; exact h3⟩)⟩
theorem aK2 {a b : List Int} {code : List cC} {inp : Int} (hi : ∀ i c, code[i]? = some c → gL inp i c) : ∀ (k : Nat) (v : List Bool), k ≤ code.length → v.length = code.length → (a74 a b code k v ↔ a74 a b code 0 (aE4 code k v))
 |0, v, _, _ => Iff.rfl
 |k + 1, v, hk, hv => by
  rw [aY9 hi hk hv, aE4]
  exact aK2 hi k _ (by omega) (by rw [aGJ]; exact hv)
theorem a75 {t : pL} {sh : Int} {a b : List Int} (ha : (a.length : Int) = sh) {inp : Int} (hi : ∀ i c, t.cM[i]? = some c → gL inp i c) (he : ∀ x ∈ oW t, 0 ≤ x ∧ x < (t.cM.length : Int)) :
  (∃ r, vH t sh a b r) ↔ ∃ e ∈ oW t, (s4 a b t.cM t.cM.length).getD e.toNat false = true := by
 have h := aK2 (a := a) (b := b) hi t.cM.length (vG (oW t) (List.replicate t.cM.length false)) (Nat.le_refl _) (by rw [aGI, List.length_replicate])
 have hm : ∀ r, (vG (oW t) (List.replicate t.cM.length false)).getD r false = true ↔ (r : Int) ∈ oW t := fun r => by
  rw [aMZ r _ _ (fun x hx => by rw [List.length_replicate]; exact he x hx)]
  constructor
  ·rintro (h | h)
   ·rw [List.getD_eq_getElem?_getD, List.getElem?_replicate] at h; split at h <;> cases h
   ·exact h
  ·exact .inr
 constructor
 ·rintro ⟨r, h1, c, h2, h3, h4, h5⟩
  rcases h.2 (.inl ⟨r, c, Nat.zero_le _, h2, by rw [List.getD_eq_getElem?_getD]; show (sN t.cM (oW t))[r]?.getD false = true; rw [h1]; rfl, h3, by omega, h5⟩) with ⟨r2, c2, h6, h7, _⟩ | ⟨r2, h6, h7, h8⟩
  ·have := (List.getElem?_eq_some_iff.1 h7).1; omega
  ·exact ⟨r2, (hm r2).1 h7, by rw [Int.toNat_natCast]; exact h8⟩
 ·rintro ⟨e, h1, h2⟩
  have := he e h1
  rcases h.1 (.inr ⟨e.toNat, by omega, (hm _).2 (by rw [show ((e.toNat : Nat) : Int) = e by omega]; exact h1), h2⟩) with ⟨r2, c2, h6, h7, h8, h9, h10, h11⟩ | ⟨r2, h6, _⟩
  ·refine ⟨r2, ?_, c2, h7, h9, by omega, h11⟩
   have hl := (List.getElem?_eq_some_iff.1 h7).1
   have h12 : (sN t.cM (oW t)).getD r2 false = true := h8
   rw [aPN (b := sN t.cM (oW t)) (k := r2) (by rw [aMT]; exact hl), h12]
  ·omega
set_option maxRecDepth 100000
open Go.Proofs
set_option linter.unusedVariables false
set_option linter.unusedSimpArgs false
theorem uK (l : List Bool) (x : Bool) : y9 (l ++ [x]) = .row 1 (((l.map fun x => [aD.bool x]).map (List.map Cell.v)) ++ [[.v (.bool x)]]) := by simp [y9]
theorem aPT {a b : List Int} {out : List Bool} {c : cC} (h : c.sC = 1) : aGO a b out c = decide (c.bQ < a.length ∧ ¬ a.getD c.bQ.toNat 0 = b.getD c.bQ.toNat 0) := if_pos h
theorem a24 {a b : List Int} {out : List Bool} {c : cC} (h : c.sC = 2) : aGO a b out c = false := by rw [aGO, if_neg (by omega), if_pos h]
theorem bFD {a b : List Int} {out : List Bool} {c : cC} (h : c.sC = 7) : aGO a b out c = out.getD c.fA.toNat false := by rw [aGO, if_neg (by omega), if_neg (by omega), if_pos h]
theorem aXS {a b : List Int} {out : List Bool} {c : cC} (h1 : ¬ c.sC = 1) (h2 : ¬ c.sC = 2) (h7 : ¬ c.sC = 7) : aGO a b out c = (out.getD c.fA.toNat false || out.getD c.fB.toNat false) := by rw [aGO, if_neg h1, if_neg h2, if_neg h7]
@[go_sem] def a25 : List Nat := [0, 1, 2, 6, 7, 8, 9, 17, 28, 44, 67, 72]
@[go_sem] def bMR : List Nat := [10, 42, 65, 70, 80]
@[go_sem] def bMS : Marks := fun id => match id with | 9 => ([2, 9, 14, 20], (.op 0 (.op 1 (.op 3 (.op 4 (.op 2 (.op 5 (.op 6 (.op 7 (.op 8 (.op 12 (.op 13 (.op 9 (.op 10 (.op 11 (.op 14 (.op 15 (.op 16 (.op 17 (.op 18 (.op 19 (.op 20 (.op 21 .nil)))))))))))))))))))))), []) | _ => ([], .nil, [])
theorem a26 (t : pL) (a b : List Int) {inp : Int} (hc : t.cM.length ≤ 1048576) (hab : a.length = b.length) (hi : ∀ i c, t.cM[i]? = some c → gL inp i c) {h : aB} {nb : Nat} (hnb : h nb = some (.row 4 [t.c.map .v])) : fO Tryz.prog 83 [.op nb 4 0 0, ints a, ints b] h fun r h' => r = c5 1 (fun b => [.bool b]) (s4 a b t.cM t.cM.length) ∧ h' = h := by
 rw [pL.aN] at hnb
 simp only [List.map_cons, List.map_nil] at hnb
 refine kO 83 a25 bMR bMS mix Tryz.func83 rfl (by kernel_rfl) (by simp) ?_
 simp -dsimp -implicitDefEqProofs only [go_sem, ↓reduceIte, Tryz.f83, hnb]
 refine ⟨by decide, ?_⟩
 refine cS (keep := a25) (ib := bMR) (mk := bMS) mix (by kernel_rfl) (fun x : Nat × Option Nat => [(0, .op nb 4 0 0), (1, ints a), (2, ints b), (7, nO 1 x.1 x.2), (8, I x.1)]) (fun x => dD h (y9 (s4 a b t.cM x.1)) x.2) (fun x => x.1 ≤ t.cM.length ∧ lQ h (s4 a b t.cM x.1) x.2) (fun x => t.cM.length - x.1) (0, none) ⟨by simp [dA, cH, nO], aB.le_refl _, Nat.zero_le _, rfl⟩ ?_
 rintro ⟨k, o⟩ ⟨hk, hos⟩
 simp only at hk hos ⊢
 have hml := xI a b t.cM k
 rcases Nat.lt_or_ge k t.cM.length with hlt | hge
 ·have ek : t.cM[k]? = some t.cM[k] := List.getElem?_eq_getElem hlt
  have hins := hi k _ ek
  have hst : s4 a b t.cM (k + 1) = s4 a b t.cM k ++ [aGO a b (s4 a b t.cM k) t.cM[k]] := by
   rw [s4, show t.cM.getD k ⟨0, 0, 0, 0⟩ = t.cM[k] by rw [List.getD_eq_getElem?_getD, ek]; rfl]
  generalize hM : s4 a b t.cM k = M at *
  have hnext : ∀ (g : aB) (n1 : Nat), h n1 = none → (bK h n1 (y9 (M ++ [aGO a b M t.cM[k]]))).le g → ∃ x' : Nat × Option Nat, (.os n1 1 0 (k + 1) = nO 1 x'.1 x'.2 ∧ IntKind.i64.wrap ((k : Int) + 1) = (x'.1 : Int)) ∧ (dD h (y9 (s4 a b t.cM x'.1)) x'.2).le g ∧ (x'.1 ≤ t.cM.length ∧ lQ h (s4 a b t.cM x'.1) x'.2) ∧ t.cM.length - x'.1 < t.cM.length - k := fun g n1 h1 h2 =>
   ⟨(k + 1, some n1), ⟨rfl, by rw [IntWalk.i64_in _ (by omega)]; rfl⟩, by simp only [aG]; rw [hst]; exact h2, ⟨hlt, h1⟩, by simp only; omega⟩
  cases o with
  |none =>
   rw [dB] at hos
   have k0 : k = 0 := by rw [← hml, hos]; rfl
   subst k0
   subst hos
   rcases (show t.cM[0].sC = 1 ∨ t.cM[0].sC = 2 by unfold gL at hins; omega) with h1 | h1
   ·by_cases hn : t.cM[0].bQ < a.length
    ·have pa : a[t.cM[0].bQ.toNat]? = some (a.getD t.cM[0].bQ.toNat 0) := eZ (by unfold gL at hins; omega)
     have pb : b[t.cM[0].bQ.toNat]? = some (b.getD t.cM[0].bQ.toNat 0) := eZ (by unfold gL at hins; omega)
     simp -dsimp -implicitDefEqProofs only [go_sem, ↓reduceIte, Tryz.f83, dN, aK, hnb, hlt, ek, cC.aN, h1, hn, pa, pb]
     have n0 : 0 ≤ t.cM[0].bQ := by unfold gL at hins; omega
     refine fun _ n zn => ⟨n0, n0, by omega, Nat.zero_lt_one, Nat.zero_lt_one, Nat.zero_lt_one, fun n1 ⟨d1, _, z1⟩ => hnext _ n1 z1 ?_⟩
     rw [aPT h1, Bool.decide_and, decide_eq_true hn, Bool.true_and, decide_not]
     exact aB.fT (aB.bD zn (aB.bD zn (aB.le_refl _)))
    ·simp -dsimp -implicitDefEqProofs only [go_sem, ↓reduceIte, Tryz.f83, dN, aK, hnb, hlt, ek, cC.aN, h1, hn]
     refine fun _ n zn => ⟨Nat.zero_lt_one, Nat.zero_lt_one, Nat.zero_lt_one, fun n1 ⟨d1, _, z1⟩ => hnext _ n1 z1 ?_⟩
     rw [aPT h1, Bool.decide_and, decide_eq_false hn, Bool.false_and]
     exact aB.fT (aB.bD zn (aB.bD zn (aB.le_refl _)))
   ·simp -dsimp -implicitDefEqProofs only [go_sem, ↓reduceIte, Tryz.f83, dN, aK, hnb, hlt, ek, cC.aN, h1]
    refine fun _ n zn => ⟨Nat.zero_lt_one, Nat.zero_lt_one, Nat.zero_lt_one, fun n1 ⟨d1, _, z1⟩ => hnext _ n1 z1 ?_⟩
    rw [a24 h1]
    exact aB.fT (aB.bD zn (aB.bD zn (aB.le_refl _)))
  |some m =>
   rw [cQ] at hos
   by_cases h1 : t.cM[k].sC = 1
   ·by_cases hn : t.cM[k].bQ < a.length
    ·have pa : a[t.cM[k].bQ.toNat]? = some (a.getD t.cM[k].bQ.toNat 0) := eZ (by unfold gL at hins; omega)
     have pb : b[t.cM[k].bQ.toNat]? = some (b.getD t.cM[k].bQ.toNat 0) := eZ (by unfold gL at hins; omega)
     have n0 : 0 ≤ t.cM[k].bQ := by unfold gL at hins; omega
     unfold y9
     have dR : ¬ nb = m := fun q => by rw [q, hos] at hnb; cases hnb
     have eJ : ¬ m = nb := Ne.symm dR
     have eH : (nb = m) = False := eq_false dR
     have eG : (m = nb) = False := eq_false eJ
     simp -dsimp -implicitDefEqProofs only [go_sem, ↓reduceIte, Tryz.f83, cI, aG, hnb, eH, eG, aC, hlt, ek, cC.aN, h1, hn, pa, pb]
     refine fun _ n ⟨dn, zn⟩ => ?_
     have wC : ¬ n = m := dn
     have aE7 : ¬ m = n := Ne.symm wC
     have aE8 : (n = m) = False := eq_false wC
     have aE9 : (m = n) = False := eq_false aE7
     simp -dsimp -implicitDefEqProofs only [go_sem, ↓reduceIte, Tryz.f83, aE8, aE9, aC, h1, hn, pa, pb]
     refine ⟨n0, n0, by omega, Nat.zero_lt_one, Nat.zero_lt_one, Nat.zero_lt_one, by omega, by omega, by omega, fun b1 ⟨d1, _, dm, z1⟩ => hnext _ b1 z1 ?_⟩
     rw [uK, aPT h1, Bool.decide_and, decide_eq_true hn, Bool.true_and, decide_not, List.take_of_length_le (by simp; omega)]
     exact aB.fT (aB.bD hos (aB.bD zn (aB.bD zn (aB.bD hos (aB.le_refl _)))))
    ·unfold y9
     have dR : ¬ nb = m := fun q => by rw [q, hos] at hnb; cases hnb
     have eJ : ¬ m = nb := Ne.symm dR
     have eH : (nb = m) = False := eq_false dR
     have eG : (m = nb) = False := eq_false eJ
     simp -dsimp -implicitDefEqProofs only [go_sem, ↓reduceIte, Tryz.f83, cI, aG, hnb, eH, eG, aC, hlt, ek, cC.aN, h1, hn]
     refine fun _ n ⟨dn, zn⟩ => ?_
     have wC : ¬ n = m := dn
     have aE7 : ¬ m = n := Ne.symm wC
     have aE8 : (n = m) = False := eq_false wC
     have aE9 : (m = n) = False := eq_false aE7
     simp -dsimp -implicitDefEqProofs only [go_sem, ↓reduceIte, Tryz.f83, aE8, aE9, aC, h1, hn]
     refine ⟨Nat.zero_lt_one, Nat.zero_lt_one, Nat.zero_lt_one, by omega, by omega, by omega, fun b1 ⟨d1, _, dm, z1⟩ => hnext _ b1 z1 ?_⟩
     rw [uK, aPT h1, Bool.decide_and, decide_eq_false hn, Bool.false_and, List.take_of_length_le (by simp; omega)]
     exact aB.fT (aB.bD hos (aB.bD zn (aB.bD zn (aB.bD hos (aB.le_refl _)))))
   by_cases h2 : t.cM[k].sC = 2
   ·unfold y9
    have dR : ¬ nb = m := fun q => by rw [q, hos] at hnb; cases hnb
    have eJ : ¬ m = nb := Ne.symm dR
    have eH : (nb = m) = False := eq_false dR
    have eG : (m = nb) = False := eq_false eJ
    simp -dsimp -implicitDefEqProofs only [go_sem, ↓reduceIte, Tryz.f83, cI, aG, hnb, eH, eG, aC, hlt, ek, cC.aN, h2]
    refine fun _ n ⟨dn, zn⟩ => ?_
    have wC : ¬ n = m := dn
    have aE7 : ¬ m = n := Ne.symm wC
    have aE8 : (n = m) = False := eq_false wC
    have aE9 : (m = n) = False := eq_false aE7
    simp -dsimp -implicitDefEqProofs only [go_sem, ↓reduceIte, Tryz.f83, aE8, aE9, aC, h2]
    refine ⟨Nat.zero_lt_one, Nat.zero_lt_one, Nat.zero_lt_one, by omega, by omega, by omega, fun b1 ⟨d1, _, dm, z1⟩ => hnext _ b1 z1 ?_⟩
    rw [uK, a24 h2, List.take_of_length_le (by simp; omega)]
    exact aB.fT (aB.bD hos (aB.bD zn (aB.bD zn (aB.bD hos (aB.le_refl _)))))
   have n0 : 0 ≤ t.cM[k].fA ∧ t.cM[k].fA < k := by unfold gL at hins; omega
   have ga := aPN (b := M) (k := t.cM[k].fA.toNat) (by omega)
   by_cases h7 : t.cM[k].sC = 7
   ·unfold y9
    have dR : ¬ nb = m := fun q => by rw [q, hos] at hnb; cases hnb
    have eJ : ¬ m = nb := Ne.symm dR
    have eH : (nb = m) = False := eq_false dR
    have eG : (m = nb) = False := eq_false eJ
    simp -dsimp -implicitDefEqProofs only [go_sem, ↓reduceIte, Tryz.f83, cI, aG, hnb, eH, eG, aC, hlt, ek, cC.aN, h7, ga]
    refine fun _ n ⟨dn, zn⟩ => ?_
    have wC : ¬ n = m := dn
    have aE7 : ¬ m = n := Ne.symm wC
    have aE8 : (n = m) = False := eq_false wC
    have aE9 : (m = n) = False := eq_false aE7
    simp -dsimp -implicitDefEqProofs only [go_sem, ↓reduceIte, Tryz.f83, aE8, aE9, aC, h7, ga]
    refine ⟨n0.1, n0.2, Nat.zero_lt_one, Nat.zero_lt_one, Nat.zero_lt_one, by omega, by omega, by omega, fun b1 ⟨d1, _, dm, z1⟩ => hnext _ b1 z1 ?_⟩
    rw [uK, bFD h7, List.take_of_length_le (by simp; omega)]
    exact aB.fT (aB.bD hos (aB.bD zn (aB.bD zn (aB.bD hos (aB.le_refl _)))))
   ·have n1 : 0 ≤ t.cM[k].fB ∧ t.cM[k].fB < k := by unfold gL at hins; omega
    have gb := aPN (b := M) (k := t.cM[k].fB.toNat) (by omega)
    unfold y9
    have dR : ¬ nb = m := fun q => by rw [q, hos] at hnb; cases hnb
    have eJ : ¬ m = nb := Ne.symm dR
    have eH : (nb = m) = False := eq_false dR
    have eG : (m = nb) = False := eq_false eJ
    simp -dsimp -implicitDefEqProofs only [go_sem, ↓reduceIte, Tryz.f83, cI, aG, hnb, eH, eG, aC, hlt, ek, cC.aN, h1, h2, h7, ga, gb]
    refine fun _ n ⟨dn, zn⟩ => ?_
    have wC : ¬ n = m := dn
    have aE7 : ¬ m = n := Ne.symm wC
    have aE8 : (n = m) = False := eq_false wC
    have aE9 : (m = n) = False := eq_false aE7
    simp -dsimp -implicitDefEqProofs only [go_sem, ↓reduceIte, Tryz.f83, aE8, aE9, aC, h1, h2, h7, ga, gb]
    refine ⟨n0.1, n0.2, fun hq => ?_, fun hq => ?_⟩
    ·refine ⟨n1.1, n1.2, Nat.zero_lt_one, Nat.zero_lt_one, Nat.zero_lt_one, by omega, by omega, by omega, fun b1 ⟨d1, _, dm, z1⟩ => hnext _ b1 z1 ?_⟩
     rw [uK, aXS h1 h2 h7, hq, Bool.false_or, List.take_of_length_le (by simp; omega)]
     exact aB.fT (aB.bD hos (aB.bD zn (aB.bD zn (aB.bD hos (aB.le_refl _)))))
    ·refine ⟨Nat.zero_lt_one, Nat.zero_lt_one, Nat.zero_lt_one, by omega, by omega, by omega, fun b1 ⟨d1, _, dm, z1⟩ => hnext _ b1 z1 ?_⟩
     rw [uK, aXS h1 h2 h7, hq, Bool.true_or, List.take_of_length_le (by simp; omega)]
     exact aB.fT (aB.bD hos (aB.bD zn (aB.bD zn (aB.bD hos (aB.le_refl _)))))
 ·have hk' : k = t.cM.length := by omega
  subst hk'
  cases o with
  |none =>
   rw [dB] at hos
   rw [hos]
   simp -dsimp -implicitDefEqProofs only [go_sem, ↓reduceIte, Tryz.f83, dN, aK, hnb, Nat.lt_irrefl, Int.lt_irrefl]
   exact fun _ => ⟨_, h, Shift.of (Sub.loose _ _ _) (aB.le_refl _), rfl, rfl⟩
  |some m =>
   rw [cQ] at hos
   have dR : ¬ nb = m := fun q => by rw [q, hos] at hnb; cases hnb
   have eJ : ¬ m = nb := Ne.symm dR
   have eH : (nb = m) = False := eq_false dR
   have eG : (m = nb) = False := eq_false eJ
   simp -dsimp -implicitDefEqProofs only [go_sem, ↓reduceIte, Tryz.f83, cI, aG, hnb, eH, eG, aC, Nat.lt_irrefl, Int.lt_irrefl]
   exact fun _ => ⟨_, h, lW ((s4 a b t.cM t.cM.length).map fun x => [.bool x]) hos (aB.le_refl _) _ (by rw [List.length_map, hml]), rfl, rfl⟩
set_option maxRecDepth 100000
open Go.Proofs
set_option linter.unusedVariables false
set_option linter.unusedSimpArgs false
theorem aZA {j : e7} {k : Nat} {point : List Int} {l : List Int} {S : dV} (hR : mF j.bN j.b8 (dO j k) = (⟨(dO j k).length, S.code, S.guards, l⟩, 0)) (hpl : (j.cX.length : Int) = j.aX) {inp : Int} (hi : ∀ i c, S.code[i]? = some c → gL inp i c)
  (he : ∀ x ∈ oW ⟨(dO j k).length, S.code, S.guards, l⟩, 0 ≤ x ∧ x < (S.code.length : Int)) :
  aPP j k point ↔ ∀ e ∈ oW ⟨(dO j k).length, S.code, S.guards, l⟩, ¬ (s4 j.cX point S.code S.code.length).getD e.toNat false = true := by
 rw [aPP, hR]
 have h := a75 (t := ⟨(dO j k).length, S.code, S.guards, l⟩) (b := point) hpl hi he
 constructor
 ·rintro ⟨_, h1⟩ e h2 h3
  exact h1 (h.2 ⟨e, h2, h3⟩)
 ·intro h1
  refine ⟨rfl, fun h2 => ?_⟩
  obtain ⟨e, h3, h4⟩ := h.1 h2
  exact h1 e h3 h4
@[go_sem] def aK3 : List Nat := [0, 1, 2, 6, 7, 10, 11, 12, 13, 14, 41, 63, 68, 79, 84, 104]
@[go_sem] def a27 : List Nat := []
@[go_sem] def a28 : Marks := fun id => match id with | 1 => ([11], (.op 0 (.op 1 (.op 2 (.op 3 (.op 4 (.op 5 (.op 6 (.op 7 (.op 8 (.op 9 (.op 10 (.op 11 (.op 12 .nil))))))))))))), []) | 2 => ([8], (.op 0 (.op 1 (.op 2 (.op 3 (.op 4 (.op 5 (.op 6 (.op 7 (.op 8 (.op 9 (.op 10 (.op 11 (.op 12 (.op 13 (.op 14 (.op 15 .nil)))))))))))))))), []) | 5 => ([8, 9, 10], (.op 0 (.op 1 (.op 2 (.op 3 (.op 4 (.op 5 (.op 6 (.op 7 (.alt 8 (.op 9 (.op 10 .nil)) 9 (.op 8 (.op 10 .nil))))))))))), []) | _ => ([], .nil, [])
theorem a29 {j : e7} (hj : j.ok) {k : Nat} (hk : k < j.bO.length) (point : List Int) (hpt : (point.length : Int) = j.aX) : e8 Tryz.prog 50 [.ip 5 [j.c] 0 0, I k, ints point] (.bool (decide (aPP j k point))) := by
 obtain ⟨t1, t2, t3, t4, t5, t6, t7, t8⟩ := aDF hj hk
 obtain ⟨F, eF, hf, hF, ok⟩ := aGF hj
 obtain ⟨F2, eF2, hO1, hO2, hO3, hO4⟩ := aBC hj.1 hf
 have hargs : e8 Tryz.prog 80 [ints j.cX, ints (j.bO.getD k [])] (ints (dO j k)) := a7L j.cX (j.bO.getD k []) (by omega) (by omega)
 have hev := a7O hj.1 j.b8 hf (dO j k) t2 t4 t3
 have hok := (aH6 hj.1 j.b8 hf (dO j k) t2 t3).1
 have hsim := (aH6 hj.1 j.b8 hf (dO j k) t2 t3).2
 have her := aW8 j.bN 1 j.b8 ((dO j k).map fun n => [n])
 have hrec := fun l S' t => aY8 (l := l) (S' := S') (t := t) hj.1 j.b8 hf (dO j k) t2 t4 t3
 rw [aI.aN] at hev
 simp only [aI.aN] at hrec
 simp only [e7.aN]
 refine eI 105 aK3 a27 a28 mix Tryz.func50 rfl (by kernel_rfl) (by simp) fun h => ?_
 simp -dsimp -implicitDefEqProofs only [go_sem, ↓reduceIte, Tryz.f50, t1]
 refine ⟨hk, ?_⟩
 refine aJ.mk hargs ?_
 simp -dsimp -implicitDefEqProofs only [go_sem, ↓reduceIte, Tryz.f50]
 refine aJ.mk (hev.sub (.cons (Sub.dM rfl rfl rfl) (.cons (.refl _) (.cons (.refl _) .nil)))) ?_
 simp -dsimp -implicitDefEqProofs only [go_sem, ↓reduceIte, Tryz.f50]
 cases hX : aLY j.bN j.b8 (dO j k) with
 |error c =>
  rw [hX] at hsim
  cases hY : evF j.bN 1 j.b8 ((dO j k).map fun n => [n]) with
  |ok q => rw [hY] at hsim; exact hsim.elim
  |error d =>
   have hd : ¬ d = 0 := by rcases her d hY with rfl | rfl <;> decide
   rw [hY] at hsim
   have h1 : c = d := hsim
   rw [aMW]
   refine ⟨fun _ => ?_, fun q => absurd q hd⟩
   exact (decide_eq_false fun z => hd (by have := z.1; rw [mF, hX] at this; exact h1.symm.trans this)).symm
 |ok q =>
  obtain ⟨⟨l, S⟩, t⟩ := q
  rw [hX] at hsim
  cases hY : evF j.bN 1 j.b8 ((dO j k).map fun n => [n]) with
  |error d => rw [hY] at hsim; exact hsim.elim
  |ok q2 =>
  obtain ⟨vs, t'⟩ := q2
  obtain ⟨g1, g2, ⟨g3, g4⟩, g5⟩ := hok _ _ hX
  simp only at g1 g2 g3 g4 g5
  unfold pG at g5
  have g6 := g1.cap
  have g7 := g1.rK
  have g8 := g1.len
  have hR : mF j.bN j.b8 (dO j k) = (⟨(dO j k).length, S.code, S.guards, l⟩, 0) := by rw [mF, hX]
  have l0 : l[Int.toNat 0]? = some (l.getD 0 0) := eZ (by rw [g3, hO3]; omega)
  have hpl : (j.cX.length : Int) = j.aX := ok.2.1.1
  have hends : ∀ x ∈ oW ⟨(dO j k).length, S.code, S.guards, l⟩, 0 ≤ x ∧ x < (S.code.length : Int) := fun x hx => by
   rw [oW, tL] at hx
   rcases List.mem_append.1 hx with hx | hx
   ·rcases List.mem_append.1 hx with hx | hx
    ·rw [List.mem_singleton.1 hx]
     show 0 ≤ l.getD 0 0 ∧ l.getD 0 0 < (S.code.length : Int)
     rw [List.getD_eq_getElem?_getD, List.getElem?_eq_getElem (by rw [g3, hO3]; omega)]
     have := g4 _ (List.getElem_mem (h := (by rw [g3, hO3]; omega : 0 < l.length)))
     unfold oV at this
     rw [g8]; exact this
    ·obtain ⟨gg, hgg, rfl⟩ := List.mem_map.1 hx
     rw [g8]; exact g1.gds gg hgg
   ·obtain ⟨cc, hcc, rfl⟩ := List.mem_map.1 hx
    obtain ⟨h1, h2⟩ := List.mem_filter.1 hcc
    obtain ⟨q, hq, rfl⟩ := List.mem_iff_getElem.1 h1
    have h3 := g1.ins q S.code[q] (List.getElem?_eq_getElem hq)
    have h4 : (S.code[q]).sC = 6 := by simpa using h2
    show 0 ≤ (S.code[q]).fB ∧ (S.code[q]).fB < (S.code.length : Int)
    have hq' : q < S.code.length := hq
    unfold gL at h3
    omega
  have hst := aZA (point := point) hR hpl g1.ins hends
  have hmv := fun (h : aB) (nb : Nat) => a26 ⟨(dO j k).length, S.code, S.guards, l⟩ j.cX point (by simp only; omega) (by omega) g1.ins (h := h) (nb := nb)
  have hml := xI j.cX point S.code S.code.length
  simp only [pL.aN] at hmv
  have m0 : l.getD 0 0 ∈ oW ⟨(dO j k).length, S.code, S.guards, l⟩ := by rw [oW, tL]; exact List.mem_append_left _ (List.mem_append_left _ List.mem_cons_self)
  have mG : ∀ g ∈ S.guards, g.aHR ∈ oW ⟨(dO j k).length, S.code, S.guards, l⟩ := fun g hg => by rw [oW, tL]; exact List.mem_append_left _ (List.mem_append_right _ (List.mem_map.2 ⟨g, hg, rfl⟩))
  have mC : ∀ c ∈ S.code, c.sC = 6 → c.fB ∈ oW ⟨(dO j k).length, S.code, S.guards, l⟩ := fun c hc h6 => by rw [oW]; exact List.mem_append_right _ (List.mem_map.2 ⟨c, List.mem_filter.2 ⟨hc, by simpa using h6⟩, rfl⟩)
  generalize s4 j.cX point S.code S.code.length = M at *
  have gM : ∀ x ∈ oW ⟨(dO j k).length, S.code, S.guards, l⟩, M[x.toNat]? = some (M.getD x.toNat false) := fun x hx => aPN (by have := hends x hx; omega)
  have bAX := hrec l S t hX
  simp only [pL.aN] at bAX
  rw [show aMW (.ok (vs, t')) = (vs.map (·.getD 0 0), (t' : Int), 0) from rfl]
  refine ⟨fun q => absurd rfl q, fun _ => ?_⟩
  have bAY := bAX.sub (.cons (Sub.dM (sz := 5) (es := [[c5 3 aV.c j.bN.aH, I j.b8, I j.aX, c5 1 (fun n => [I n]) j.cX, c5 1 (fun x => [c5 1 (fun n => [I n]) x]) j.bO]]) (i := 0) (off := 0) (sz' := 1) (e' := [c5 3 aV.c j.bN.aH]) rfl rfl rfl) (.cons (.refl _) (.cons (.refl _) .nil)))
  refine ⟨?_, fun n hn => ?_⟩
  ·refine aJ.mk bAY ?_
   simp -dsimp -implicitDefEqProofs only [go_sem, ↓reduceIte, Tryz.f50]
   intro n hn
   rw [aF]
   generalize hh7 : bK h n (.row 4 [[.v (I (dO j k).length), .v (c5 4 cC.c S.code), .v (c5 2 eS.c S.guards), .v (ints l)]]) = h7
   have h7n : h7 n = some (.row 4 [[.v (I (dO j k).length), .v (c5 4 cC.c S.code), .v (c5 2 eS.c S.guards), .v (ints l)]]) := by rw [← hh7, aU]
   have aGN : h.le h7 := by rw [← hh7]; exact aB.bD hn (aB.le_refl _)
   refine aJ.iF (hmv h7 n h7n) ?_
   rintro r h' ⟨rfl, rfl⟩
   simp -dsimp -implicitDefEqProofs only [go_sem, ↓reduceIte, Tryz.f50, h7n, l0, gM _ m0]
   have e0 := hends _ m0
   refine ⟨by rw [g3, hO3]; omega, e0.1, by rw [hml]; exact e0.2, fun hq => ?_, fun hq => ?_⟩
   ·exact ⟨(decide_eq_false fun z => hst.1 z _ m0 hq).symm, aGN⟩
   refine cS (keep := aK3) (ib := a27) (mk := a28) mix (by kernel_rfl) (fun i : Nat => [(11, .op n 4 0 0), (12, c5 1 (fun b => [.bool b]) M), (13, I i)]) (fun _ => h') (fun i => i ≤ S.guards.length ∧ ∀ g ∈ S.guards.take i, M.getD g.aHR.toNat false = false) (fun i => S.guards.length - i) 0 ⟨by simp [dA, cH], aB.le_refl _, Nat.zero_le _, by simp⟩ ?_
   rintro i ⟨hi, hall⟩
   rcases Nat.lt_or_ge i S.guards.length with hlt | hge
   ·have eg : S.guards[i]? = some S.guards[i] := List.getElem?_eq_getElem hlt
    have mg := mG _ (List.getElem_mem hlt)
    have eg2 := hends _ mg
    simp -dsimp -implicitDefEqProofs only [go_sem, ↓reduceIte, Tryz.f50, h7n, hlt, eg, eS.aN, gM _ mg]
    refine fun _ => ⟨eg2.1, by rw [hml]; exact eg2.2, fun hq => ?_, fun hq => ?_⟩
    ·exact ⟨(decide_eq_false fun z => hst.1 z _ mg hq).symm, aGN⟩
    ·exact ⟨i + 1, by rw [IntWalk.i64_in _ (by omega)]; rfl, ⟨hlt, kG hlt hall hq⟩, by omega⟩
   have hi' : i = S.guards.length := by omega
   subst hi'
   rw [List.take_length] at hall
   simp -dsimp -implicitDefEqProofs only [go_sem, ↓reduceIte, Tryz.f50, h7n, Nat.lt_irrefl, Int.lt_irrefl]
   refine fun _ => ?_
   refine cS (keep := aK3) (ib := a27) (mk := a28) mix (by kernel_rfl) (fun i : Nat => [(11, .op n 4 0 0), (12, c5 1 (fun b => [.bool b]) M), (14, I i)]) (fun _ => h') (fun i => i ≤ S.code.length ∧ ∀ c ∈ S.code.take i, c.sC = 6 → M.getD c.fB.toNat false = false) (fun i => S.code.length - i) 0 ⟨by simp [dA, cH], aB.le_refl _, Nat.zero_le _, by simp⟩ ?_
   rintro i ⟨hi, aPU⟩
   rcases Nat.lt_or_ge i S.code.length with hlt | hge
   ·have eg : S.code[i]? = some S.code[i] := List.getElem?_eq_getElem hlt
    by_cases h6 : S.code[i].sC = 6
    ·have mg := mC _ (List.getElem_mem hlt) h6
     have eg2 := hends _ mg
     simp -dsimp -implicitDefEqProofs only [go_sem, ↓reduceIte, Tryz.f50, h7n, hlt, eg, cC.aN, h6, gM _ mg]
     refine fun _ => ⟨eg2.1, by rw [hml]; exact eg2.2, fun hq => ?_, fun hq => ?_⟩
     ·exact ⟨(decide_eq_false fun z => hst.1 z _ mg hq).symm, aGN⟩
     ·exact ⟨i + 1, by rw [IntWalk.i64_in _ (by omega)]; rfl, ⟨hlt, kG hlt aPU fun _ => hq⟩, by omega⟩
    ·simp -dsimp -implicitDefEqProofs only [go_sem, ↓reduceIte, Tryz.f50, h7n, hlt, eg, cC.aN, h6]
     exact fun _ => ⟨i + 1, by rw [IntWalk.i64_in _ (by omega)]; rfl, ⟨hlt, kG hlt aPU fun q => absurd q h6⟩, by omega⟩
   have hi' : i = S.code.length := by omega
   subst hi'
   rw [List.take_length] at aPU
   simp -dsimp -implicitDefEqProofs only [go_sem, ↓reduceIte, Tryz.f50, h7n, Nat.lt_irrefl, Int.lt_irrefl]
   refine fun _ => ⟨(decide_eq_true (hst.2 fun e he => ?_)).symm, aGN⟩
   rw [oW, tL] at he
   rcases List.mem_append.1 he with he | he
   ·rcases List.mem_append.1 he with he | he
    ·rw [List.mem_singleton.1 he]
     have hq' : M.getD (l.getD 0 0).toNat false = false := hq
     show ¬ M.getD (l.getD 0 0).toNat false = true
     rw [hq']; simp
    ·obtain ⟨gg, hgg, rfl⟩ := List.mem_map.1 he
     rw [hall gg hgg]; simp
   ·obtain ⟨cc, hcc, rfl⟩ := List.mem_map.1 he
    obtain ⟨h1, h2⟩ := List.mem_filter.1 hcc
    rw [aPU cc h1 (by simpa using h2)]; simp
  ·refine aJ.mk bAY ?_
   simp -dsimp -implicitDefEqProofs only [go_sem, ↓reduceIte, Tryz.f50]
   rw [aF]
   generalize hh7 : bK h n (.row 4 [[.v (I (dO j k).length), .v (c5 4 cC.c S.code), .v (c5 2 eS.c S.guards), .v (ints l)]]) = h7
   have h7n : h7 n = some (.row 4 [[.v (I (dO j k).length), .v (c5 4 cC.c S.code), .v (c5 2 eS.c S.guards), .v (ints l)]]) := by rw [← hh7, aU]
   have aGN : h.le h7 := by rw [← hh7]; exact aB.bD hn (aB.le_refl _)
   refine aJ.iF (hmv h7 n h7n) ?_
   rintro r h' ⟨rfl, rfl⟩
   simp -dsimp -implicitDefEqProofs only [go_sem, ↓reduceIte, Tryz.f50, h7n, l0, gM _ m0]
   have e0 := hends _ m0
   refine ⟨by rw [g3, hO3]; omega, e0.1, by rw [hml]; exact e0.2, fun hq => ?_, fun hq => ?_⟩
   ·exact ⟨(decide_eq_false fun z => hst.1 z _ m0 hq).symm, aGN⟩
   refine cS (keep := aK3) (ib := a27) (mk := a28) mix (by kernel_rfl) (fun i : Nat => [(11, .op n 4 0 0), (12, c5 1 (fun b => [.bool b]) M), (13, I i)]) (fun _ => h') (fun i => i ≤ S.guards.length ∧ ∀ g ∈ S.guards.take i, M.getD g.aHR.toNat false = false) (fun i => S.guards.length - i) 0 ⟨by simp [dA, cH], aB.le_refl _, Nat.zero_le _, by simp⟩ ?_
   rintro i ⟨hi, hall⟩
   rcases Nat.lt_or_ge i S.guards.length with hlt | hge
   ·have eg : S.guards[i]? = some S.guards[i] := List.getElem?_eq_getElem hlt
    have mg := mG _ (List.getElem_mem hlt)
    have eg2 := hends _ mg
    simp -dsimp -implicitDefEqProofs only [go_sem, ↓reduceIte, Tryz.f50, h7n, hlt, eg, eS.aN, gM _ mg]
    refine fun _ => ⟨eg2.1, by rw [hml]; exact eg2.2, fun hq => ?_, fun hq => ?_⟩
    ·exact ⟨(decide_eq_false fun z => hst.1 z _ mg hq).symm, aGN⟩
    ·exact ⟨i + 1, by rw [IntWalk.i64_in _ (by omega)]; rfl, ⟨hlt, kG hlt hall hq⟩, by omega⟩
   have hi' : i = S.guards.length := by omega
   subst hi'
   rw [List.take_length] at hall
   simp -dsimp -implicitDefEqProofs only [go_sem, ↓reduceIte, Tryz.f50, h7n, Nat.lt_irrefl, Int.lt_irrefl]
   refine fun _ => ?_
   refine cS (keep := aK3) (ib := a27) (mk := a28) mix (by kernel_rfl) (fun i : Nat => [(11, .op n 4 0 0), (12, c5 1 (fun b => [.bool b]) M), (14, I i)]) (fun _ => h') (fun i => i ≤ S.code.length ∧ ∀ c ∈ S.code.take i, c.sC = 6 → M.getD c.fB.toNat false = false) (fun i => S.code.length - i) 0 ⟨by simp [dA, cH], aB.le_refl _, Nat.zero_le _, by simp⟩ ?_
   rintro i ⟨hi, aPU⟩
   rcases Nat.lt_or_ge i S.code.length with hlt | hge
   ·have eg : S.code[i]? = some S.code[i] := List.getElem?_eq_getElem hlt
    by_cases h6 : S.code[i].sC = 6
    ·have mg := mC _ (List.getElem_mem hlt) h6
     have eg2 := hends _ mg
     simp -dsimp -implicitDefEqProofs only [go_sem, ↓reduceIte, Tryz.f50, h7n, hlt, eg, cC.aN, h6, gM _ mg]
     refine fun _ => ⟨eg2.1, by rw [hml]; exact eg2.2, fun hq => ?_, fun hq => ?_⟩
     ·exact ⟨(decide_eq_false fun z => hst.1 z _ mg hq).symm, aGN⟩
     ·exact ⟨i + 1, by rw [IntWalk.i64_in _ (by omega)]; rfl, ⟨hlt, kG hlt aPU fun _ => hq⟩, by omega⟩
    ·simp -dsimp -implicitDefEqProofs only [go_sem, ↓reduceIte, Tryz.f50, h7n, hlt, eg, cC.aN, h6]
     exact fun _ => ⟨i + 1, by rw [IntWalk.i64_in _ (by omega)]; rfl, ⟨hlt, kG hlt aPU fun q => absurd q h6⟩, by omega⟩
   have hi' : i = S.code.length := by omega
   subst hi'
   rw [List.take_length] at aPU
   simp -dsimp -implicitDefEqProofs only [go_sem, ↓reduceIte, Tryz.f50, h7n, Nat.lt_irrefl, Int.lt_irrefl]
   refine fun _ => ⟨(decide_eq_true (hst.2 fun e he => ?_)).symm, aGN⟩
   rw [oW, tL] at he
   rcases List.mem_append.1 he with he | he
   ·rcases List.mem_append.1 he with he | he
    ·rw [List.mem_singleton.1 he]
     have hq' : M.getD (l.getD 0 0).toNat false = false := hq
     show ¬ M.getD (l.getD 0 0).toNat false = true
     rw [hq']; simp
    ·obtain ⟨gg, hgg, rfl⟩ := List.mem_map.1 he
     rw [hall gg hgg]; simp
   ·obtain ⟨cc, hcc, rfl⟩ := List.mem_map.1 he
    obtain ⟨h1, h2⟩ := List.mem_filter.1 hcc
    rw [aPU cc h1 (by simpa using h2)]; simp
open Go.Proofs
set_option linter.unusedVariables false
set_option linter.unusedSimpArgs false
open Go.Proofs
set_option linter.unusedVariables false
set_option linter.unusedSimpArgs false
def kC (st : Nat → Prop) [DecidablePred st] (s : aR) : Nat → aR
 |0 => s
 |k + 1 => if st k then kC st s k else mW (kC st s k) k
theorem aBK (st : Nat → Prop) [DecidablePred st] (s : aR) : ∀ k, (kC st s k).bF = s.bF
 |0 => rfl
 |k + 1 => by
  rw [kC]; split
  ·exact aBK st s k
  ·exact aBK st s k
theorem aGQ (st : Nat → Prop) [DecidablePred st] (s : aR) : ∀ k, (kC st s k).aY.length = s.aY.length ∧ (kC st s k).cB.length = s.cB.length ∧ (kC st s k).b7.length = s.b7.length ∧ (kC st s k).b9.length = s.b9.length
 |0 => ⟨rfl, rfl, rfl, rfl⟩
 |k + 1 => by
  have h := aGQ st s k
  rw [kC]; split
  ·exact h
  ·simp only [mW, List.length_set]; exact h
theorem zA (st : Nat → Prop) [DecidablePred st] (s : aR) : ∀ k i, k ≤ i → (kC st s k).aY[i]? = s.aY[i]? ∧ (kC st s k).cB[i]? = s.cB[i]?
 |0, i, _ => ⟨rfl, rfl⟩
 |k + 1, i, h => by
  have h1 := zA st s k i (by omega)
  rw [kC]; split
  ·exact h1
  ·simp only [mW]
   rw [List.getElem?_set_ne (by omega), List.getElem?_set_ne (by omega)]; exact h1
def aA8 (st : Nat → Prop) (s : aR) (k : Nat) : Prop := ¬ st k ∧ s.aY[k]? = some 50
theorem zB (st : Nat → Prop) [DecidablePred st] (s : aR) (hs : ∀ x ∈ s.aY, 0 ≤ x ∧ x ≤ 50) : ∀ k, (∀ i, i < k → ¬ aA8 st s i) → ∀ x ∈ (kC st s k).aY, 0 ≤ x ∧ x ≤ 50
 |0, _ => hs
 |k + 1, h => by
  have h1 := zB st s hs k fun i hi => h i (by omega)
  rw [kC]; split
  ·exact h1
  ·rename_i hk
   intro x hx
   simp only [mW] at hx
   rcases List.mem_or_eq_of_mem_set hx with hx | hx
   ·exact h1 x hx
   ·subst hx
    rw [Int.toNat_natCast, List.getD_eq_getElem?_getD, (zA st s k k (Nat.le_refl _)).1]
    have hn := h k (by omega)
    cases e : s.aY[k]? with
    |none => simp
    |some y =>
     have hy := hs y (List.mem_of_getElem? e)
     have : ¬ y = 50 := fun q => hn ⟨hk, by rw [e, q]⟩
     simp only [Option.getD_some]; omega
def oX (s : aR) (pt : List Int) : aR := { s with bF := { s.bF with cX := pt } }
theorem aHJ (st : Nat → Prop) [DecidablePred st] (s : aR) (pt : List Int) : ∀ k, kC st (oX s pt) k = oX (kC st s k) pt
 |0 => rfl
 |k + 1 => by
  rw [kC, kC, aHJ st s pt k]; split <;> rfl
def gE (s : aR) (pt : List Int) (k : Nat) : Prop := s.cB[k]? = some true ∧ aPP s.bF k pt
noncomputable instance (s : aR) (pt : List Int) : DecidablePred (gE s pt) := fun _ => Classical.propDecidable _
def aFA (s : aR) (pt : List Int) : Prop := (pt.length : Int) = s.bF.aX ∧ pB pt
noncomputable instance (s : aR) (pt : List Int) : Decidable (aFA s pt) := Classical.propDecidable _
def zC (s : aR) (pt : List Int) : Prop := ∃ k, k < s.aY.length ∧ aA8 (gE s pt) s k
noncomputable instance (s : aR) (pt : List Int) : Decidable (zC s pt) := Classical.propDecidable _
noncomputable def aDK (s : aR) (pt : List Int) : aR := oX (kC (gE s pt) s s.aY.length) pt
noncomputable def dG (s : aR) (pt : List Int) : aR × Int := if s.ok then (if aFA s pt then (if zC s pt then (rZ, 3) else (aDK s pt, 0)) else (rZ, 2)) else (rZ, 1)
theorem aM1 {s : aR} {pt : List Int} (h : ¬ s.ok) : dG s pt = (rZ, 1) := if_neg h
theorem aM2 {s : aR} {pt : List Int} (h0 : s.ok) (h : ¬ aFA s pt) : dG s pt = (rZ, 2) := by rw [dG, if_pos h0, if_neg h]
theorem aGR {s : aR} {pt : List Int} (h0 : s.ok) (h : aFA s pt) (h2 : zC s pt) : dG s pt = (rZ, 3) := by rw [dG, if_pos h0, if_pos h, if_pos h2]
theorem aK4 {s : aR} {pt : List Int} (h0 : s.ok) (h : aFA s pt) (h2 : ¬ zC s pt) : dG s pt = (aDK s pt, 0) := by rw [dG, if_pos h0, if_pos h, if_neg h2]
theorem eM.a3B {h g g2 : aB} (e1 : List OV) {e2 : List OV} {y y' : OV} (x : eM h (OV.bZ (e1 ++ y :: e2)) g) (z : eM g y'.rows g2) : ∃ g3, g3.le g2 ∧ eM h (OV.bZ (e1 ++ y' :: e2)) g3 := by
 have w := x.append z
 rw [OV.jL, OV.bL] at w
 have w2 := w.perm (b := y.rows ++ (OV.bZ e1 ++ (y'.rows ++ OV.bZ e2))) (by
  classical
  rw [List.perm_iff_count]
  intro q
  simp only [List.count_append]
  omega)
 have w3 := w2.drop
 refine ⟨lX g2 (bR y.rows), aQ9 _ _, ?_⟩
 rw [OV.jL, OV.bL]; exact w3
theorem aK5 {st : Nat → Prop} [DecidablePred st] (s : aR) (k : Nat) (h : ¬ st k) : mW (kC st s k) k = kC st s (k + 1) := by rw [kC, if_neg h]
theorem aK6 {st : Nat → Prop} [DecidablePred st] (s : aR) (k : Nat) (h : st k) : kC st s k = kC st s (k + 1) := by rw [kC, if_pos h]
theorem nM {st : Nat → Prop} {s : aR} {k : Nat} (h : ∀ i, i < k → ¬ aA8 st s i) (hk : ¬ aA8 st s k) : ∀ i, i < k + 1 → ¬ aA8 st s i := fun i hi => by
 rcases Nat.lt_succ_iff_lt_or_eq.1 hi with hi | rfl
 ·exact h i hi
 ·exact hk
def bAZ (s : aR) (pt : List Int) (r : aD) (e' : List OV) : Prop :=
 (¬ aFA s pt ∧ r = I 2) ∨ (aFA s pt ∧ zC s pt ∧ r = I 3) ∨ (aFA s pt ∧ ¬ zC s pt ∧ r = I 0 ∧ (aDK s pt).o e')
set_option maxRecDepth 100000
open Go.Proofs
set_option linter.unusedVariables false
set_option linter.unusedSimpArgs false
@[go_sem] def a3C : List Nat := [0, 1, 4, 5, 11, 18, 35, 43]
@[go_sem] def bMT : List Nat := []
@[go_sem] def bMU : Marks := fun _ => ([], .nil, [])
set_option maxHeartbeats 2000000 in
theorem a76 (s : aR) (pt : List Int) (h0 g : aB) (nb : Nat) (e : List OV) (oe : s.o e) (hnb : g nb = none) (wn : eM h0 (OV.bZ e) g) (hs : s.s ≤ 1048576) (tY : pt.length ≤ 1048576) (hy : s.ok) :
  fO Tryz.prog 20 [.op nb 9 0 0, c5 1 (fun n => [I n]) pt] (bK g nb (.row 9 (OV.cells [e]))) (a09 h0 nb 9 (bAZ s pt)) := by
 have hs' := s.fR
 have jX := s.bF.fR
 simp only [eN] at hs' jX
 have a77 := aR.aMM hy
 have l1 := hy.2.1
 have hvw := View.box (sz := 9) (aR.tX oe) hnb wn.fI
 have hpo := aJW s.bF pt
 refine wJ 53 a3C bMT bMU mix Tryz.func20 rfl (by kernel_rfl) (by simp) ?_
 simp -dsimp -implicitDefEqProofs only [go_sem, ↓reduceIte, Tryz.f20]
 refine aJ.aG5 hpo (hH.cons (hvw.sub (Sub.dM rfl rfl rfl)) (hH.cons (View.same _ _) hH.nil)) rfl ?_
 simp -dsimp -implicitDefEqProofs only [go_sem, ↓reduceIte, Tryz.f20]
 refine ⟨fun hp => ⟨_, aB.le_refl _, _, g, .inl ⟨by simpa [aFA] using hp, rfl⟩, rfl, hnb, wn⟩, fun hp => ?_⟩
 have hp' : aFA s pt := by simpa [aFA] using hp
 refine cS (keep := a3C) (ib := bMT) (mk := bMU) mix (by kernel_rfl) (fun x : Nat × List OV × aB => [(0, .op nb 9 0 0), (1, c5 1 (fun n => [I n]) pt), (5, I x.1)]) (fun x => bK x.2.2 nb (.row 9 (OV.cells [x.2.1]))) (fun x => x.1 ≤ s.aY.length ∧ (∀ i, i < x.1 → ¬ aA8 (gE s pt) s i) ∧ (kC (gE s pt) s x.1).o x.2.1 ∧ x.2.2 nb = none ∧ eM h0 (OV.bZ x.2.1) x.2.2) (fun x => s.aY.length - x.1) (0, e, g) ⟨by simp [dA, cH], aB.le_refl _, Nat.zero_le _, fun i q => absurd q (Nat.not_lt_zero i), oe, hnb, wn⟩ ?_
 clear oe hnb wn hvw
 rintro ⟨k, e, g⟩ ⟨hk, hns, oe, hnb, wn⟩
 simp only at hk hns oe hnb wn ⊢
 have hJ := aBK (gE s pt) s k
 have hL := aGQ (gE s pt) s k
 have hT := zA (gE s pt) s k k (Nat.le_refl _)
 have hS := zB (gE s pt) s a77 k hns
 have hN := aK5 (st := gE s pt) s k
 have hY := aK6 (st := gE s pt) s k
 generalize hm : kC (gE s pt) s k = m at *
 have oe1 := oe
 obtain ⟨jZ, mD, kN, aYY, aLW, aGB, aGC, rfl, oM, pU, oN, oO, pF, oQ, oT⟩ := oe1
 rcases Nat.lt_or_ge k s.aY.length with hlt | hge
 ·have ks : k < m.aY.length := by omega
  have kn : k < m.cB.length := by omega
  rcases oO.aEB with ⟨rfl, h5⟩ | ⟨n5, rfl⟩
  ·rw [h5] at ks; simp at ks
  rcases pF.aEB with ⟨rfl, h6⟩ | ⟨n6, rfl⟩
  ·rw [h6] at kn; simp at kn
  have g5 := wn.aRK [jZ, .v (.int .i64 m.bF.b8), .v (.int .i64 m.bF.aX), mD, kN] (c := I)
  have g6 := wn.aRK ([jZ, .v (.int .i64 m.bF.b8), .v (.int .i64 m.bF.aX), mD, kN] ++ [OV.sl n5 1 (m.aY.map fun x => [.v (I x)])]) (c := .bool)
  have v8 : ¬ n5 = nb := lM g5 hnb
  have yC : ¬ nb = n5 := Ne.symm v8
  have s7 : (n5 = nb) = False := eq_false v8
  have s8 : (nb = n5) = False := eq_false yC
  have p1 : ¬ n6 = nb := lM g6 hnb
  have mX : ¬ nb = n6 := Ne.symm p1
  have lS : (n6 = nb) = False := eq_false p1
  have lT : (nb = n6) = False := eq_false mX
  have hv5 := OV.pT I n5 1 m.aY
  have hv6 := OV.pT aD.bool n6 1 m.cB
  have gs : m.aY[k]? = some m.aY[k] := List.getElem?_eq_getElem ks
  have gk : m.cB[k]? = some m.cB[k] := List.getElem?_eq_getElem kn
  have hvw := View.box (sz := 9) (aR.tX oe) hnb wn.fI
  have hkt : k < s.bF.bO.length := by omega
  have hstl : e8 Tryz.prog 50 [.ip 5 [m.bF.c] 0 0, I k, c5 1 (fun n => [I n]) pt] (.bool (decide (aPP s.bF k pt))) := by rw [hJ]; exact a29 hy.1 hkt pt hp'.1
  have hR : ([[.v jZ.val, .v (I m.bF.b8), .v (I m.bF.aX), .v mD.val, .v kN.val, .v (.os n5 1 0 m.aY.length), .v (.os n6 1 0 m.cB.length), .v aGB.val, .v aGC.val]] : List (List Cell)) = OV.cells [[jZ, .v (I m.bF.b8), .v (I m.bF.aX), mD, kN, OV.sl n5 1 (m.aY.map fun x => [.v (I x)]), OV.sl n6 1 (m.cB.map fun x => [.v (.bool x)]), aGB, aGC]] := by simp only [iS, aP, aT, OV.aS, hv5, hv6]
  have hsk : m.aY[k]? = some s.aY[k] := hT.1.trans (List.getElem?_eq_getElem hlt)
  have hs5 : m.aY[k] = s.aY[k] := Option.some.inj (gs.symm.trans hsk)
  have hb5 := hS _ (List.getElem_mem ks)
  have hkk : s.cB[k]? = some m.cB[k] := hT.2.symm.trans gk
  have nst : 50 ≤ m.aY[k] → ¬ gE s pt k → zC s pt := fun h1 h2 => ⟨k, hlt, h2, by rw [← hT.1, gs]; congr 1; omega⟩
  have nns : ¬ 50 ≤ m.aY[k] → ¬ aA8 (gE s pt) s k := fun h1 q => by
   have := q.2
   rw [← hT.1, gs] at this
   have := Option.some.inj this
   omega
  have aXT : 50 ≤ m.aY[k] → ¬ gE s pt k → ∃ g_1 : aB, g_1.le (bK g nb (.row 9 (OV.cells [[jZ, .v (I m.bF.b8), .v (I m.bF.aX), mD, kN, OV.sl n5 1 (m.aY.map fun x => [.v (I x)]), OV.sl n6 1 (m.cB.map fun x => [.v (.bool x)]), aGB, aGC]]))) ∧ a09 h0 nb 9 (bAZ s pt) (I 3) g_1 := fun h1 h2 => ⟨_, aB.le_refl _, _, g, .inr (.inl ⟨hp', nst h1 h2, rfl⟩), rfl, hnb, wn⟩
  have hfg := fun (h1 : ¬ gE s pt k) => aYX m k h0 g nb _ oe hnb wn (by rw [hJ]; omega) (by rw [hJ]; exact ⟨by omega, by omega⟩) hS
  simp -dsimp -implicitDefEqProofs only [go_sem, ↓reduceIte, Tryz.f20, OV.aO, OV.aE, OV.aS, aF, aC, oM.flat, oM.one, pU.flat, pU.one, oN.flat, oN.one, oO.flat, oO.one, pF.flat, pF.one, oQ.flat, oQ.one, oT.flat, oT.one, s8, s7, lT, lS, iS, aP, aT, gs, gk, hv5, hv6, g5, g6, Int.ofNat_lt, hlt]
  rw [hR]
  refine fun _ => ⟨fun _ => ⟨kn, fun hk1 => ?_, fun hk0 => ?_⟩, fun q => ?_⟩
  ·refine aJ.aG5 hstl (hH.cons (hvw.sub (Sub.dM rfl rfl rfl)) (hH.cons (View.same _ _) (hH.cons (View.same _ _) hH.nil))) rfl ?_
   simp -dsimp -implicitDefEqProofs only [go_sem, ↓reduceIte, Tryz.f20, OV.aO, OV.aE, OV.aS, aF, aC, oM.flat, oM.one, pU.flat, pU.one, oN.flat, oN.one, oO.flat, oO.one, pF.flat, pF.one, oQ.flat, oQ.one, oT.flat, oT.one, s8, s7, lT, lS, iS, aP, aT, gs, gk, hv5, hv6, g5, g6, Int.ofNat_lt, hlt]
   rw [hR]
   refine ⟨fun hu => ?_, fun hu => ?_⟩
   ·have hst : gE s pt k := ⟨hkk.trans (by rw [hk1]), hu⟩
    exact ⟨(k + 1, _, g), IntWalk.i64_in _ (by omega), aB.le_refl _, ⟨hlt, nM hns fun q => q.1 hst, hY hst ▸ oe, hnb, wn⟩, by simp only; omega⟩
   ·have aGS : ¬ gE s pt k := fun q => hu q.2
    refine ⟨ks, fun h50 => aXT h50 aGS, fun h50 => ?_⟩
    refine aJ.iF (hfg aGS) ?_
    clear hfg aXT oe wn hvw hR oM pU oN oQ oT hv5 hv6 g5 g6
    rintro r h' ⟨e2, g2, oe2, rfl, aPV, tM⟩
    simp -dsimp -implicitDefEqProofs only [go_sem, ↓reduceIte, Tryz.f20, OV.aO, OV.aE, OV.aS, aF, aC]
    exact ⟨(k + 1, e2, g2), IntWalk.i64_in _ (by omega), aB.le_refl _, ⟨hlt, nM hns (nns h50), hN aGS ▸ oe2, aPV, tM⟩, by simp only; omega⟩
  ·have aGS : ¬ gE s pt k := fun q => by have := q.1; rw [hkk] at this; have := Option.some.inj this; simp_all
   refine ⟨ks, fun h50 => aXT h50 aGS, fun h50 => ?_⟩
   refine aJ.iF (hfg aGS) ?_
   clear hfg aXT oe wn hvw hR oM pU oN oQ oT hv5 hv6 g5 g6
   rintro r h' ⟨e2, g2, oe2, rfl, aPV, tM⟩
   simp -dsimp -implicitDefEqProofs only [go_sem, ↓reduceIte, Tryz.f20, OV.aO, OV.aE, OV.aS, aF, aC]
   exact ⟨(k + 1, e2, g2), IntWalk.i64_in _ (by omega), aB.le_refl _, ⟨hlt, nM hns (nns h50), hN aGS ▸ oe2, aPV, tM⟩, by simp only; omega⟩
  ·omega
 ·have hk' : k = s.aY.length := by omega
  have hstuck : ¬ zC s pt := fun ⟨i, h1, h2⟩ => hns i (by omega) h2
  have hmv : aDK s pt = oX m pt := by rw [aDK, ← hk', hm]
  have hml : m.aY.length = k := by omega
  rcases oO.aEB with ⟨rfl, h5⟩ | ⟨n5, rfl⟩
  ·simp -dsimp -implicitDefEqProofs only [go_sem, ↓reduceIte, Tryz.f20, OV.aO, OV.aE, OV.aS, aF, aC, oM.flat, oM.one, pU.flat, pU.one, oN.flat, oN.one, oO.flat, oO.one, pF.flat, pF.one, oQ.flat, oQ.one, oT.flat, oT.one, iS, aP, aT, OV.pZ, Nat.not_lt_zero, false_imp_iff, true_and]
   refine aJ.wn1 (kV pt tY) hnb ?_
   rintro r_ l_ g3 ⟨yn, oyn, rfl, rfl⟩ wp bFF
   simp -dsimp -implicitDefEqProofs only [go_sem, ↓reduceIte, Tryz.f20, OV.aO, OV.aE, OV.aS, aF, aC, oM.flat, oM.one, pU.flat, pU.one, oN.flat, oN.one, oO.flat, oO.one, pF.flat, pF.one, oQ.flat, oQ.one, oT.flat, oT.one, iS, aP, aT, oyn.flat, oyn.one]
   obtain ⟨g4, aVA, wn4⟩ := wn.a3B [jZ, .v (I m.bF.b8), .v (I m.bF.aX)] (y' := yn) wp
   refine ⟨_, aB.fT aVA, [jZ, .v (I m.bF.b8), .v (I m.bF.aX), yn, kN, .nil 1, aLW, aGB, aGC], g4, .inr (.inr ⟨hp', hstuck, rfl, ?_⟩), ?_, aB.le_none aVA bFF, wn4⟩
   ·rw [hmv]
    exact ⟨jZ, yn, kN, _, aLW, aGB, aGC, rfl, oM, oyn, oN, oO, pF, oQ, oT⟩
   ·simp only [iS, aP, aT, OV.aS, OV.pZ]
  ·have hv5 := OV.pT I n5 1 m.aY
   simp -dsimp -implicitDefEqProofs only [go_sem, ↓reduceIte, Tryz.f20, OV.aO, OV.aE, OV.aS, aF, aC, oM.flat, oM.one, pU.flat, pU.one, oN.flat, oN.one, oO.flat, oO.one, pF.flat, pF.one, oQ.flat, oQ.one, oT.flat, oT.one, iS, aP, aT, hv5, hml, Nat.lt_irrefl, false_imp_iff, true_and]
   intro _
   refine aJ.wn1 (kV pt tY) hnb ?_
   rintro r_ l_ g3 ⟨yn, oyn, rfl, rfl⟩ wp bFF
   simp -dsimp -implicitDefEqProofs only [go_sem, ↓reduceIte, Tryz.f20, OV.aO, OV.aE, OV.aS, aF, aC, oM.flat, oM.one, pU.flat, pU.one, oN.flat, oN.one, oO.flat, oO.one, pF.flat, pF.one, oQ.flat, oQ.one, oT.flat, oT.one, iS, aP, aT, oyn.flat, oyn.one]
   obtain ⟨g4, aVA, wn4⟩ := wn.a3B [jZ, .v (I m.bF.b8), .v (I m.bF.aX)] (y' := yn) wp
   refine ⟨_, aB.fT aVA, [jZ, .v (I m.bF.b8), .v (I m.bF.aX), yn, kN, OV.sl n5 1 (m.aY.map fun x => [.v (I x)]), aLW, aGB, aGC], g4, .inr (.inr ⟨hp', hstuck, rfl, ?_⟩), ?_, aB.le_none aVA bFF, wn4⟩
   ·rw [hmv]
    exact ⟨jZ, yn, kN, _, aLW, aGB, aGC, rfl, oM, oyn, oN, oO, pF, oQ, oT⟩
   ·simp only [iS, aP, aT, OV.aS, OV.pZ, hv5, hml]
set_option maxRecDepth 100000
open Go.Proofs
set_option linter.unusedVariables false
set_option linter.unusedSimpArgs false
@[go_sem] def bMV : List Nat := [0, 1, 2, 4, 5, 6, 7, 9, 15]
@[go_sem] def ib5 : List Nat := [2]
@[go_sem] def mk5 : Marks := fun _ => ([], .nil, [])
set_option maxHeartbeats 1000000 in
theorem zK (s : aR) (pt : List Int) (hs : s.s ≤ 1048576) (tY : pt.length ≤ 1048576) : pN Tryz.prog 5 [.agg s.c, c5 1 (fun n => [I n]) pt] (QA (dG s pt).1.o (fun y => .lR [y, I (dG s pt).2])) := by
 have hs' := s.fR
 have jX := s.bF.fR
 simp only [eN] at hs' jX
 have hok := bKJ s (by omega)
 have hcl := aLV s hs
 simp only [aR.aN, e7.aN] at hok hcl ⊢
 refine sV 19 bMV ib5 mk5 mix Tryz.func5 rfl (by kernel_rfl) (by simp) fun h => ?_
 simp -dsimp -implicitDefEqProofs only [go_sem, ↓reduceIte, Tryz.f5]
 intro n4 z4
 have z4h := z4
 try simp -dsimp -implicitDefEqProofs only [go_sem, ↓reduceIte, Tryz.f5]
 first | refine aJ.mk (hok) ?_ | refine aL.mk (hok) ?_ | refine aJ.dF (hok) ?_ | refine aL.mk (cZ.gC (hok)) ?_
 simp -dsimp -implicitDefEqProofs only [go_sem, ↓reduceIte, Tryz.f5]
 refine ⟨fun hn => ?_, fun hy => ?_⟩
 ·have hn' : ¬ s.ok := by simpa using hn
  rw [aM1 hn']
  try simp -dsimp -implicitDefEqProofs only [go_sem, ↓reduceIte, Tryz.f5, aF]
  exact u5 qW (u4 [] [_]) (by repeat' (first | exact aB.le_refl _ | refine aB.fT ?_ | refine aB.bD (by first | assumption | (rw [aC _ _ _ _ (by assumption)]; assumption) | (rw [aC _ _ _ _ (by assumption), aC _ _ _ _ (by assumption)]; assumption) | (rw [aC _ _ _ _ (by assumption), aC _ _ _ _ (by assumption), aC _ _ _ _ (by assumption)]; assumption)) ?_))
 have hy' : s.ok := by simpa using hy
 try simp -dsimp -implicitDefEqProofs only [go_sem, ↓reduceIte, Tryz.f5]
 refine aJ.wn1 hcl z4 ?_
 rintro r l_ g ⟨e, oe, rfl, rfl⟩ wn z4
 have oe1 := oe
 obtain ⟨jZ, mD, kN, aYY, aLW, aGB, aGC, rfl, oM, pU, oN, oO, pF, oQ, oT⟩ := oe1
 simp -dsimp -implicitDefEqProofs only [go_sem, ↓reduceIte, Tryz.f5, OV.aO, OV.aE, OV.aS, aF, aC, oM.flat, oM.one, pU.flat, pU.one, oN.flat, oN.one, oO.flat, oO.one, pF.flat, pF.one, oQ.flat, oQ.one, oT.flat, oT.one]
 intro n6 dY
 have nR : ¬ n6 = n4 := by first | exact dY.1 | exact dY | exact dY.2.1 | exact dY.2 | exact dY.2.2.1 | exact dY.2.2 | exact dY.2.2.2.1 | exact dY.2.2.2 | exact dY.2.2.2.2.1 | exact dY.2.2.2.2 | exact dY.2.2.2.2.2.1 | exact dY.2.2.2.2.2 | exact dY.2.2.2.2.2.2.1 | exact dY.2.2.2.2.2.2 | exact dY.2.2.2.2.2.2.2.1 | exact dY.2.2.2.2.2.2.2 | exact dY.2.2.2.2.2.2.2.2.1 | exact dY.2.2.2.2.2.2.2.2 | exact dY.2.2.2.2.2.2.2.2.2.1 | exact dY.2.2.2.2.2.2.2.2.2 | exact dY.2.2.2.2.2.2.2.2.2.2.1 | exact dY.2.2.2.2.2.2.2.2.2.2 | exact dY.2.2.2.2.2.2.2.2.2.2.2.1 | exact dY.2.2.2.2.2.2.2.2.2.2.2 | exact dY.2.2.2.2.2.2.2.2.2.2.2.2.1 | exact dY.2.2.2.2.2.2.2.2.2.2.2.2 | exact dY.2.2.2.2.2.2.2.2.2.2.2.2.2.1 | exact dY.2.2.2.2.2.2.2.2.2.2.2.2.2
 have wD : (n6 = n4) = False := eq_false nR
 have wE : (n4 = n6) = False := eq_false (Ne.symm nR)
 have a78 : ¬ n4 = n6 := Ne.symm nR
 have sY : g n6 = none := by first | exact dY.1 | exact dY | exact dY.2.1 | exact dY.2 | exact dY.2.2.1 | exact dY.2.2 | exact dY.2.2.2.1 | exact dY.2.2.2 | exact dY.2.2.2.2.1 | exact dY.2.2.2.2 | exact dY.2.2.2.2.2.1 | exact dY.2.2.2.2.2 | exact dY.2.2.2.2.2.2.1 | exact dY.2.2.2.2.2.2 | exact dY.2.2.2.2.2.2.2.1 | exact dY.2.2.2.2.2.2.2 | exact dY.2.2.2.2.2.2.2.2.1 | exact dY.2.2.2.2.2.2.2.2 | exact dY.2.2.2.2.2.2.2.2.2.1 | exact dY.2.2.2.2.2.2.2.2.2 | exact dY.2.2.2.2.2.2.2.2.2.2.1 | exact dY.2.2.2.2.2.2.2.2.2.2 | exact dY.2.2.2.2.2.2.2.2.2.2.2.1 | exact dY.2.2.2.2.2.2.2.2.2.2.2 | exact dY.2.2.2.2.2.2.2.2.2.2.2.2.1 | exact dY.2.2.2.2.2.2.2.2.2.2.2.2 | exact dY.2.2.2.2.2.2.2.2.2.2.2.2.2.1 | exact dY.2.2.2.2.2.2.2.2.2.2.2.2.2
 refine aJ.iF (a76 s pt _ _ n6 _ oe (by rw [aC _ _ _ _ nR]; exact sY) (wn.wO z4) hs tY hy') ?_
 rintro r h' ⟨e2, g2, hq, rfl, hg2, tM⟩
 obtain ⟨g3, aHQ, wn3, z43, rfl⟩ := tM.base z4h
 have z63 : g3 n6 = none := by rwa [aC _ _ _ _ nR] at hg2
 clear wn oe oM pU oN oO pF oQ oT tM
 rcases hq with ⟨h2, rfl⟩ | ⟨h2, h3, rfl⟩ | ⟨h2, h3, rfl, oe2⟩
 ·rw [aM2 hy' h2]
  simp -dsimp -implicitDefEqProofs only [go_sem, ↓reduceIte, Tryz.f5, OV.aO, OV.aE, OV.aS, aF, aC, wE, wD]
  exact u5 qW (u4 [] [_]) (aB.le_trans wn3.le (by repeat' (first | exact aB.le_refl _ | refine aB.fT ?_ | refine aB.bD (by first | assumption | (rw [aC _ _ _ _ (by assumption)]; assumption) | (rw [aC _ _ _ _ (by assumption), aC _ _ _ _ (by assumption)]; assumption) | (rw [aC _ _ _ _ (by assumption), aC _ _ _ _ (by assumption), aC _ _ _ _ (by assumption)]; assumption)) ?_)))
 ·rw [aGR hy' h2 h3]
  simp -dsimp -implicitDefEqProofs only [go_sem, ↓reduceIte, Tryz.f5, OV.aO, OV.aE, OV.aS, aF, aC, wE, wD]
  exact u5 qW (u4 [] [_]) (aB.le_trans wn3.le (by repeat' (first | exact aB.le_refl _ | refine aB.fT ?_ | refine aB.bD (by first | assumption | (rw [aC _ _ _ _ (by assumption)]; assumption) | (rw [aC _ _ _ _ (by assumption), aC _ _ _ _ (by assumption)]; assumption) | (rw [aC _ _ _ _ (by assumption), aC _ _ _ _ (by assumption), aC _ _ _ _ (by assumption)]; assumption)) ?_)))
 ·rw [aK4 hy' h2 h3]
  have oe3 := oe2
  obtain ⟨bSP, bSQ, bSR, bSS, bST, bSU, bSV, rfl, a3D, a3E, a3F, a3G, a3H, a3I, a3J⟩ := oe3
  simp -dsimp -implicitDefEqProofs only [go_sem, ↓reduceIte, Tryz.f5, OV.aO, OV.aE, OV.aS, aF, aC, a3D.flat, a3D.one, a3E.flat, a3E.one, a3F.flat, a3F.one, a3G.flat, a3G.one, a3H.flat, a3H.one, a3I.flat, a3I.one, a3J.flat, a3J.one, wE, wD, iS, aP, aT]
  exact aWH (w := fun y => .lR [y, I 0]) oe2 wn3 (by repeat' (first | exact aB.le_refl _ | refine aB.fT ?_ | refine aB.bD (by first | assumption | (rw [aC _ _ _ _ (by assumption)]; assumption) | (rw [aC _ _ _ _ (by assumption), aC _ _ _ _ (by assumption)]; assumption) | (rw [aC _ _ _ _ (by assumption), aC _ _ _ _ (by assumption), aC _ _ _ _ (by assumption)]; assumption)) ?_))
@[go_sem] def bA0 : List Nat := [0, 1, 2, 4, 5, 6, 7, 8, 9, 14, 29, 30, 31, 32, 43, 46]
@[go_sem] def ib8 : List Nat := [2]
@[go_sem] def mk8 : Marks := fun _ => ([], .nil, [])
set_option maxHeartbeats 2000000 in
theorem aHK (s : aR) (pt : List Int) (hs : s.s ≤ 1048576) (tY : pt.length ≤ 1048576) : pN Tryz.prog 8 [.agg s.c, c5 1 (fun n => [I n]) pt] (QA (dG s pt).1.o (fun y => .lR [y, I (dG s pt).2])) := by
 have hs' := s.fR
 have jX := s.bF.fR
 simp only [eN] at hs' jX
 have hok := aOM s (by omega)
 have hcl := aOQ s hs
 simp only [aR.aN, e7.aN] at hok hcl ⊢
 refine sV 50 bA0 ib8 mk8 mix Tryz.func8 rfl (by kernel_rfl) (by simp) fun h => ?_
 simp -dsimp -implicitDefEqProofs only [go_sem, ↓reduceIte, Tryz.f8]
 intro n4 z4
 have z4h := z4
 try simp -dsimp -implicitDefEqProofs only [go_sem, ↓reduceIte, Tryz.f8]
 first | refine aJ.mk (hok) ?_ | refine aL.mk (hok) ?_ | refine aJ.dF (hok) ?_ | refine aL.mk (cZ.gC (hok)) ?_
 simp -dsimp -implicitDefEqProofs only [go_sem, ↓reduceIte, Tryz.f8]
 refine ⟨fun hn => ?_, fun hy => ?_⟩
 ·have hn' : ¬ s.ok := by simpa using hn
  rw [aM1 hn']
  try simp -dsimp -implicitDefEqProofs only [go_sem, ↓reduceIte, Tryz.f8, aF]
  exact u5 qW (u4 [] [_]) (by repeat' (first | exact aB.le_refl _ | refine aB.fT ?_ | refine aB.bD (by first | assumption | (rw [aC _ _ _ _ (by assumption)]; assumption) | (rw [aC _ _ _ _ (by assumption), aC _ _ _ _ (by assumption)]; assumption) | (rw [aC _ _ _ _ (by assumption), aC _ _ _ _ (by assumption), aC _ _ _ _ (by assumption)]; assumption)) ?_))
 have hy' : s.ok := by simpa using hy
 try simp -dsimp -implicitDefEqProofs only [go_sem, ↓reduceIte, Tryz.f8]
 first | refine aJ.mk (fW pt s.bF.aX) ?_ | refine aL.mk (fW pt s.bF.aX) ?_ | refine aJ.dF (fW pt s.bF.aX) ?_ | refine aL.mk (cZ.gC (fW pt s.bF.aX)) ?_
 simp -dsimp -implicitDefEqProofs only [go_sem, ↓reduceIte, Tryz.f8]
 refine ⟨fun hn => ?_, fun hn => ?_⟩
 ·rw [aM2 hy' (by rw [aFA]; simpa using hn)]
  try simp -dsimp -implicitDefEqProofs only [go_sem, ↓reduceIte, Tryz.f8, aF]
  exact u5 qW (u4 [] [_]) (by repeat' (first | exact aB.le_refl _ | refine aB.fT ?_ | refine aB.bD (by first | assumption | (rw [aC _ _ _ _ (by assumption)]; assumption) | (rw [aC _ _ _ _ (by assumption), aC _ _ _ _ (by assumption)]; assumption) | (rw [aC _ _ _ _ (by assumption), aC _ _ _ _ (by assumption), aC _ _ _ _ (by assumption)]; assumption)) ?_))
 have hp' : aFA s pt := by rw [aFA]; simpa using hn
 have a77 := aR.aMM hy'
 have l1 := hy'.2.1
 try simp -dsimp -implicitDefEqProofs only [go_sem, ↓reduceIte, Tryz.f8]
 refine aJ.wn1 hcl z4 ?_
 rintro r l_ g ⟨e, oe, rfl, rfl⟩ wn z4
 have oe1 := oe
 obtain ⟨jZ, mD, kN, aYY, aLW, aGB, aGC, rfl, oM, pU, oN, oO, pF, oQ, oT⟩ := oe1
 simp -dsimp -implicitDefEqProofs only [go_sem, ↓reduceIte, Tryz.f8, OV.aO, OV.aE, OV.aS, aF, aC, oM.flat, oM.one, pU.flat, pU.one, oN.flat, oN.one, oO.flat, oO.one, pF.flat, pF.one, oQ.flat, oQ.one, oT.flat, oT.one]
 intro n6 dY
 have nR : ¬ n6 = n4 := by first | exact dY.1 | exact dY | exact dY.2.1 | exact dY.2 | exact dY.2.2.1 | exact dY.2.2 | exact dY.2.2.2.1 | exact dY.2.2.2 | exact dY.2.2.2.2.1 | exact dY.2.2.2.2 | exact dY.2.2.2.2.2.1 | exact dY.2.2.2.2.2 | exact dY.2.2.2.2.2.2.1 | exact dY.2.2.2.2.2.2 | exact dY.2.2.2.2.2.2.2.1 | exact dY.2.2.2.2.2.2.2 | exact dY.2.2.2.2.2.2.2.2.1 | exact dY.2.2.2.2.2.2.2.2 | exact dY.2.2.2.2.2.2.2.2.2.1 | exact dY.2.2.2.2.2.2.2.2.2 | exact dY.2.2.2.2.2.2.2.2.2.2.1 | exact dY.2.2.2.2.2.2.2.2.2.2 | exact dY.2.2.2.2.2.2.2.2.2.2.2.1 | exact dY.2.2.2.2.2.2.2.2.2.2.2 | exact dY.2.2.2.2.2.2.2.2.2.2.2.2.1 | exact dY.2.2.2.2.2.2.2.2.2.2.2.2 | exact dY.2.2.2.2.2.2.2.2.2.2.2.2.2.1 | exact dY.2.2.2.2.2.2.2.2.2.2.2.2.2
 have wD : (n6 = n4) = False := eq_false nR
 have wE : (n4 = n6) = False := eq_false (Ne.symm nR)
 have a78 : ¬ n4 = n6 := Ne.symm nR
 have sY : g n6 = none := by first | exact dY.1 | exact dY | exact dY.2.1 | exact dY.2 | exact dY.2.2.1 | exact dY.2.2 | exact dY.2.2.2.1 | exact dY.2.2.2 | exact dY.2.2.2.2.1 | exact dY.2.2.2.2 | exact dY.2.2.2.2.2.1 | exact dY.2.2.2.2.2 | exact dY.2.2.2.2.2.2.1 | exact dY.2.2.2.2.2.2 | exact dY.2.2.2.2.2.2.2.1 | exact dY.2.2.2.2.2.2.2 | exact dY.2.2.2.2.2.2.2.2.1 | exact dY.2.2.2.2.2.2.2.2 | exact dY.2.2.2.2.2.2.2.2.2.1 | exact dY.2.2.2.2.2.2.2.2.2 | exact dY.2.2.2.2.2.2.2.2.2.2.1 | exact dY.2.2.2.2.2.2.2.2.2.2 | exact dY.2.2.2.2.2.2.2.2.2.2.2.1 | exact dY.2.2.2.2.2.2.2.2.2.2.2 | exact dY.2.2.2.2.2.2.2.2.2.2.2.2.1 | exact dY.2.2.2.2.2.2.2.2.2.2.2.2 | exact dY.2.2.2.2.2.2.2.2.2.2.2.2.2.1 | exact dY.2.2.2.2.2.2.2.2.2.2.2.2.2
 refine aJ.tM (rS pt tY) z4 ⟨nR, sY⟩ ?_
 rintro r_ l_ g2 ⟨yn, oyn, rfl, rfl⟩ wp z42 z62
 simp -dsimp -implicitDefEqProofs only [go_sem, ↓reduceIte, Tryz.f8, OV.aO, OV.aE, OV.aS, aF, aC, oM.flat, oM.one, pU.flat, pU.one, oN.flat, oN.one, oO.flat, oO.one, pF.flat, pF.one, oQ.flat, oQ.one, oT.flat, oT.one, wE, wD, oyn.flat, oyn.one]
 obtain ⟨g3, aHQ, wn3⟩ := wn.a3B [jZ, .v (I s.bF.b8), .v (I s.bF.aX)] (y' := yn) wp
 have z43 := aB.le_none aHQ z42
 have z63 := aB.le_none aHQ z62
 intro hkl
 have wn4 := wn3.wO (o := .row 9 [[.v .bC, .v (I 0), .v (I 0), .v .bC, .v .bC, .v .bC, .v .bC, .v .bC, .v .bC]]) z43
 have z64 : bK g3 n4 (.row 9 [[.v .bC, .v (I 0), .v (I 0), .v .bC, .v .bC, .v .bC, .v .bC, .v .bC, .v .bC]]) n6 = none := by rw [aC _ _ _ _ nR]; exact z63
 refine cS (keep := bA0) (ib := ib8) (mk := mk8) mix (by kernel_rfl) (fun x : Nat × List OV × aB => [(1, c5 1 (fun n => [I n]) pt), (2, .ip 9 [[c5 3 aV.c s.bF.bN.aH, I s.bF.b8, I s.bF.aX, c5 1 (fun n => [I n]) s.bF.cX, c5 1 (fun x => [c5 1 (fun n => [I n]) x]) s.bF.bO, c5 1 (fun n => [I n]) s.aY, c5 1 (fun b => [.bool b]) s.cB, c5 3 bI.c s.b7, c5 1 (fun n => [I n]) s.b9]] 0 0), (4, .op n4 9 0 0), (6, .op n6 9 0 0), (29, c5 1 (fun b => [.bool b]) s.cB), (30, I s.cB.length), (31, I x.1)]) (fun x => bK x.2.2 n6 (.row 9 (OV.cells [x.2.1]))) (fun x => x.1 ≤ s.aY.length ∧ (∀ i, i < x.1 → ¬ aA8 (gE s pt) s i) ∧ (kC (gE s pt) (oX s pt) x.1).o x.2.1 ∧ x.2.2 n6 = none ∧ eM (bK h n4 (.row 9 [[.v .bC, .v (I 0), .v (I 0), .v .bC, .v .bC, .v .bC, .v .bC, .v .bC, .v .bC]])) (OV.bZ x.2.1) x.2.2) (fun x => s.aY.length - x.1) (0, [jZ, .v (I s.bF.b8), .v (I s.bF.aX), yn, kN, aYY, aLW, aGB, aGC], bK g3 n4 (.row 9 [[.v .bC, .v (I 0), .v (I 0), .v .bC, .v .bC, .v .bC, .v .bC, .v .bC, .v .bC]])) ⟨by simp [dA, cH], aB.fT (aB.fT aHQ), Nat.zero_le _, fun i q => absurd q (Nat.not_lt_zero i), ⟨jZ, yn, kN, aYY, aLW, aGB, aGC, rfl, oM, oyn, oN, oO, pF, oQ, oT⟩, z64, wn4⟩ ?_
 clear oe wn wp wn3 wn4 z64 z63 z62 z43 z42 aHQ oM pU oN oO pF oQ oT
 rintro ⟨k, e, g⟩ ⟨hk, hns, oe, hnb, wn⟩
 simp only at hk hns oe hnb wn ⊢
 have hJ := aBK (gE s pt) (oX s pt) k
 have hL := aGQ (gE s pt) (oX s pt) k
 have hT := zA (gE s pt) (oX s pt) k k (Nat.le_refl _)
 have hS := zB (gE s pt) (oX s pt) a77 k hns
 have hN := aK5 (st := gE s pt) (oX s pt) k
 have hY := aK6 (st := gE s pt) (oX s pt) k
 generalize hm : kC (gE s pt) (oX s pt) k = m at *
 rcases Nat.lt_or_ge k s.aY.length with hlt | hge
 ·have kn : k < s.cB.length := by omega
  have gk : s.cB[k]? = some s.cB[k] := List.getElem?_eq_getElem kn
  have hkt : k < s.bF.bO.length := by omega
  have hut := aU7 hy'.1 (by omega) hkt pt hp'.1
  simp only [e7.aN] at hut
  have e5 : m.aY[k]? = some s.aY[k] := hT.1.trans (List.getElem?_eq_getElem hlt)
  have hsb := a77 _ (List.getElem_mem hlt)
  have hfg := forget m k _ g n6 _ oe hnb wn (by rw [hJ]; show _ ∧ _ ∧ _ ∧ _; simp only [oX] at hL ⊢; omega) (by rw [hJ]; show 0 ≤ (k : Int) ∧ (k : Int) ≤ ((s.bF.bO.length : Nat) : Int) - 1; omega) hS
  simp -dsimp -implicitDefEqProofs only [go_sem, ↓reduceIte, Tryz.f8, gk, hlt]
  refine ⟨fun _ => ⟨kn, fun h1 => ?_, fun h0 => ?_⟩, fun q => by omega⟩
  ·first | refine aJ.mk (hut) ?_ | refine aL.mk (hut) ?_ | refine aJ.dF (hut) ?_ | refine aL.mk (cZ.gC (hut)) ?_
   simp -dsimp -implicitDefEqProofs only [go_sem, ↓reduceIte, Tryz.f8]
   refine ⟨fun hu => ?_, fun hu => ?_⟩
   ·have hst : gE s pt k := ⟨gk.trans (by rw [h1]), hu⟩
    exact ⟨(k + 1, e, g), IntWalk.i64_in _ (by omega), aB.le_refl _, ⟨hlt, nM hns fun q => q.1 hst, hY hst ▸ oe, hnb, wn⟩, by simp only; omega⟩
   ·have aGS : ¬ gE s pt k := fun q => hu q.2
    refine aJ.iF hfg ?_
    clear hfg oe wn
    rintro r h' ⟨e2, g2, ⟨q50, qno⟩, rfl, aPV, tM⟩
    simp only [Int.toNat_natCast, e5] at q50 qno
    by_cases h3 : s.aY[k] = 50
    ·obtain ⟨rfl, oe2⟩ := q50 (by rw [h3])
     rw [aGR hy' hp' ⟨k, hlt, aGS, by rw [List.getElem?_eq_getElem hlt, h3]⟩]
     obtain ⟨g4, aVA, wn4, z44, rfl⟩ := tM.base z4h
     have z64 : g4 n6 = none := by rwa [aC _ _ _ _ nR] at aPV
     simp -dsimp -implicitDefEqProofs only [go_sem, ↓reduceIte, Tryz.f8, OV.aO, OV.aE, OV.aS, aF, aC, wE, wD]
     exact u5 qW (u4 [] [_]) (aB.le_trans wn4.le (by repeat' (first | exact aB.le_refl _ | refine aB.fT ?_ | refine aB.bD (by first | assumption | (rw [aC _ _ _ _ (by assumption)]; assumption) | (rw [aC _ _ _ _ (by assumption), aC _ _ _ _ (by assumption)]; assumption) | (rw [aC _ _ _ _ (by assumption), aC _ _ _ _ (by assumption), aC _ _ _ _ (by assumption)]; assumption)) ?_)))
    ·obtain ⟨rfl, oe2⟩ := qno fun q => h3 (Option.some.inj q)
     simp -dsimp -implicitDefEqProofs only [go_sem, ↓reduceIte, Tryz.f8, OV.aO, OV.aE, OV.aS, aF, aC]
     exact ⟨(k + 1, e2, g2), IntWalk.i64_in _ (by omega), aB.le_refl _, ⟨hlt, nM hns fun q => by
      have := q.2
      rw [List.getElem?_eq_getElem hlt] at this
      exact h3 (Option.some.inj this), hN aGS ▸ oe2, aPV, tM⟩, by simp only; omega⟩
  ·have aGS : ¬ gE s pt k := fun q => by have := q.1; rw [gk] at this; have := Option.some.inj this; simp_all
   refine aJ.iF hfg ?_
   clear hfg oe wn
   rintro r h' ⟨e2, g2, ⟨q50, qno⟩, rfl, aPV, tM⟩
   simp only [Int.toNat_natCast, e5] at q50 qno
   by_cases h3 : s.aY[k] = 50
   ·obtain ⟨rfl, oe2⟩ := q50 (by rw [h3])
    rw [aGR hy' hp' ⟨k, hlt, aGS, by rw [List.getElem?_eq_getElem hlt, h3]⟩]
    obtain ⟨g4, aVA, wn4, z44, rfl⟩ := tM.base z4h
    have z64 : g4 n6 = none := by rwa [aC _ _ _ _ nR] at aPV
    simp -dsimp -implicitDefEqProofs only [go_sem, ↓reduceIte, Tryz.f8, OV.aO, OV.aE, OV.aS, aF, aC, wE, wD]
    exact u5 qW (u4 [] [_]) (aB.le_trans wn4.le (by repeat' (first | exact aB.le_refl _ | refine aB.fT ?_ | refine aB.bD (by first | assumption | (rw [aC _ _ _ _ (by assumption)]; assumption) | (rw [aC _ _ _ _ (by assumption), aC _ _ _ _ (by assumption)]; assumption) | (rw [aC _ _ _ _ (by assumption), aC _ _ _ _ (by assumption), aC _ _ _ _ (by assumption)]; assumption)) ?_)))
   ·obtain ⟨rfl, oe2⟩ := qno fun q => h3 (Option.some.inj q)
    simp -dsimp -implicitDefEqProofs only [go_sem, ↓reduceIte, Tryz.f8, OV.aO, OV.aE, OV.aS, aF, aC]
    exact ⟨(k + 1, e2, g2), IntWalk.i64_in _ (by omega), aB.le_refl _, ⟨hlt, nM hns fun q => by
     have := q.2
     rw [List.getElem?_eq_getElem hlt] at this
     exact h3 (Option.some.inj this), hN aGS ▸ oe2, aPV, tM⟩, by simp only; omega⟩
 ·have hk' : k = s.aY.length := by omega
  have hkn : k = s.cB.length := by omega
  have hstuck : ¬ zC s pt := fun ⟨i, h1, h2⟩ => hns i (by omega) h2
  have hmv : aDK s pt = m := by rw [aDK, ← hk', ← aHJ, hm]
  rw [aK4 hy' hp' hstuck, hmv]
  clear hN hY hS hT
  obtain ⟨g3, aHQ, wn3, z43, rfl⟩ := wn.base z4h
  have z63 : g3 n6 = none := by rwa [aC _ _ _ _ nR] at hnb
  have oe1 := oe
  obtain ⟨bSP, bSQ, bSR, bSS, bST, bSU, bSV, rfl, a3D, a3E, a3F, a3G, a3H, a3I, a3J⟩ := oe1
  rw [hkn]
  simp -dsimp -implicitDefEqProofs only [go_sem, ↓reduceIte, Tryz.f8, OV.aO, OV.aE, OV.aS, aF, aC, a3D.flat, a3D.one, a3E.flat, a3E.one, a3F.flat, a3F.one, a3G.flat, a3G.one, a3H.flat, a3H.one, a3I.flat, a3I.one, a3J.flat, a3J.one, wE, wD, iS, aP, aT, Int.lt_irrefl, Nat.lt_irrefl, false_imp_iff, true_and]
  exact aWH (w := fun y => .lR [y, I 0]) oe wn3 (by repeat' (first | exact aB.le_refl _ | refine aB.fT ?_ | refine aB.bD (by first | assumption | (rw [aC _ _ _ _ (by assumption)]; assumption) | (rw [aC _ _ _ _ (by assumption), aC _ _ _ _ (by assumption)]; assumption) | (rw [aC _ _ _ _ (by assumption), aC _ _ _ _ (by assumption), aC _ _ _ _ (by assumption)]; assumption)) ?_))
theorem aZB (s : aR) (k : Int) : (mW s k).s ≤ s.s := by
 have h1 := s.fR
 have h2 := (mW s k).fR
 have h3 := aKJ bI.s s.b7 k.toNat ⟨0, 0, []⟩
 have h6 : (⟨0, 0, []⟩ : bI).s = 0 := rfl
 simp only [mW, List.length_set, eN] at h1 h2 ⊢
 omega
theorem aPW (st : Nat → Prop) [DecidablePred st] (s : aR) : ∀ k, (kC st s k).s ≤ s.s
 |0 => Nat.le_refl _
 |k + 1 => by
  rw [kC]; split
  ·exact aPW st s k
  ·exact Nat.le_trans (aZB _ _) (aPW st s k)
theorem aZC (s : aR) (pt : List Int) : (dG s pt).1.s ≤ s.s + pt.length := by
 unfold dG
 have hz : rZ.s = 0 := rfl
 split <;> try split
 all_goals try split
 all_goals try (show rZ.s ≤ _; omega)
 show (oX _ pt).s ≤ _
 have h0 := aPW (gE s pt) s s.aY.length
 generalize kC (gE s pt) s s.aY.length = m at *
 have h1 := m.fR
 have h2 := (oX m pt).fR
 have h3 := m.bF.fR
 have h4 := (oX m pt).bF.fR
 simp only [oX, eN] at h1 h2 h3 h4 ⊢
 omega
set_option maxRecDepth 100000
open Go.Proofs
set_option linter.unusedVariables false
set_option linter.unusedSimpArgs false
@[go_sem] def aPX : List Nat := [0, 1, 4, 5, 11, 15, 25]
@[go_sem] def a3K : List Nat := []
@[go_sem] def a3L : Marks := fun _ => ([], .nil, [])
theorem aSC (l : List aA) (left : Int) (h0 : 0 ≤ left) (h1 : left ≤ 1048576) (hc : ∀ x ∈ l, ∀ left : Int, 0 ≤ left → left ≤ 1048576 → e8 Tryz.prog 129 [(.agg (aA.c x)), I left] (I (wL left ((aA.s x))))) : e8 Tryz.prog 114 [c5 5 aA.c l, I left] (I (wL left (uX aA.s l))) := by
 refine eI 27 aPX a3K a3L mix Tryz.func114 rfl (by kernel_rfl) (by simp) fun h => ?_
 simp -dsimp -implicitDefEqProofs only [go_sem, Tryz.f114, ↓reduceIte, aPX, a3K, a3L]
 intro hl
 rw [IntWalk.i64_in _ (by omega)]
 refine ⟨fun hn => ?_, fun hn => ?_⟩
 ·exact (jI (by rw [eN]; omega)).symm
 ·refine cS (keep := aPX) (ib := a3K) (mk := a3L) mix (by kernel_rfl) (fun k : Nat => [(0, c5 5 aA.c l), (1, I (left - l.length - (((l.take k).map aA.s).sum : Int))), (5, I k)]) (fun _ => h) (fun k => k ≤ l.length ∧ 0 ≤ left - l.length - (((l.take k).map aA.s).sum : Int)) (fun k => l.length - k) 0 (by simp [dA, cH, aB.le_refl]; omega) ?_
  intro k ⟨hk, hb⟩
  rcases Nat.lt_or_ge k l.length with hlt | hge
  ·have ea : l[k]? = some l[k] := List.getElem?_eq_getElem hlt
   simp -dsimp -implicitDefEqProofs only [go_sem, ↓reduceIte, Tryz.f114, ea, aA.aN]
   refine fun _ => ⟨fun _ => ⟨hlt, ?_⟩, fun hn => absurd hlt hn⟩
   have hx := hc l[k] (List.getElem_mem hlt) (left - l.length - (((l.take k).map aA.s).sum : Int)) (by omega) (by omega)
   simp only [aA.aN] at hx
   refine aJ.mk hx ?_
   have hs := gI aA.s l k hlt
   have hs' := mM aA.s l (k + 1)
   try dsimp only at hs
   rcases o9 (left - l.length - (((l.take k).map aA.s).sum : Int)) ((aA.s l[k])) with ⟨e, hl1⟩ | ⟨e, hl1⟩
   ·simp -dsimp -implicitDefEqProofs only [go_sem, ↓reduceIte, Tryz.f114, e]
    exact (jI (by rw [eN]; omega)).symm
   ·have tV : (left - l.length - (((l.take k).map aA.s).sum : Int) - ((aA.s l[k]) : Int) < 0) = False := eq_false (by omega)
    simp -dsimp -implicitDefEqProofs only [go_sem, ↓reduceIte, Tryz.f114, e, tV]
    refine ⟨k + 1, ⟨?_, ?_⟩, ⟨by omega, by rw [hs]; omega⟩, by omega⟩
    ·rw [hs]; omega
    ·rw [IntWalk.i64_in _ (by omega)]; rfl
  ·have hk' : k = l.length := by omega
   subst hk'
   simp -dsimp -implicitDefEqProofs only [go_sem, ↓reduceIte, Tryz.f114, Nat.lt_irrefl]
   refine fun _ => ?_
   rw [List.take_length] at hb ⊢
   rw [pY (by rw [eN]; omega), eN]
   omega
@[go_sem] def aXU : List Nat := [0, 1, 2, 4, 10]
@[go_sem] def bA1 : List Nat := [2]
@[go_sem] def bA2 : Marks := fun _ => ([], .nil, [])
theorem aPY (x : aA) (left : Int) (h0 : 0 ≤ left) (h1 : left ≤ 1048576) (hk : ∀ left : Int, 0 ≤ left → left ≤ 1048576 → e8 Tryz.prog 114 [(c5 5 aA.c x.aM), I left] (I (wL left (uX aA.s x.aM)))) : e8 Tryz.prog 129 [.agg x.c, I left] (I (wL left x.s)) := by
 rw [aA.fR]
 simp only [aA.aN]
 refine eI 12 aXU bA1 bA2 mix Tryz.func129 rfl (by kernel_rfl) (by simp) fun h => ?_
 simp -dsimp -implicitDefEqProofs only [go_sem, Tryz.f129, ↓reduceIte, aXU, bA1, bA2]
 refine aJ.mk (hk left (by omega) (by omega)) ?_
 rcases o9 left (uX aA.s x.aM) with ⟨e, hl1⟩ | ⟨e, hl1⟩
 ·simp -dsimp -implicitDefEqProofs only [go_sem, ↓reduceIte, Tryz.f129, e]
 ·have tV : (left - ((uX aA.s x.aM) : Int) < 0) = False := eq_false (by omega)
  simp -dsimp -implicitDefEqProofs only [go_sem, ↓reduceIte, Tryz.f129, e, tV]
 try (rw [pY (by omega)]; omega)
theorem aXV (x : aA) (left : Int) (h0 : 0 ≤ left) (h1 : left ≤ 1048576) : e8 Tryz.prog 129 [.agg x.c, I left] (I (wL left x.s)) :=
 aPY x left h0 h1 fun left h0 h1 => aSC x.aM left h0 h1 fun y hy left h0 h1 => aXV y left h0 h1
termination_by SizeOf.sizeOf x
decreasing_by exact aA.rO hy
@[go_sem] def a3M : List Nat := [0, 1, 2, 4, 11, 17]
@[go_sem] def bMY : List Nat := [2]
@[go_sem] def bMZ : Marks := fun _ => ([], .nil, [])
theorem a79 (x : aV) (left : Int) (h0 : 0 ≤ left) (h1 : left ≤ 1048576) : e8 Tryz.prog 98 [.agg x.c, I left] (I (wL left x.s)) := by
 rw [aV.fR]
 simp only [aV.aN]
 refine eI 19 a3M bMY bMZ mix Tryz.func98 rfl (by kernel_rfl) (by simp) fun h => ?_
 simp -dsimp -implicitDefEqProofs only [go_sem, Tryz.f98, ↓reduceIte, a3M, bMY, bMZ]
 refine fun hl0 => ?_
 rw [IntWalk.i64_in _ (by omega)]
 generalize hL0 : left - ((x.eC.length : Nat) : Int) = L0
 refine ⟨fun hn => (jI (by omega)).symm, fun hn0 => ?_⟩
 refine aJ.mk (aSC x.aZ (L0) (by omega) (by omega) (fun x _ left h0 h1 => aXV x left h0 h1)) ?_
 generalize hL1 : wL (L0) (uX aA.s x.aZ) = L1
 simp -dsimp -implicitDefEqProofs only [go_sem, ↓reduceIte, Tryz.f98]
 have kD := pQ hL1
 refine ⟨fun hn => (jI (by have := kD.1 hn; omega)).symm, fun tV => ?_⟩
 have hp1 := kD.2 tV
 clear kD hL1
 try (rw [pY (by omega)]; omega)
@[go_sem] def aVB : List Nat := [0, 1, 4, 5, 11, 15, 25]
@[go_sem] def bFG : List Nat := []
@[go_sem] def bFH : Marks := fun _ => ([], .nil, [])
theorem a3N (l : List aV) (left : Int) (h0 : 0 ≤ left) (h1 : left ≤ 1048576) (hc : ∀ x ∈ l, ∀ left : Int, 0 ≤ left → left ≤ 1048576 → e8 Tryz.prog 98 [(.agg (aV.c x)), I left] (I (wL left ((aV.s x))))) : e8 Tryz.prog 75 [c5 3 aV.c l, I left] (I (wL left (uX aV.s l))) := by
 refine eI 27 aVB bFG bFH mix Tryz.func75 rfl (by kernel_rfl) (by simp) fun h => ?_
 simp -dsimp -implicitDefEqProofs only [go_sem, Tryz.f75, ↓reduceIte, aVB, bFG, bFH]
 intro hl
 rw [IntWalk.i64_in _ (by omega)]
 refine ⟨fun hn => ?_, fun hn => ?_⟩
 ·exact (jI (by rw [eN]; omega)).symm
 ·refine cS (keep := aVB) (ib := bFG) (mk := bFH) mix (by kernel_rfl) (fun k : Nat => [(0, c5 3 aV.c l), (1, I (left - l.length - (((l.take k).map aV.s).sum : Int))), (5, I k)]) (fun _ => h) (fun k => k ≤ l.length ∧ 0 ≤ left - l.length - (((l.take k).map aV.s).sum : Int)) (fun k => l.length - k) 0 (by simp [dA, cH, aB.le_refl]; omega) ?_
  intro k ⟨hk, hb⟩
  rcases Nat.lt_or_ge k l.length with hlt | hge
  ·have ea : l[k]? = some l[k] := List.getElem?_eq_getElem hlt
   simp -dsimp -implicitDefEqProofs only [go_sem, ↓reduceIte, Tryz.f75, ea, aV.aN]
   refine fun _ => ⟨fun _ => ⟨hlt, ?_⟩, fun hn => absurd hlt hn⟩
   have hx := hc l[k] (List.getElem_mem hlt) (left - l.length - (((l.take k).map aV.s).sum : Int)) (by omega) (by omega)
   simp only [aV.aN] at hx
   refine aJ.mk hx ?_
   have hs := gI aV.s l k hlt
   have hs' := mM aV.s l (k + 1)
   try dsimp only at hs
   rcases o9 (left - l.length - (((l.take k).map aV.s).sum : Int)) ((aV.s l[k])) with ⟨e, hl1⟩ | ⟨e, hl1⟩
   ·simp -dsimp -implicitDefEqProofs only [go_sem, ↓reduceIte, Tryz.f75, e]
    exact (jI (by rw [eN]; omega)).symm
   ·have tV : (left - l.length - (((l.take k).map aV.s).sum : Int) - ((aV.s l[k]) : Int) < 0) = False := eq_false (by omega)
    simp -dsimp -implicitDefEqProofs only [go_sem, ↓reduceIte, Tryz.f75, e, tV]
    refine ⟨k + 1, ⟨?_, ?_⟩, ⟨by omega, by rw [hs]; omega⟩, by omega⟩
    ·rw [hs]; omega
    ·rw [IntWalk.i64_in _ (by omega)]; rfl
  ·have hk' : k = l.length := by omega
   subst hk'
   simp -dsimp -implicitDefEqProofs only [go_sem, ↓reduceIte, Tryz.f75, Nat.lt_irrefl]
   refine fun _ => ?_
   rw [List.take_length] at hb ⊢
   rw [pY (by rw [eN]; omega), eN]
   omega
@[go_sem] def a3O : List Nat := [0, 1, 2, 4, 10]
@[go_sem] def bM1 : List Nat := [2]
@[go_sem] def bM2 : Marks := fun _ => ([], .nil, [])
theorem aVC (x : aI) (left : Int) (h0 : 0 ≤ left) (h1 : left ≤ 1048576) : e8 Tryz.prog 40 [.agg x.c, I left] (I (wL left x.s)) := by
 rw [aI.fR]
 simp only [aI.aN]
 refine eI 12 a3O bM1 bM2 mix Tryz.func40 rfl (by kernel_rfl) (by simp) fun h => ?_
 simp -dsimp -implicitDefEqProofs only [go_sem, Tryz.f40, ↓reduceIte, a3O, bM1, bM2]
 refine aJ.mk (a3N x.aH left (by omega) (by omega) (fun x _ left h0 h1 => a79 x left h0 h1)) ?_
 rcases o9 left (uX aV.s x.aH) with ⟨e, hl1⟩ | ⟨e, hl1⟩
 ·simp -dsimp -implicitDefEqProofs only [go_sem, ↓reduceIte, Tryz.f40, e]
 ·have tV : (left - ((uX aV.s x.aH) : Int) < 0) = False := eq_false (by omega)
  simp -dsimp -implicitDefEqProofs only [go_sem, ↓reduceIte, Tryz.f40, e, tV]
 try (rw [pY (by omega)]; omega)
@[go_sem] def a3P : List Nat := [0, 1, 4, 10]
@[go_sem] def bM3 : List Nat := []
@[go_sem] def bM4 : Marks := fun _ => ([], .nil, [])
theorem xJ (sz : Nat) (es : List (List aD)) (tg : Bool) (left : Int) (h0 : 0 ≤ left) (h1 : left ≤ 1048576) : e8 Tryz.prog 15 [.sl sz es tg, I left] (I (wL left es.length)) := by
 refine eI 12 a3P bM3 bM4 mix Tryz.func15 rfl (by kernel_rfl) (by simp) fun h => ?_
 simp -dsimp -implicitDefEqProofs only [go_sem, Tryz.f15, ↓reduceIte, a3P, bM3, bM4]
 intro hl
 rw [IntWalk.i64_in _ (by omega)]
 refine ⟨fun hn => ?_, fun hn => ?_⟩
 ·exact (jI hn).symm
 ·exact (pY (by omega)).symm
@[go_sem] def aVD : List Nat := [0, 1, 4, 5, 11, 15, 25]
@[go_sem] def bFI : List Nat := []
@[go_sem] def bFJ : Marks := fun _ => ([], .nil, [])
theorem aVE (l : List (List Int)) (left : Int) (h0 : 0 ≤ left) (h1 : left ≤ 1048576) (hc : ∀ x ∈ l, ∀ left : Int, 0 ≤ left → left ≤ 1048576 → e8 Tryz.prog 15 [(c5 1 (fun n => [I n]) x), I left] (I (wL left (x.length)))) : e8 Tryz.prog 41 [c5 1 (fun x => [c5 1 (fun n => [I n]) x]) l, I left] (I (wL left (uX (fun x : List Int => x.length) l))) := by
 refine eI 27 aVD bFI bFJ mix Tryz.func41 rfl (by kernel_rfl) (by simp) fun h => ?_
 simp -dsimp -implicitDefEqProofs only [go_sem, Tryz.f41, ↓reduceIte, aVD, bFI, bFJ]
 intro hl
 rw [IntWalk.i64_in _ (by omega)]
 refine ⟨fun hn => ?_, fun hn => ?_⟩
 ·exact (jI (by rw [eN]; omega)).symm
 ·refine cS (keep := aVD) (ib := bFI) (mk := bFJ) mix (by kernel_rfl) (fun k : Nat => [(0, c5 1 (fun x => [c5 1 (fun n => [I n]) x]) l), (1, I (left - l.length - (((l.take k).map (fun x : List Int => x.length)).sum : Int))), (5, I k)]) (fun _ => h) (fun k => k ≤ l.length ∧ 0 ≤ left - l.length - (((l.take k).map (fun x : List Int => x.length)).sum : Int)) (fun k => l.length - k) 0 (by simp [dA, cH, aB.le_refl]; omega) ?_
  intro k ⟨hk, hb⟩
  rcases Nat.lt_or_ge k l.length with hlt | hge
  ·have ea : l[k]? = some l[k] := List.getElem?_eq_getElem hlt
   simp -dsimp -implicitDefEqProofs only [go_sem, ↓reduceIte, Tryz.f41, ea]
   refine fun _ => ⟨fun _ => ⟨hlt, ?_⟩, fun hn => absurd hlt hn⟩
   have hx := hc l[k] (List.getElem_mem hlt) (left - l.length - (((l.take k).map (fun x : List Int => x.length)).sum : Int)) (by omega) (by omega)
   refine aJ.mk hx ?_
   have hs := gI (fun x : List Int => x.length) l k hlt
   have hs' := mM (fun x : List Int => x.length) l (k + 1)
   try dsimp only at hs
   rcases o9 (left - l.length - (((l.take k).map (fun x : List Int => x.length)).sum : Int)) (l[k].length) with ⟨e, hl1⟩ | ⟨e, hl1⟩
   ·simp -dsimp -implicitDefEqProofs only [go_sem, ↓reduceIte, Tryz.f41, e]
    exact (jI (by rw [eN]; omega)).symm
   ·have tV : (left - l.length - (((l.take k).map (fun x : List Int => x.length)).sum : Int) - (l[k].length : Int) < 0) = False := eq_false (by omega)
    simp -dsimp -implicitDefEqProofs only [go_sem, ↓reduceIte, Tryz.f41, e, tV]
    refine ⟨k + 1, ⟨?_, ?_⟩, ⟨by omega, by rw [hs]; omega⟩, by omega⟩
    ·rw [hs]; omega
    ·rw [IntWalk.i64_in _ (by omega)]; rfl
  ·have hk' : k = l.length := by omega
   subst hk'
   simp -dsimp -implicitDefEqProofs only [go_sem, ↓reduceIte, Tryz.f41, Nat.lt_irrefl]
   refine fun _ => ?_
   rw [List.take_length] at hb ⊢
   rw [pY (by rw [eN]; omega), eN]
   omega
@[go_sem] def a3Q : List Nat := [0, 1, 2, 4, 10, 16, 22]
@[go_sem] def bM5 : List Nat := [2]
@[go_sem] def bM6 : Marks := fun _ => ([], .nil, [])
theorem bFK (x : e7) (left : Int) (h0 : 0 ≤ left) (h1 : left ≤ 1048576) : e8 Tryz.prog 14 [.agg x.c, I left] (I (wL left x.s)) := by
 rw [e7.fR]
 simp only [e7.aN]
 refine eI 24 a3Q bM5 bM6 mix Tryz.func14 rfl (by kernel_rfl) (by simp) fun h => ?_
 simp -dsimp -implicitDefEqProofs only [go_sem, Tryz.f14, ↓reduceIte, a3Q, bM5, bM6]
 refine aJ.mk (aVC x.bN (left) (by omega) (by omega)) ?_
 generalize hL0 : wL left (aI.s x.bN) = L0
 simp -dsimp -implicitDefEqProofs only [go_sem, ↓reduceIte, Tryz.f14]
 have zO := pQ hL0
 refine ⟨fun hn => (jI (by have := zO.1 hn; omega)).symm, fun hn0 => ?_⟩
 have tY := zO.2 hn0
 clear zO hL0
 refine aJ.mk (xJ _ _ _ (L0) (by omega) (by omega)) ?_
 rw [List.length_map]
 generalize hL1 : wL (L0) x.cX.length = L1
 simp -dsimp -implicitDefEqProofs only [go_sem, ↓reduceIte, Tryz.f14]
 have kD := pQ hL1
 refine ⟨fun hn => (jI (by have := kD.1 hn; omega)).symm, fun tV => ?_⟩
 have hp1 := kD.2 tV
 clear kD hL1
 refine aJ.mk (aVE x.bO (L1) (by omega) (by omega) (fun x _ left h0 h1 => (by have hq := xJ 1 (x.map (fun n => [I n])) false left h0 h1; rw [List.length_map] at hq; exact hq))) ?_
 generalize hL2 : wL (L1) (uX (fun x : List Int => x.length) x.bO) = L2
 simp -dsimp -implicitDefEqProofs only [go_sem, ↓reduceIte, Tryz.f14]
 have jX := pQ hL2
 refine ⟨fun hn => (jI (by have := jX.1 hn; omega)).symm, fun hn2 => ?_⟩
 have hp2 := jX.2 hn2
 clear jX hL2
 try (rw [pY (by omega)]; omega)
@[go_sem] def a3R : List Nat := [0, 1, 4, 10]
@[go_sem] def bM8 : List Nat := []
@[go_sem] def bM9 : Marks := fun _ => ([], .nil, [])
theorem a3S (sz : Nat) (es : List (List aD)) (tg : Bool) (left : Int) (h0 : 0 ≤ left) (h1 : left ≤ 1048576) : e8 Tryz.prog 16 [.sl sz es tg, I left] (I (wL left es.length)) := by
 refine eI 12 a3R bM8 bM9 mix Tryz.func16 rfl (by kernel_rfl) (by simp) fun h => ?_
 simp -dsimp -implicitDefEqProofs only [go_sem, Tryz.f16, ↓reduceIte, a3R, bM8, bM9]
 intro hl
 rw [IntWalk.i64_in _ (by omega)]
 refine ⟨fun hn => ?_, fun hn => ?_⟩
 ·exact (jI hn).symm
 ·exact (pY (by omega)).symm
@[go_sem] def a3T : List Nat := [0, 1, 2, 4, 10]
@[go_sem] def bNA : List Nat := [2]
@[go_sem] def bNB : Marks := fun _ => ([], .nil, [])
theorem a8A (x : bI) (left : Int) (h0 : 0 ≤ left) (h1 : left ≤ 1048576) : e8 Tryz.prog 42 [.agg x.c, I left] (I (wL left x.s)) := by
 rw [bI.fR]
 simp only [bI.aN]
 refine eI 12 a3T bNA bNB mix Tryz.func42 rfl (by kernel_rfl) (by simp) fun h => ?_
 simp -dsimp -implicitDefEqProofs only [go_sem, Tryz.f42, ↓reduceIte, a3T, bNA, bNB]
 refine aJ.mk (xJ _ _ _ left (by omega) (by omega)) ?_
 rw [List.length_map]
 rcases o9 left x.iJ.length with ⟨e, hl1⟩ | ⟨e, hl1⟩
 ·simp -dsimp -implicitDefEqProofs only [go_sem, ↓reduceIte, Tryz.f42, e]
 ·have tV : (left - (x.iJ.length : Int) < 0) = False := eq_false (by omega)
  simp -dsimp -implicitDefEqProofs only [go_sem, ↓reduceIte, Tryz.f42, e, tV]
 try (rw [pY (by omega)]; omega)
@[go_sem] def aVF : List Nat := [0, 1, 4, 5, 11, 15, 25]
@[go_sem] def bFL : List Nat := []
@[go_sem] def bFM : Marks := fun _ => ([], .nil, [])
theorem a3U (l : List bI) (left : Int) (h0 : 0 ≤ left) (h1 : left ≤ 1048576) (hc : ∀ x ∈ l, ∀ left : Int, 0 ≤ left → left ≤ 1048576 → e8 Tryz.prog 42 [(.agg (bI.c x)), I left] (I (wL left ((bI.s x))))) : e8 Tryz.prog 17 [c5 3 bI.c l, I left] (I (wL left (uX bI.s l))) := by
 refine eI 27 aVF bFL bFM mix Tryz.func17 rfl (by kernel_rfl) (by simp) fun h => ?_
 simp -dsimp -implicitDefEqProofs only [go_sem, Tryz.f17, ↓reduceIte, aVF, bFL, bFM]
 intro hl
 rw [IntWalk.i64_in _ (by omega)]
 refine ⟨fun hn => ?_, fun hn => ?_⟩
 ·exact (jI (by rw [eN]; omega)).symm
 ·refine cS (keep := aVF) (ib := bFL) (mk := bFM) mix (by kernel_rfl) (fun k : Nat => [(0, c5 3 bI.c l), (1, I (left - l.length - (((l.take k).map bI.s).sum : Int))), (5, I k)]) (fun _ => h) (fun k => k ≤ l.length ∧ 0 ≤ left - l.length - (((l.take k).map bI.s).sum : Int)) (fun k => l.length - k) 0 (by simp [dA, cH, aB.le_refl]; omega) ?_
  intro k ⟨hk, hb⟩
  rcases Nat.lt_or_ge k l.length with hlt | hge
  ·have ea : l[k]? = some l[k] := List.getElem?_eq_getElem hlt
   simp -dsimp -implicitDefEqProofs only [go_sem, ↓reduceIte, Tryz.f17, ea, bI.aN]
   refine fun _ => ⟨fun _ => ⟨hlt, ?_⟩, fun hn => absurd hlt hn⟩
   have hx := hc l[k] (List.getElem_mem hlt) (left - l.length - (((l.take k).map bI.s).sum : Int)) (by omega) (by omega)
   simp only [bI.aN] at hx
   refine aJ.mk hx ?_
   have hs := gI bI.s l k hlt
   have hs' := mM bI.s l (k + 1)
   try dsimp only at hs
   rcases o9 (left - l.length - (((l.take k).map bI.s).sum : Int)) ((bI.s l[k])) with ⟨e, hl1⟩ | ⟨e, hl1⟩
   ·simp -dsimp -implicitDefEqProofs only [go_sem, ↓reduceIte, Tryz.f17, e]
    exact (jI (by rw [eN]; omega)).symm
   ·have tV : (left - l.length - (((l.take k).map bI.s).sum : Int) - ((bI.s l[k]) : Int) < 0) = False := eq_false (by omega)
    simp -dsimp -implicitDefEqProofs only [go_sem, ↓reduceIte, Tryz.f17, e, tV]
    refine ⟨k + 1, ⟨?_, ?_⟩, ⟨by omega, by rw [hs]; omega⟩, by omega⟩
    ·rw [hs]; omega
    ·rw [IntWalk.i64_in _ (by omega)]; rfl
  ·have hk' : k = l.length := by omega
   subst hk'
   simp -dsimp -implicitDefEqProofs only [go_sem, ↓reduceIte, Tryz.f17, Nat.lt_irrefl]
   refine fun _ => ?_
   rw [List.take_length] at hb ⊢
   rw [pY (by rw [eN]; omega), eN]
   omega
@[go_sem] def bA4 : List Nat := [0, 1, 2, 4, 10, 16, 22, 28, 34]
@[go_sem] def ib4 : List Nat := [2]
@[go_sem] def mk4 : Marks := fun _ => ([], .nil, [])
theorem aVG (x : aR) (left : Int) (h0 : 0 ≤ left) (h1 : left ≤ 1048576) : e8 Tryz.prog 4 [.agg x.c, I left] (I (wL left x.s)) := by
 rw [aR.fR]
 simp only [aR.aN]
 refine eI 36 bA4 ib4 mk4 mix Tryz.func4 rfl (by kernel_rfl) (by simp) fun h => ?_
 simp -dsimp -implicitDefEqProofs only [go_sem, Tryz.f4, ↓reduceIte, bA4, ib4, mk4]
 refine aJ.mk (bFK x.bF (left) (by omega) (by omega)) ?_
 generalize hL0 : wL left (e7.s x.bF) = L0
 simp -dsimp -implicitDefEqProofs only [go_sem, ↓reduceIte, Tryz.f4]
 have zO := pQ hL0
 refine ⟨fun hn => (jI (by have := zO.1 hn; omega)).symm, fun hn0 => ?_⟩
 have tY := zO.2 hn0
 clear zO hL0
 refine aJ.mk (xJ _ _ _ (L0) (by omega) (by omega)) ?_
 rw [List.length_map]
 generalize hL1 : wL (L0) x.aY.length = L1
 simp -dsimp -implicitDefEqProofs only [go_sem, ↓reduceIte, Tryz.f4]
 have kD := pQ hL1
 refine ⟨fun hn => (jI (by have := kD.1 hn; omega)).symm, fun tV => ?_⟩
 have hp1 := kD.2 tV
 clear kD hL1
 refine aJ.mk (a3S _ _ _ (L1) (by omega) (by omega)) ?_
 rw [List.length_map]
 generalize hL2 : wL (L1) x.cB.length = L2
 simp -dsimp -implicitDefEqProofs only [go_sem, ↓reduceIte, Tryz.f4]
 have jX := pQ hL2
 refine ⟨fun hn => (jI (by have := jX.1 hn; omega)).symm, fun hn2 => ?_⟩
 have hp2 := jX.2 hn2
 clear jX hL2
 refine aJ.mk (a3U x.b7 (L2) (by omega) (by omega) (fun x _ left h0 h1 => a8A x left h0 h1)) ?_
 generalize hL3 : wL (L2) (uX bI.s x.b7) = L3
 simp -dsimp -implicitDefEqProofs only [go_sem, ↓reduceIte, Tryz.f4]
 have wR := pQ hL3
 refine ⟨fun hn => (jI (by have := wR.1 hn; omega)).symm, fun hn3 => ?_⟩
 have hp3 := wR.2 hn3
 clear wR hL3
 refine aJ.mk (xJ _ _ _ (L3) (by omega) (by omega)) ?_
 rw [List.length_map]
 generalize hL4 : wL (L3) x.b9.length = L4
 simp -dsimp -implicitDefEqProofs only [go_sem, ↓reduceIte, Tryz.f4]
 have hs4 := pQ hL4
 refine ⟨fun hn => (jI (by have := hs4.1 hn; omega)).symm, fun hn4 => ?_⟩
 have hp4 := hs4.2 hn4
 clear hs4 hL4
 try (rw [pY (by omega)]; omega)
end Go.Hl

/-
  Contracts of functions and laws of the layer over the walk.
-/
import Derived.Test.YtgkipnacdihfnaaGreatVvF
import Derived.Test.YtgkipnacdihfnaaGreatVvB
import Derived.Test.YtgkipnacdihfnaaGreatVvD
import Derived.Test.YtgkipnacdihfnaaGreatHlD
import Derived.Test.YtgkipnacdihfnaaGreatVvA
import Derived.Lib.ItoaNum
namespace Go.Hl
set_option maxRecDepth 100000
open Go.Proofs
set_option linter.unusedVariables false
set_option linter.unusedSimpArgs false
theorem tN.aBU {bx : c6 → Option Nat → Option Nat → Option Nat → cB} {h0 h F hh : aA} {nb : Nat} {inp : Int} {S : c6} {om og ov : Option Nat} (H : tN bx h0 nb S om og ov h) (l : List Int)
  (hF : ∀ n, some n = om ∨ some n = og → F n = h n) (hl : hh.le F) (hn : ∀ n, some n = om ∨ some n = og → hh n = none) :
  Shift (.agg [I inp, gQ 4 S.code.length om, gQ 2 S.guards.length og, ints l]) F (.agg [I inp, eI 4 bC.c S.code, eI 2 eC.c S.guards, ints l]) hh := by
 have hc := H.code
 have hg := H.gds
 have ap := H.apart
 cases om with
 |none =>
  have hc0 : S.code = [] := gZ.1 hc
  cases og with
  |none =>
   have hg0 : S.guards = [] := gZ.1 hg
   rw [hc0, hg0]
   exact Shift.of (Sub.agg (.cons (.refl _) (.cons (Sub.nil _ _) (.cons (Sub.nil _ _) (.cons (.refl _) .nil))))) hl
  |some g =>
   have hgF := (hF g (.inr rfl)).trans hg.2
   rw [hc0]
   refine Shift.trans (Shift.of (Sub.agg (.cons (.refl _) (.cons (Sub.nil 4 false) (.cons (.refl _) (.cons (.refl _) .nil))))) (aA.le_refl F)) ?_
   refine jP (n := g) (sz := 2) (S.guards.map eC.c) (hn g (.inr rfl)) ?_ (by simp [gA, gB, gQ]) ?_
   ·intro q
    by_cases e : q = g
    ·subst e; right; rw [aG]; exact hgF.symm
    ·rw [aC _ _ _ _ e]; exact hl q
   ·simp [aD.fK, lM, gQ, List.take_of_length_le]
 |some m =>
  have hmF := (hF m (.inl rfl)).trans hc.2
  cases og with
  |none =>
   have hg0 : S.guards = [] := gZ.1 hg
   rw [hg0]
   refine Shift.trans (Shift.of (Sub.agg (.cons (.refl _) (.cons (.refl _) (.cons (Sub.nil 2 false) (.cons (.refl _) .nil))))) (aA.le_refl F)) ?_
   refine jP (n := m) (sz := 4) (S.code.map bC.c) (hn m (.inl rfl)) ?_ (by simp [gA, gB, gQ]) ?_
   ·intro q
    by_cases e : q = m
    ·subst e; right; rw [aG]; exact hmF.symm
    ·rw [aC _ _ _ _ e]; exact hl q
   ·simp [aD.fK, lM, gQ, List.take_of_length_le]
  |some g =>
   have hgF := (hF g (.inr rfl)).trans hg.2
   have hne : ¬ g = m := fun e => ((ap g).2.1 (by rw [e])).1 rfl
   refine Shift.trans (b := .agg [I inp, gQ 4 S.code.length (some m), eI 2 eC.c S.guards, ints l]) (h2 := aT hh m (.row 4 (rowsOf bC.c S.code))) ?_ ?_
   ·refine jP (n := g) (sz := 2) (S.guards.map eC.c) (by rw [aC _ _ _ _ hne]; exact hn g (.inr rfl)) ?_ (by simp [gA, gB, gQ]; exact fun e => hne e.symm) ?_
    ·intro q
     by_cases e : q = g
     ·subst e; right; rw [aG]; exact hgF.symm
     ·rw [aC _ _ _ _ e]
      by_cases e2 : q = m
      ·subst e2; right; rw [aG]; exact hmF.symm
      ·rw [aC _ _ _ _ e2]; exact hl q
    ·have hne' : ¬ m = g := fun e => hne e.symm
     simp [aD.fK, lM, gQ, List.take_of_length_le, hne']
   ·refine jP (n := m) (sz := 4) (S.code.map bC.c) (hn m (.inl rfl)) (aA.le_refl _) (by simp [gA, gB, gQ]) ?_
    simp [aD.fK, lM, gQ, List.take_of_length_le]
@[go_sem] def aYK : List Nat := [0, 1, 2, 6, 7, 8, 9, 23]
@[go_sem] def bGQ : List Nat := [19, 35]
@[go_sem] def bGR : Marks := fun _ => ([], .nil, [])
theorem aPA {h0 : aA} {nb : Nat} (p : aE) (inp : Int) (hn : h0 nb = none) : dJ (bR p inp) h0 nb ⟨[], [], []⟩ (aT h0 nb (bR p inp ⟨[], [], []⟩ none none none)) :=
 ⟨none, none, none, aG _ _ _, aO6 _ _, rfl, rfl, rfl, fun n h => (by rcases h with rfl | h | h | h; exact hn; cases h; cases h; cases h), fun n h1 _ _ _ => aC _ _ _ _ h1⟩
theorem aUZ {p : aE} (hp : p.ok) (f : Int) (hf : 0 ≤ f ∧ f < p.aI.length) (args : List Int) (ha : fG args) (a84 : args.length ≤ 12) (hl : ∀ F, p.aI[f.toNat]? = some F → (args.length : Int) = F.aZ) {l : List Int} {S' : c6} {t : Nat} (hr : aDQ p f args = .ok ((l, S'), t)) :
  gV Tryz.prog 62 [.ip 1 [p.c] 0 0, I f, ints args] (.agg (oD.c ⟨args.length, S'.code, S'.guards, l⟩)) := by
 obtain ⟨F, ef, hF1, hF2, hF3, hF4⟩ := nN hp hf
 have hla := hl F ef
 simp only [aE.aR]
 refine uU 54 aYK bGQ bGR mix Tryz.func62 rfl (by kernel_rfl) (by simp) fun h => ?_
 simp -dsimp -implicitDefEqProofs only [go_sem, ↓reduceIte, Tryz.f62, ef, aS.aR]
 intro n6 z6
 try simp -dsimp -implicitDefEqProofs only [go_sem, ↓reduceIte, Tryz.f62, ef, aS.aR]
 refine fun nb ⟨hb6, zb⟩ _ => ⟨by decide, ?_⟩
 have wW : ¬ nb = n6 := hb6
 have aLT : ¬ n6 = nb := Ne.symm wW
 have aB4 : (nb = n6) = False := eq_false wW
 have aB5 : (n6 = nb) = False := eq_false aLT
 rw [aM]
 generalize hh6 : aT h n6 (.row 4 [[.v (.int .i64 0), .v .bI, .v .bI, .v .bI]]) = h6
 have zb6 : h6 nb = none := by rw [← hh6, aC _ _ _ _ wW]; exact zb
 have hin := aPA (h0 := h6) p args.length zb6
 refine dA (keep := aYK) (ib := bGQ) (mk := bGR) mix (by kernel_rfl) (fun x : Nat × aA × Option Nat => [(0, .ip 1 [[eI 3 aS.c p.aI]] 0 0), (1, I f), (2, ints args), (6, .op n6 4 0 0), (7, .op nb 6 0 0), (8, jM 1 x.1 x.2.2), (9, I x.1)]) (fun x => cQ x.2.1 (.row 1 (((aB3 x.1).map fun n => [I n]).map (List.map .v))) x.2.2) (fun x => x.1 ≤ args.length ∧ dJ (bR p args.length) h6 nb (xU args x.1) x.2.1 ∧ gX x.2.1 (aB3 x.1) x.2.2) (fun x => args.length - x.1) (0, aT h6 nb (bR p args.length ⟨[], [], []⟩ none none none), none) ⟨by simp [dF, b6, jM], aA.le_refl _, Nat.zero_le _, hin, rfl⟩ ?_
 rintro ⟨k, g, o⟩ ⟨hk, hR, hos⟩
 simp only at hk hR hos ⊢
 have hel : (aB3 k).length = k := by simp [aB3]
 rcases Nat.lt_or_ge k args.length with hlt | hge
 ·have ek : args[k]? = some args[k] := List.getElem?_eq_getElem hlt
  have hsl : (xU args k).code.length = (xU args k).eZ.length := by simp [xU]; omega
  have hvl : (xU args k).eZ.length = k := by simp [xU]; omega
  have hy := aJK k
  cases o with
  |none =>
   rw [bH] at hos
   have k0 : k = 0 := by rw [← hel, hos]; rfl
   subst k0
   simp -dsimp -implicitDefEqProofs only [go_sem, ↓reduceIte, Tryz.f62, bU, aQ, hlt, ek]
   refine fun _ => aH.eM (yX hR ⟨1, 0, 0, ((0 : Nat) : Int)⟩ args[0] hsl (by omega)) ?_
   rintro r h' ⟨rfl, mQ⟩
   simp -dsimp -implicitDefEqProofs only [go_sem, ↓reduceIte, Tryz.f62]
   refine ⟨Nat.zero_lt_one, Nat.zero_lt_one, Nat.zero_lt_one, fun b kE => ⟨(1, h', some b), ⟨rfl, by rw [IntWalk.i64_in _ (by omega)]; rfl⟩, ?_, ⟨hlt, by rw [zL hlt]; exact mQ, kE⟩, by simp only; omega⟩⟩
   rw [hvl]
   exact aA.le_refl _
  |some m =>
   rw [aV] at hos
   simp -dsimp -implicitDefEqProofs only [go_sem, ↓reduceIte, Tryz.f62, aY, aJ, hlt, ek]
   refine fun _ => aH.eM (yX (hR.xT hos) ⟨1, 0, 0, (k : Int)⟩ args[k] hsl (by omega)) ?_
   rintro r h' ⟨rfl, mQ⟩
   obtain ⟨g2, rfl, hg2, mQ⟩ := mQ.base (hR.none hos)
   simp -dsimp -implicitDefEqProofs only [go_sem, ↓reduceIte, Tryz.f62]
   refine ⟨Nat.zero_lt_one, Nat.zero_lt_one, Nat.zero_lt_one, Nat.le_of_eq hel.symm, by omega, by omega, fun b ⟨hbm, kE⟩ => ⟨(k + 1, g2, some b), ⟨rfl, by rw [IntWalk.i64_in _ (by omega)]; rfl⟩, ?_, ⟨hlt, by rw [zL hlt]; exact mQ, kE⟩, by simp only; omega⟩⟩
   simp only [aJ]
   rw [hvl, hy, ← fO (fun n => I n), hel]
   exact lN hg2
 ·have hk' : k = args.length := by omega
  subst hk'
  rw [aO0] at hR
  have hg0 := aBZ args ha a84
  have hie : aB3 args.length = inE args := rfl
  have hr' : kJ (fun t e S => dX p 3001 t e (inE args) S) F.aW 0 (inS args) = .ok ((l, S'), t) := by rw [← hF3]; exact hr
  have hall : ∀ {h0 g : aA}, dJ (bR p args.length) h0 nb (inS args) g → fF Tryz.prog 91 [.op nb 6 0 0, .ip 3 (p.aI.map aS.c) f.toNat 0, ints (inE args)] g (fun r h' => r = ints l ∧ dJ (bR p args.length) h0 nb S' h') := fun hR =>
   fF.sub (.cons (.refl _) (.cons (Sub.ip (by rw [List.getElem?_map, ef]; rfl) (by simp)) (.cons (.refl _) .nil))) (aO8 hp (a55 hp 3001) _ _ nb 0 F (inE args) (inS args) f l S' t hR (by omega) (by omega) (fun x hx => by rw [← hie, hel, hla]; exact hF4 x hx) hf.1 (by omega) hg0 (aLI args) (by rw [← hie, hel]; omega) hr')
  cases o with
  |none =>
   rw [bH, hie] at hos
   simp -dsimp -implicitDefEqProofs only [go_sem, ↓reduceIte, Tryz.f62, bU, aQ, Nat.lt_irrefl, Int.lt_irrefl, ef, aS.aR]
   refine fun _ => ⟨hf.1, hf.2, aH.eM (fF.sub (.cons (.refl _) (.cons (.refl _) (.cons (by rw [hos]; exact Sub.loose _ _ _) .nil))) (hall hR)) ?_⟩
   rintro r h2 ⟨rfl, om, og, ov, H2⟩
   have kE := H2.box
   unfold bR at kE
   have hz := H2.keep (n := n6) (by rw [← hh6, aG])
   have hz1 := hz.1
   simp -dsimp -implicitDefEqProofs only [go_sem, ↓reduceIte, Tryz.f62, kE, hz1, aB4, aB5, aC]
   generalize hE : h2 = h2H at *
   have hle : h.le h2H := by
    have h1 := H2.le
    rw [← hh6] at h1
    intro q
    by_cases e : q = n6
    ·subst e; exact .inl z6
    ·have := h1 q
     rwa [aC _ _ _ _ e] at this
   have hfr : ∀ n, some n = om ∨ some n = og → h n = none ∧ ¬ n = n6 ∧ ¬ n = nb := fun n hn => by
    have h1 := H2.fresh n (by rcases hn with hn | hn; exact .inr (.inl hn); exact .inr (.inr (.inl hn)))
    have h3 : ¬ n = n6 := fun e => by rw [← hh6, e, aG] at h1; cases h1
    refine ⟨by rwa [← hh6, aC _ _ _ _ h3] at h1, h3, fun e => ?_⟩
    rcases hn with hn | hn
    ·exact ((H2.apart n).1 e).1 hn
    ·exact ((H2.apart n).1 e).2.1 hn
   refine ⟨by rw [jH, jH]; rfl, ?_⟩
   rw [oD.aR]
   refine H2.aBU l (fun n hn => ?_) (aA.aP z6 (aA.aP zb (hle))) (fun n hn => (hfr n hn).1)
   obtain ⟨v1, v2, v3⟩ := hfr n hn
   rw [aC _ _ _ _ v2, aC _ _ _ _ v3]
  |some m =>
   rw [aV] at hos
   simp -dsimp -implicitDefEqProofs only [go_sem, ↓reduceIte, Tryz.f62, aY, aJ, Nat.lt_irrefl, Int.lt_irrefl, ef, aS.aR]
   have cS : ¬ nb = m := fun e => by obtain ⟨_, _, _, H1⟩ := hR; have := H1.box; rw [e, hos] at this; cases this
   have dD : ¬ m = nb := Ne.symm cS
   have dI : (nb = m) = False := eq_false cS
   have dH : (m = nb) = False := eq_false dD
   refine fun _ => ⟨hf.1, hf.2, aH.aEP rfl rfl cS (by rw [List.length_map]; exact hel.symm) hos ?_⟩
   refine fF.mono (hall (hR.xT (o := .gone) hos)) ?_
   rintro r h2 ⟨rfl, mQ⟩
   obtain ⟨g3, rfl, hg3, ⟨om, og, ov, H2⟩⟩ := mQ.base (hR.none hos)
   have kE := H2.box
   unfold bR at kE
   have hz := H2.keep (n := n6) (by rw [← hh6, aG])
   have hz1 := hz.1
   have aAU : ¬ n6 = m := fun e => by rw [e, hg3] at hz1; cases hz1
   have aQV : ¬ m = n6 := Ne.symm aAU
   have aQW : (n6 = m) = False := eq_false aAU
   have aQX : (m = n6) = False := eq_false aQV
   simp -dsimp -implicitDefEqProofs only [go_sem, ↓reduceIte, Tryz.f62, kE, hz1, aB4, dI, aB5, aQW, dH, aQX, aC]
   have hgo : ∀ n, some n = om ∨ some n = og → ¬ n = m := fun n hn e => by
    have := (H2.apart n).2.2.2 (by rw [e]; exact hg3)
    rcases hn with hn | hn
    ·exact this.2.1 hn
    ·exact this.2.2.1 hn
   have hhm : h m = none := by
    have h1 := hR.none hos
    rw [← hh6, aC _ _ _ _ (fun e => aAU e.symm)] at h1
    exact h1
   generalize hE : g3 = h2H at *
   have hle : h.le h2H := by
    have h1 := H2.le
    rw [← hh6] at h1
    intro q
    by_cases e : q = n6
    ·subst e; exact .inl z6
    ·have := h1 q
     rwa [aC _ _ _ _ e] at this
   have hfr : ∀ n, some n = om ∨ some n = og → h n = none ∧ ¬ n = n6 ∧ ¬ n = nb := fun n hn => by
    have h1 := H2.fresh n (by rcases hn with hn | hn; exact .inr (.inl hn); exact .inr (.inr (.inl hn)))
    have h3 : ¬ n = n6 := fun e => by rw [← hh6, e, aG] at h1; cases h1
    refine ⟨by rwa [← hh6, aC _ _ _ _ h3] at h1, h3, fun e => ?_⟩
    rcases hn with hn | hn
    ·exact ((H2.apart n).1 e).1 hn
    ·exact ((H2.apart n).1 e).2.1 hn
   refine ⟨by rw [jH, jH]; rfl, ?_⟩
   rw [oD.aR]
   refine H2.aBU l (fun n hn => ?_) (aA.aP z6 (aA.aP zb (aA.aP hhm hle))) (fun n hn => (hfr n hn).1)
   obtain ⟨v1, v2, v3⟩ := hfr n hn
   rw [aC _ _ _ _ v2, aC _ _ _ _ v3, aC _ _ _ _ (hgo n hn)]
open Go.Proofs
set_option linter.unusedVariables false
set_option linter.unusedSimpArgs false
def aD0 (a b : List Int) (out : List Bool) (c : bC) : Bool := if c.lU = 1 then decide (c.aX < a.length ∧ ¬ a.getD c.aX.toNat 0 = b.getD c.aX.toNat 0) else if c.lU = 2 then false else if c.lU = 7 then out.getD c.fA.toNat false else (out.getD c.fA.toNat false || out.getD c.fB.toNat false)
def oS (a b : List Int) (code : List bC) : Nat → List Bool
 |0 => []
 |k + 1 => oS a b code k ++ [aD0 a b (oS a b code k) (code.getD k ⟨0, 0, 0, 0⟩)]
theorem vT (a b : List Int) (code : List bC) : ∀ k, (oS a b code k).length = k
 |0 => rfl
 |k + 1 => by rw [oS, List.length_append, vT a b code k]; rfl
theorem y3 (a b : List Int) (code : List bC) {r k : Nat} (hr : r < k) : ∀ n, k ≤ n → (oS a b code n).getD r false = (oS a b code k).getD r false
 |0, h => by omega
 |n + 1, h => by
  rcases Nat.lt_or_ge n k with h1 | h1
  ·have : k = n + 1 := by omega
   rw [this]
  ·rw [← y3 a b code hr n h1, oS, List.getD_eq_getElem?_getD, List.getElem?_append_left (by rw [vT]; omega), List.getD_eq_getElem?_getD]
theorem aTA (a b : List Int) (code : List bC) {k n : Nat} (h : k < n) : (oS a b code n).getD k false = aD0 a b (oS a b code k) (code.getD k ⟨0, 0, 0, 0⟩) := by
 rw [y3 a b code (Nat.lt_succ_self k) n h, oS, List.getD_eq_getElem?_getD, List.getElem?_append_right (by rw [vT]; exact Nat.le_refl _), vT, Nat.sub_self]; rfl
def aU0 (a b : List Int) (c : bC) : Prop := c.lU = 1 ∧ c.aX < a.length ∧ ¬ a.getD c.aX.toNat 0 = b.getD c.aX.toNat 0
theorem aPB {a b : List Int} {out : List Bool} {inp : Int} {i : Nat} {c : bC} (h : eJ inp i c) : aD0 a b out c = true ↔ aU0 a b c ∨ ∃ x ∈ opsOf c, out.getD x.toNat false = true := by
 unfold aD0 aU0 opsOf
 unfold eJ at h
 by_cases h1 : c.lU = 1
 ·rw [if_pos h1, if_neg (by omega), if_neg (by omega)]; simp [h1]
 rw [if_neg h1]
 by_cases h2 : c.lU = 2
 ·rw [if_pos h2, if_neg (by omega), if_neg (by omega)]; simp [h1]
 rw [if_neg h2]
 by_cases h7 : c.lU = 7
 ·rw [if_pos h7, if_neg (by omega), if_pos h7]; simp [h1]
 ·rw [if_neg h7, if_pos (by omega)]; simp [h1]
theorem aD1 (b : List Bool) (i : Nat) (v : Bool) (r : Nat) (hi : i < b.length) : (b.set i v).getD r false = if i = r then v else b.getD r false := by
 rw [List.getD_eq_getElem?_getD, List.getElem?_set]
 by_cases e : i = r
 ·subst e; rw [if_pos rfl, if_pos rfl, if_pos hi]; rfl
 ·rw [if_neg e, if_neg e, List.getD_eq_getElem?_getD]
theorem aJS (r : Nat) : ∀ (l : List Int) (b : List Bool), (∀ x ∈ l, 0 ≤ x ∧ x < b.length) → ((tJ l b).getD r false = true ↔ b.getD r false = true ∨ (r : Int) ∈ l)
 | [], b, _ => by simp [tJ]
 |x :: l, b, h => by
  have hx := h x List.mem_cons_self
  rw [show tJ (x :: l) b = tJ l (b.set x.toNat true) from rfl, aJS r l _ (fun y hy => by rw [List.length_set]; exact h y (List.mem_cons_of_mem _ hy)), aD1 _ _ _ _ (by omega), List.mem_cons]
  by_cases e : x.toNat = r
  ·rw [if_pos e]; simp [show (r : Int) = x by omega]
  ·rw [if_neg e]; simp [show ¬ (r : Int) = x by omega]
theorem aJT (k r : Nat) : ∀ (l : List Int) (b : List Bool), (∀ x ∈ l, 0 ≤ x ∧ x < (k : Int)) → k < b.length → ((qB k l b).getD r false = true ↔ b.getD r false = true ∨ ((r : Int) ∈ l ∧ b.getD k false = true))
 | [], b, _, _ => by simp [qB]
 |x :: l, b, h, hk => by
  have hx := h x List.mem_cons_self
  rw [show qB k (x :: l) b = qB k l (b.set x.toNat (b.getD x.toNat false || b.getD k false)) from rfl, aJT k r l _ (fun y hy => h y (List.mem_cons_of_mem _ hy)) (by rw [List.length_set]; exact hk), aD1 _ _ _ _ (by omega), aD1 _ _ _ _ (by omega), List.mem_cons, if_neg (show ¬ x.toNat = k by omega)]
  by_cases e : x.toNat = r
  ·rw [if_pos e]
   subst e
   simp [show ((x.toNat : Nat) : Int) = x by omega]
   exact fun _ h => .inr h
  ·rw [if_neg e]; simp [show ¬ (r : Int) = x by omega]
def a26 (a b : List Int) (code : List bC) (k : Nat) (v : List Bool) : Prop := (∃ r c, k ≤ r ∧ code[r]? = some c ∧ v.getD r false = true ∧ aU0 a b c) ∨ ∃ r, r < k ∧ v.getD r false = true ∧ (oS a b code code.length).getD r false = true
theorem aU1 {a b : List Int} {code : List bC} {inp : Int} (hi : ∀ i c, code[i]? = some c → eJ inp i c) {k : Nat} (hk : k < code.length) {v : List Bool} (hv : v.length = code.length) : a26 a b code (k + 1) v ↔ a26 a b code k (qB k (aO1 code k) v) := by
 have ek : code[k]? = some code[k] := List.getElem?_eq_getElem hk
 have hok := hi k _ ek
 have hlt := aQZ hok
 have hg : ∀ r, (qB k (aO1 code k) v).getD r false = true ↔ v.getD r false = true ∨ ((r : Int) ∈ opsOf code[k] ∧ v.getD k false = true) := fun r => by
  rw [aO2 hk]; exact aJT k r _ _ hlt (by omega)
 have hm : (oS a b code code.length).getD k false = true ↔ aU0 a b code[k] ∨ ∃ x ∈ opsOf code[k], (oS a b code code.length).getD x.toNat false = true := by
  rw [aTA a b code hk, show code.getD k ⟨0, 0, 0, 0⟩ = code[k] by rw [List.getD_eq_getElem?_getD, ek]; rfl, aPB hok]
  refine or_congr Iff.rfl ⟨?_, ?_⟩
  ·rintro ⟨x, hx, e⟩
   exact ⟨x, hx, by rw [y3 a b code (k := k) (by have := hlt x hx; omega) _ (by omega)]; exact e⟩
  ·rintro ⟨x, hx, e⟩
   exact ⟨x, hx, by rwa [y3 a b code (k := k) (by have := hlt x hx; omega) _ (by omega)] at e⟩
 constructor
 ·rintro (⟨r, c, h1, h2, h3, h4⟩ | ⟨r, h1, h2, h3⟩)
  ·exact .inl ⟨r, c, by omega, h2, (hg r).2 (.inl h3), h4⟩
  ·rcases Nat.lt_or_ge r k with h5 | h5
   ·exact .inr ⟨r, h5, (hg r).2 (.inl h2), h3⟩
   ·obtain rfl : r = k := by omega
    rcases hm.1 h3 with h6 | ⟨x, hx, h6⟩
    ·exact .inl ⟨r, _, Nat.le_refl _, ek, (hg r).2 (.inl h2), h6⟩
    ·have := hlt x hx
     exact .inr ⟨x.toNat, by omega, (hg _).2 (.inr ⟨by rw [show ((x.toNat : Nat) : Int) = x by omega]; exact hx, h2⟩), h6⟩
 ·rintro (⟨r, c, h1, h2, h3, h4⟩ | ⟨r, h1, h2, h3⟩)
  ·have h5 : v.getD r false = true := by
    rcases (hg r).1 h3 with h | ⟨h, _⟩
    ·exact h
    ·have := hlt _ h; omega
   rcases Nat.lt_or_ge k r with h6 | h6
   ·exact .inl ⟨r, c, by omega, h2, h5, h4⟩
   ·obtain rfl : r = k := by omega
    rw [ek] at h2
    obtain rfl := Option.some.inj h2
    exact .inr ⟨r, by omega, h5, hm.2 (.inl h4)⟩
  ·rcases (hg r).1 h2 with h | ⟨h, h5⟩
   ·exact .inr ⟨r, by omega, h, h3⟩
   ·exact .inr ⟨k, by omega, h5, hm.2 (.inr ⟨_, h, by rw [Int.toNat_natCast]; exact h3⟩)⟩
theorem aHU {a b : List Int} {code : List bC} {inp : Int} (hi : ∀ i c, code[i]? = some c → eJ inp i c) : ∀ (k : Nat) (v : List Bool), k ≤ code.length → v.length = code.length → (a26 a b code k v ↔ a26 a b code 0 (aB6 code k v))
 |0, v, _, _ => Iff.rfl
 |k + 1, v, hk, hv => by
  rw [aU1 hi hk hv, aB6]
  exact aHU hi k _ (by omega) (by rw [aDV]; exact hv)
theorem aTB {t : oD} {sh : Int} {a b : List Int} (ha : (a.length : Int) = sh) {inp : Int} (hi : ∀ i c, t.b7[i]? = some c → eJ inp i c) (he : ∀ x ∈ kW t, 0 ≤ x ∧ x < (t.b7.length : Int)) :
  (∃ r, rX t sh a b r) ↔ ∃ e ∈ kW t, (oS a b t.b7 t.b7.length).getD e.toNat false = true := by
 have h := aHU (a := a) (b := b) hi t.b7.length (tJ (kW t) (List.replicate t.b7.length false)) (Nat.le_refl _) (by rw [aDU, List.length_replicate])
 have hm : ∀ r, (tJ (kW t) (List.replicate t.b7.length false)).getD r false = true ↔ (r : Int) ∈ kW t := fun r => by
  rw [aJS r _ _ (fun x hx => by rw [List.length_replicate]; exact he x hx)]
  constructor
  ·rintro (h | h)
   ·rw [List.getD_eq_getElem?_getD, List.getElem?_replicate] at h; split at h <;> cases h
   ·exact h
  ·exact .inr
 constructor
 ·rintro ⟨r, h1, c, h2, h3, h4, h5⟩
  rcases h.2 (.inl ⟨r, c, Nat.zero_le _, h2, by rw [List.getD_eq_getElem?_getD]; show (qC t.b7 (kW t))[r]?.getD false = true; rw [h1]; rfl, h3, by omega, h5⟩) with ⟨r2, c2, h6, h7, _⟩ | ⟨r2, h6, h7, h8⟩
  ·have := (List.getElem?_eq_some_iff.1 h7).1; omega
  ·exact ⟨r2, (hm r2).1 h7, by rw [Int.toNat_natCast]; exact h8⟩
 ·rintro ⟨e, h1, h2⟩
  have := he e h1
  rcases h.1 (.inr ⟨e.toNat, by omega, (hm _).2 (by rw [show ((e.toNat : Nat) : Int) = e by omega]; exact h1), h2⟩) with ⟨r2, c2, h6, h7, h8, h9, h10, h11⟩ | ⟨r2, h6, _⟩
  ·refine ⟨r2, ?_, c2, h7, h9, by omega, h11⟩
   have hl := (List.getElem?_eq_some_iff.1 h7).1
   have h12 : (qC t.b7 (kW t)).getD r2 false = true := h8
   rw [aLU (b := qC t.b7 (kW t)) (k := r2) (by rw [aJM]; exact hl), h12]
  ·omega
set_option maxRecDepth 100000
open Go.Proofs
set_option linter.unusedVariables false
set_option linter.unusedSimpArgs false
theorem sM (l : List Bool) (x : Bool) : wX (l ++ [x]) = .row 1 (((l.map fun x => [aD.bool x]).map (List.map Cell.v)) ++ [[.v (.bool x)]]) := by simp [wX]
theorem aLZ {a b : List Int} {out : List Bool} {c : bC} (h : c.lU = 1) : aD0 a b out c = decide (c.aX < a.length ∧ ¬ a.getD c.aX.toNat 0 = b.getD c.aX.toNat 0) := if_pos h
theorem aYL {a b : List Int} {out : List Bool} {c : bC} (h : c.lU = 2) : aD0 a b out c = false := by rw [aD0, if_neg (by omega), if_pos h]
theorem a9C {a b : List Int} {out : List Bool} {c : bC} (h : c.lU = 7) : aD0 a b out c = out.getD c.fA.toNat false := by rw [aD0, if_neg (by omega), if_neg (by omega), if_pos h]
theorem aTC {a b : List Int} {out : List Bool} {c : bC} (h1 : ¬ c.lU = 1) (h2 : ¬ c.lU = 2) (h7 : ¬ c.lU = 7) : aD0 a b out c = (out.getD c.fA.toNat false || out.getD c.fB.toNat false) := by rw [aD0, if_neg h1, if_neg h2, if_neg h7]
@[go_sem] def aYM : List Nat := [0, 1, 2, 6, 7, 8, 9, 17, 28, 44, 67, 72]
@[go_sem] def bGS : List Nat := [10, 42, 65, 70, 80]
@[go_sem] def bGT : Marks := fun id => match id with | 9 => ([2, 9, 14, 20], (.op 0 (.op 1 (.op 3 (.op 4 (.op 2 (.op 5 (.op 6 (.op 7 (.op 8 (.op 12 (.op 13 (.op 9 (.op 10 (.op 11 (.op 14 (.op 15 (.op 16 (.op 17 (.op 18 (.op 19 (.op 20 (.op 21 .nil)))))))))))))))))))))), []) | _ => ([], .nil, [])
theorem aYN (t : oD) (a b : List Int) {inp : Int} (hc : t.b7.length ≤ 1048576) (hab : a.length = b.length) (hi : ∀ i c, t.b7[i]? = some c → eJ inp i c) {h : aA} {nb : Nat} (hnb : h nb = some (.row 4 [t.c.map .v])) : fF Tryz.prog 63 [.op nb 4 0 0, ints a, ints b] h fun r h' => r = eI 1 (fun b => [.bool b]) (oS a b t.b7 t.b7.length) ∧ h' = h := by
 rw [oD.aR] at hnb
 simp only [List.map_cons, List.map_nil] at hnb
 refine gK 83 aYM bGS bGT mix Tryz.func63 rfl (by kernel_rfl) (by simp) ?_
 simp -dsimp -implicitDefEqProofs only [go_sem, ↓reduceIte, Tryz.f63, hnb]
 refine ⟨by decide, ?_⟩
 refine dA (keep := aYM) (ib := bGS) (mk := bGT) mix (by kernel_rfl) (fun x : Nat × Option Nat => [(0, .op nb 4 0 0), (1, ints a), (2, ints b), (7, jM 1 x.1 x.2), (8, I x.1)]) (fun x => cQ h (wX (oS a b t.b7 x.1)) x.2) (fun x => x.1 ≤ t.b7.length ∧ gX h (oS a b t.b7 x.1) x.2) (fun x => t.b7.length - x.1) (0, none) ⟨by simp [dF, b6, jM], aA.le_refl _, Nat.zero_le _, rfl⟩ ?_
 rintro ⟨k, o⟩ ⟨hk, hos⟩
 simp only at hk hos ⊢
 have hml := vT a b t.b7 k
 rcases Nat.lt_or_ge k t.b7.length with hlt | hge
 ·have ek : t.b7[k]? = some t.b7[k] := List.getElem?_eq_getElem hlt
  have hins := hi k _ ek
  have hst : oS a b t.b7 (k + 1) = oS a b t.b7 k ++ [aD0 a b (oS a b t.b7 k) t.b7[k]] := by
   rw [oS, show t.b7.getD k ⟨0, 0, 0, 0⟩ = t.b7[k] by rw [List.getD_eq_getElem?_getD, ek]; rfl]
  generalize hM : oS a b t.b7 k = M at *
  have hnext : ∀ (g : aA) (n1 : Nat), h n1 = none → (aT h n1 (wX (M ++ [aD0 a b M t.b7[k]]))).le g → ∃ x' : Nat × Option Nat, (.os n1 1 0 (k + 1) = jM 1 x'.1 x'.2 ∧ IntKind.i64.wrap ((k : Int) + 1) = (x'.1 : Int)) ∧ (cQ h (wX (oS a b t.b7 x'.1)) x'.2).le g ∧ (x'.1 ≤ t.b7.length ∧ gX h (oS a b t.b7 x'.1) x'.2) ∧ t.b7.length - x'.1 < t.b7.length - k := fun g n1 h1 h2 =>
   ⟨(k + 1, some n1), ⟨rfl, by rw [IntWalk.i64_in _ (by omega)]; rfl⟩, by simp only [aJ]; rw [hst]; exact h2, ⟨hlt, h1⟩, by simp only; omega⟩
  cases o with
  |none =>
   rw [bH] at hos
   have k0 : k = 0 := by rw [← hml, hos]; rfl
   subst k0
   subst hos
   rcases (show t.b7[0].lU = 1 ∨ t.b7[0].lU = 2 by unfold eJ at hins; omega) with h1 | h1
   ·by_cases hn : t.b7[0].aX < a.length
    ·have pa : a[t.b7[0].aX.toNat]? = some (a.getD t.b7[0].aX.toNat 0) := cX (by unfold eJ at hins; omega)
     have pb : b[t.b7[0].aX.toNat]? = some (b.getD t.b7[0].aX.toNat 0) := cX (by unfold eJ at hins; omega)
     simp -dsimp -implicitDefEqProofs only [go_sem, ↓reduceIte, Tryz.f63, bU, aQ, hnb, hlt, ek, bC.aR, h1, hn, pa, pb]
     have n0 : 0 ≤ t.b7[0].aX := by unfold eJ at hins; omega
     refine fun _ n zn => ⟨n0, n0, by omega, Nat.zero_lt_one, Nat.zero_lt_one, Nat.zero_lt_one, fun n1 ⟨d1, _, z1⟩ => hnext _ n1 z1 ?_⟩
     rw [aLZ h1, Bool.decide_and, decide_eq_true hn, Bool.true_and, decide_not]
     exact aA.kD (aA.aP zn (aA.aP zn (aA.le_refl _)))
    ·simp -dsimp -implicitDefEqProofs only [go_sem, ↓reduceIte, Tryz.f63, bU, aQ, hnb, hlt, ek, bC.aR, h1, hn]
     refine fun _ n zn => ⟨Nat.zero_lt_one, Nat.zero_lt_one, Nat.zero_lt_one, fun n1 ⟨d1, _, z1⟩ => hnext _ n1 z1 ?_⟩
     rw [aLZ h1, Bool.decide_and, decide_eq_false hn, Bool.false_and]
     exact aA.kD (aA.aP zn (aA.aP zn (aA.le_refl _)))
   ·simp -dsimp -implicitDefEqProofs only [go_sem, ↓reduceIte, Tryz.f63, bU, aQ, hnb, hlt, ek, bC.aR, h1]
    refine fun _ n zn => ⟨Nat.zero_lt_one, Nat.zero_lt_one, Nat.zero_lt_one, fun n1 ⟨d1, _, z1⟩ => hnext _ n1 z1 ?_⟩
    rw [aYL h1]
    exact aA.kD (aA.aP zn (aA.aP zn (aA.le_refl _)))
  |some m =>
   rw [aV] at hos
   by_cases h1 : t.b7[k].lU = 1
   ·by_cases hn : t.b7[k].aX < a.length
    ·have pa : a[t.b7[k].aX.toNat]? = some (a.getD t.b7[k].aX.toNat 0) := cX (by unfold eJ at hins; omega)
     have pb : b[t.b7[k].aX.toNat]? = some (b.getD t.b7[k].aX.toNat 0) := cX (by unfold eJ at hins; omega)
     have n0 : 0 ≤ t.b7[k].aX := by unfold eJ at hins; omega
     unfold wX
     have cS : ¬ nb = m := fun q => by rw [q, hos] at hnb; cases hnb
     have dD : ¬ m = nb := Ne.symm cS
     have dI : (nb = m) = False := eq_false cS
     have dH : (m = nb) = False := eq_false dD
     simp -dsimp -implicitDefEqProofs only [go_sem, ↓reduceIte, Tryz.f63, aY, aJ, hnb, dI, dH, aC, hlt, ek, bC.aR, h1, hn, pa, pb]
     refine fun _ n ⟨dn, zn⟩ => ?_
     have rD : ¬ n = m := dn
     have rV : ¬ m = n := Ne.symm rD
     have tG : (n = m) = False := eq_false rD
     have tF : (m = n) = False := eq_false rV
     simp -dsimp -implicitDefEqProofs only [go_sem, ↓reduceIte, Tryz.f63, tG, tF, aC, h1, hn, pa, pb]
     refine ⟨n0, n0, by omega, Nat.zero_lt_one, Nat.zero_lt_one, Nat.zero_lt_one, by omega, by omega, by omega, fun b1 ⟨d1, _, dm, z1⟩ => hnext _ b1 z1 ?_⟩
     rw [sM, aLZ h1, Bool.decide_and, decide_eq_true hn, Bool.true_and, decide_not, List.take_of_length_le (by simp; omega)]
     exact aA.kD (aA.aP hos (aA.aP zn (aA.aP zn (aA.aP hos (aA.le_refl _)))))
    ·unfold wX
     have cS : ¬ nb = m := fun q => by rw [q, hos] at hnb; cases hnb
     have dD : ¬ m = nb := Ne.symm cS
     have dI : (nb = m) = False := eq_false cS
     have dH : (m = nb) = False := eq_false dD
     simp -dsimp -implicitDefEqProofs only [go_sem, ↓reduceIte, Tryz.f63, aY, aJ, hnb, dI, dH, aC, hlt, ek, bC.aR, h1, hn]
     refine fun _ n ⟨dn, zn⟩ => ?_
     have rD : ¬ n = m := dn
     have rV : ¬ m = n := Ne.symm rD
     have tG : (n = m) = False := eq_false rD
     have tF : (m = n) = False := eq_false rV
     simp -dsimp -implicitDefEqProofs only [go_sem, ↓reduceIte, Tryz.f63, tG, tF, aC, h1, hn]
     refine ⟨Nat.zero_lt_one, Nat.zero_lt_one, Nat.zero_lt_one, by omega, by omega, by omega, fun b1 ⟨d1, _, dm, z1⟩ => hnext _ b1 z1 ?_⟩
     rw [sM, aLZ h1, Bool.decide_and, decide_eq_false hn, Bool.false_and, List.take_of_length_le (by simp; omega)]
     exact aA.kD (aA.aP hos (aA.aP zn (aA.aP zn (aA.aP hos (aA.le_refl _)))))
   by_cases h2 : t.b7[k].lU = 2
   ·unfold wX
    have cS : ¬ nb = m := fun q => by rw [q, hos] at hnb; cases hnb
    have dD : ¬ m = nb := Ne.symm cS
    have dI : (nb = m) = False := eq_false cS
    have dH : (m = nb) = False := eq_false dD
    simp -dsimp -implicitDefEqProofs only [go_sem, ↓reduceIte, Tryz.f63, aY, aJ, hnb, dI, dH, aC, hlt, ek, bC.aR, h2]
    refine fun _ n ⟨dn, zn⟩ => ?_
    have rD : ¬ n = m := dn
    have rV : ¬ m = n := Ne.symm rD
    have tG : (n = m) = False := eq_false rD
    have tF : (m = n) = False := eq_false rV
    simp -dsimp -implicitDefEqProofs only [go_sem, ↓reduceIte, Tryz.f63, tG, tF, aC, h2]
    refine ⟨Nat.zero_lt_one, Nat.zero_lt_one, Nat.zero_lt_one, by omega, by omega, by omega, fun b1 ⟨d1, _, dm, z1⟩ => hnext _ b1 z1 ?_⟩
    rw [sM, aYL h2, List.take_of_length_le (by simp; omega)]
    exact aA.kD (aA.aP hos (aA.aP zn (aA.aP zn (aA.aP hos (aA.le_refl _)))))
   have n0 : 0 ≤ t.b7[k].fA ∧ t.b7[k].fA < k := by unfold eJ at hins; omega
   have ga := aLU (b := M) (k := t.b7[k].fA.toNat) (by omega)
   by_cases h7 : t.b7[k].lU = 7
   ·unfold wX
    have cS : ¬ nb = m := fun q => by rw [q, hos] at hnb; cases hnb
    have dD : ¬ m = nb := Ne.symm cS
    have dI : (nb = m) = False := eq_false cS
    have dH : (m = nb) = False := eq_false dD
    simp -dsimp -implicitDefEqProofs only [go_sem, ↓reduceIte, Tryz.f63, aY, aJ, hnb, dI, dH, aC, hlt, ek, bC.aR, h7, ga]
    refine fun _ n ⟨dn, zn⟩ => ?_
    have rD : ¬ n = m := dn
    have rV : ¬ m = n := Ne.symm rD
    have tG : (n = m) = False := eq_false rD
    have tF : (m = n) = False := eq_false rV
    simp -dsimp -implicitDefEqProofs only [go_sem, ↓reduceIte, Tryz.f63, tG, tF, aC, h7, ga]
    refine ⟨n0.1, n0.2, Nat.zero_lt_one, Nat.zero_lt_one, Nat.zero_lt_one, by omega, by omega, by omega, fun b1 ⟨d1, _, dm, z1⟩ => hnext _ b1 z1 ?_⟩
    rw [sM, a9C h7, List.take_of_length_le (by simp; omega)]
    exact aA.kD (aA.aP hos (aA.aP zn (aA.aP zn (aA.aP hos (aA.le_refl _)))))
   ·have n1 : 0 ≤ t.b7[k].fB ∧ t.b7[k].fB < k := by unfold eJ at hins; omega
    have gb := aLU (b := M) (k := t.b7[k].fB.toNat) (by omega)
    unfold wX
    have cS : ¬ nb = m := fun q => by rw [q, hos] at hnb; cases hnb
    have dD : ¬ m = nb := Ne.symm cS
    have dI : (nb = m) = False := eq_false cS
    have dH : (m = nb) = False := eq_false dD
    simp -dsimp -implicitDefEqProofs only [go_sem, ↓reduceIte, Tryz.f63, aY, aJ, hnb, dI, dH, aC, hlt, ek, bC.aR, h1, h2, h7, ga, gb]
    refine fun _ n ⟨dn, zn⟩ => ?_
    have rD : ¬ n = m := dn
    have rV : ¬ m = n := Ne.symm rD
    have tG : (n = m) = False := eq_false rD
    have tF : (m = n) = False := eq_false rV
    simp -dsimp -implicitDefEqProofs only [go_sem, ↓reduceIte, Tryz.f63, tG, tF, aC, h1, h2, h7, ga, gb]
    refine ⟨n0.1, n0.2, fun hq => ?_, fun hq => ?_⟩
    ·refine ⟨n1.1, n1.2, Nat.zero_lt_one, Nat.zero_lt_one, Nat.zero_lt_one, by omega, by omega, by omega, fun b1 ⟨d1, _, dm, z1⟩ => hnext _ b1 z1 ?_⟩
     rw [sM, aTC h1 h2 h7, hq, Bool.false_or, List.take_of_length_le (by simp; omega)]
     exact aA.kD (aA.aP hos (aA.aP zn (aA.aP zn (aA.aP hos (aA.le_refl _)))))
    ·refine ⟨Nat.zero_lt_one, Nat.zero_lt_one, Nat.zero_lt_one, by omega, by omega, by omega, fun b1 ⟨d1, _, dm, z1⟩ => hnext _ b1 z1 ?_⟩
     rw [sM, aTC h1 h2 h7, hq, Bool.true_or, List.take_of_length_le (by simp; omega)]
     exact aA.kD (aA.aP hos (aA.aP zn (aA.aP zn (aA.aP hos (aA.le_refl _)))))
 ·have hk' : k = t.b7.length := by omega
  subst hk'
  cases o with
  |none =>
   rw [bH] at hos
   rw [hos]
   simp -dsimp -implicitDefEqProofs only [go_sem, ↓reduceIte, Tryz.f63, bU, aQ, hnb, Nat.lt_irrefl, Int.lt_irrefl]
   exact fun _ => ⟨_, h, Shift.of (Sub.loose _ _ _) (aA.le_refl _), rfl, rfl⟩
  |some m =>
   rw [aV] at hos
   have cS : ¬ nb = m := fun q => by rw [q, hos] at hnb; cases hnb
   have dD : ¬ m = nb := Ne.symm cS
   have dI : (nb = m) = False := eq_false cS
   have dH : (m = nb) = False := eq_false dD
   simp -dsimp -implicitDefEqProofs only [go_sem, ↓reduceIte, Tryz.f63, aY, aJ, hnb, dI, dH, aC, Nat.lt_irrefl, Int.lt_irrefl]
   exact fun _ => ⟨_, h, sK ((oS a b t.b7 t.b7.length).map fun x => [.bool x]) hos (aA.le_refl _) _ (by rw [List.length_map, hml]), rfl, rfl⟩
set_option maxRecDepth 100000
open Go.Proofs
set_option linter.unusedVariables false
set_option linter.unusedSimpArgs false
theorem aU2 {j : eU} {k : Nat} {point : List Int} {l : List Int} {S : c6} (hR : jW j.aU j.cO (bJ j k) = (⟨(bJ j k).length, S.code, S.guards, l⟩, 0)) (hpl : (j.cJ.length : Int) = j.bK) {inp : Int} (hi : ∀ i c, S.code[i]? = some c → eJ inp i c)
  (he : ∀ x ∈ kW ⟨(bJ j k).length, S.code, S.guards, l⟩, 0 ≤ x ∧ x < (S.code.length : Int)) :
  aDX j k point ↔ ∀ e ∈ kW ⟨(bJ j k).length, S.code, S.guards, l⟩, ¬ (oS j.cJ point S.code S.code.length).getD e.toNat false = true := by
 rw [aDX, hR]
 have h := aTB (t := ⟨(bJ j k).length, S.code, S.guards, l⟩) (b := point) hpl hi he
 constructor
 ·rintro ⟨_, h1⟩ e h2 h3
  exact h1 (h.2 ⟨e, h2, h3⟩)
 ·intro h1
  refine ⟨rfl, fun h2 => ?_⟩
  obtain ⟨e, h3, h4⟩ := h.1 h2
  exact h1 e h3 h4
@[go_sem] def aHV : List Nat := [0, 1, 2, 6, 7, 10, 11, 12, 13, 14, 41, 63, 68, 79, 84, 104]
@[go_sem] def aYO : List Nat := []
@[go_sem] def aYP : Marks := fun id => match id with | 1 => ([11], (.op 0 (.op 1 (.op 2 (.op 3 (.op 4 (.op 5 (.op 6 (.op 7 (.op 8 (.op 9 (.op 10 (.op 11 (.op 12 .nil))))))))))))), []) | 2 => ([8], (.op 0 (.op 1 (.op 2 (.op 3 (.op 4 (.op 5 (.op 6 (.op 7 (.op 8 (.op 9 (.op 10 (.op 11 (.op 12 (.op 13 (.op 14 (.op 15 .nil)))))))))))))))), []) | 5 => ([8, 9, 10], (.op 0 (.op 1 (.op 2 (.op 3 (.op 4 (.op 5 (.op 6 (.op 7 (.alt 8 (.op 9 (.op 10 .nil)) 9 (.op 8 (.op 10 .nil))))))))))), []) | _ => ([], .nil, [])
theorem aYQ {j : eU} (hj : j.ok) {k : Nat} (hk : k < j.cP.length) (point : List Int) (hpt : (point.length : Int) = j.bK) : gV Tryz.prog 31 [.ip 5 [j.c] 0 0, I k, ints point] (.bool (decide (aDX j k point))) := by
 obtain ⟨t1, t2, t3, t4, t5, t6, t7, t8⟩ := oX hj hk
 obtain ⟨F, eF, hf, hF, ok⟩ := qN hj
 obtain ⟨F2, eF2, hO1, hO2, hO3, hO4⟩ := nN hj.1 hf
 have hargs : gV Tryz.prog 60 [ints j.cJ, ints (j.cP.getD k [])] (ints (bJ j k)) := a2P j.cJ (j.cP.getD k []) (by omega) (by omega)
 have vC := a2S hj.1 j.cO hf (bJ j k) t2 t4 t3
 have hok := (uC hj.1 j.cO hf (bJ j k) t2 t3).1
 have hsim := (uC hj.1 j.cO hf (bJ j k) t2 t3).2
 have her := aBS j.aU 1 j.cO ((bJ j k).map fun n => [n])
 have hrec := fun l S' t => aUZ (l := l) (S' := S') (t := t) hj.1 j.cO hf (bJ j k) t2 t4 t3
 rw [aE.aR] at vC
 simp only [aE.aR] at hrec
 simp only [eU.aR]
 refine gD 105 aHV aYO aYP mix Tryz.func31 rfl (by kernel_rfl) (by simp) fun h => ?_
 simp -dsimp -implicitDefEqProofs only [go_sem, ↓reduceIte, Tryz.f31, t1]
 refine ⟨hk, ?_⟩
 refine aH.mk hargs ?_
 simp -dsimp -implicitDefEqProofs only [go_sem, ↓reduceIte, Tryz.f31]
 refine aH.mk (vC.sub (.cons (Sub.fP rfl rfl rfl) (.cons (.refl _) (.cons (.refl _) .nil)))) ?_
 simp -dsimp -implicitDefEqProofs only [go_sem, ↓reduceIte, Tryz.f31]
 cases hX : aDQ j.aU j.cO (bJ j k) with
 |error c =>
  rw [hX] at hsim
  cases hY : xW j.aU 1 j.cO ((bJ j k).map fun n => [n]) with
  |ok q => rw [hY] at hsim; exact hsim.elim
  |error d =>
   have hd : ¬ d = 0 := by rcases her d hY with rfl | rfl <;> decide
   rw [hY] at hsim
   have h1 : c = d := hsim
   rw [aJP]
   refine ⟨fun _ => ?_, fun q => absurd q hd⟩
   exact (decide_eq_false fun z => hd (by have := z.1; rw [jW, hX] at this; exact h1.symm.trans this)).symm
 |ok q =>
  obtain ⟨⟨l, S⟩, t⟩ := q
  rw [hX] at hsim
  cases hY : xW j.aU 1 j.cO ((bJ j k).map fun n => [n]) with
  |error d => rw [hY] at hsim; exact hsim.elim
  |ok q2 =>
  obtain ⟨vs, t'⟩ := q2
  obtain ⟨g1, g2, ⟨g3, g4⟩, g5⟩ := hok _ _ hX
  simp only at g1 g2 g3 g4 g5
  unfold l5 at g5
  have g6 := g1.cap
  have g7 := g1.oY
  have g8 := g1.len
  have hR : jW j.aU j.cO (bJ j k) = (⟨(bJ j k).length, S.code, S.guards, l⟩, 0) := by rw [jW, hX]
  have l0 : l[Int.toNat 0]? = some (l.getD 0 0) := cX (by rw [g3, hO3]; omega)
  have hpl : (j.cJ.length : Int) = j.bK := ok.2.1.1
  have hends : ∀ x ∈ kW ⟨(bJ j k).length, S.code, S.guards, l⟩, 0 ≤ x ∧ x < (S.code.length : Int) := fun x hx => by
   rw [kW, pE] at hx
   rcases List.mem_append.1 hx with hx | hx
   ·rcases List.mem_append.1 hx with hx | hx
    ·rw [List.mem_singleton.1 hx]
     show 0 ≤ l.getD 0 0 ∧ l.getD 0 0 < (S.code.length : Int)
     rw [List.getD_eq_getElem?_getD, List.getElem?_eq_getElem (by rw [g3, hO3]; omega)]
     have := g4 _ (List.getElem_mem (h := (by rw [g3, hO3]; omega : 0 < l.length)))
     unfold lG at this
     rw [g8]; exact this
    ·obtain ⟨gg, hgg, rfl⟩ := List.mem_map.1 hx
     rw [g8]; exact g1.gds gg hgg
   ·obtain ⟨cc, hcc, rfl⟩ := List.mem_map.1 hx
    obtain ⟨h1, h2⟩ := List.mem_filter.1 hcc
    obtain ⟨q, hq, rfl⟩ := List.mem_iff_getElem.1 h1
    have h3 := g1.ins q S.code[q] (List.getElem?_eq_getElem hq)
    have h4 : (S.code[q]).lU = 6 := by simpa using h2
    show 0 ≤ (S.code[q]).fB ∧ (S.code[q]).fB < (S.code.length : Int)
    have hq' : q < S.code.length := hq
    unfold eJ at h3
    omega
  have hst := aU2 (point := point) hR hpl g1.ins hends
  have hmv := fun (h : aA) (nb : Nat) => aYN ⟨(bJ j k).length, S.code, S.guards, l⟩ j.cJ point (by simp only; omega) (by omega) g1.ins (h := h) (nb := nb)
  have hml := vT j.cJ point S.code S.code.length
  simp only [oD.aR] at hmv
  have m0 : l.getD 0 0 ∈ kW ⟨(bJ j k).length, S.code, S.guards, l⟩ := by rw [kW, pE]; exact List.mem_append_left _ (List.mem_append_left _ List.mem_cons_self)
  have mG : ∀ g ∈ S.guards, g.aDO ∈ kW ⟨(bJ j k).length, S.code, S.guards, l⟩ := fun g hg => by rw [kW, pE]; exact List.mem_append_left _ (List.mem_append_right _ (List.mem_map.2 ⟨g, hg, rfl⟩))
  have mC : ∀ c ∈ S.code, c.lU = 6 → c.fB ∈ kW ⟨(bJ j k).length, S.code, S.guards, l⟩ := fun c hc h6 => by rw [kW]; exact List.mem_append_right _ (List.mem_map.2 ⟨c, List.mem_filter.2 ⟨hc, by simpa using h6⟩, rfl⟩)
  generalize oS j.cJ point S.code S.code.length = M at *
  have gM : ∀ x ∈ kW ⟨(bJ j k).length, S.code, S.guards, l⟩, M[x.toNat]? = some (M.getD x.toNat false) := fun x hx => aLU (by have := hends x hx; omega)
  have a56 := hrec l S t hX
  simp only [oD.aR] at a56
  rw [show aJP (.ok (vs, t')) = (vs.map (·.getD 0 0), (t' : Int), 0) from rfl]
  refine ⟨fun q => absurd rfl q, fun _ => ?_⟩
  have a57 := a56.sub (.cons (Sub.fP (sz := 5) (es := [[eI 3 aS.c j.aU.aI, I j.cO, I j.bK, eI 1 (fun n => [I n]) j.cJ, eI 1 (fun x => [eI 1 (fun n => [I n]) x]) j.cP]]) (i := 0) (off := 0) (sz' := 1) (e' := [eI 3 aS.c j.aU.aI]) rfl rfl rfl) (.cons (.refl _) (.cons (.refl _) .nil)))
  refine ⟨?_, fun n hn => ?_⟩
  ·refine aH.mk a57 ?_
   simp -dsimp -implicitDefEqProofs only [go_sem, ↓reduceIte, Tryz.f31]
   intro n hn
   rw [aM]
   generalize hh7 : aT h n (.row 4 [[.v (I (bJ j k).length), .v (eI 4 bC.c S.code), .v (eI 2 eC.c S.guards), .v (ints l)]]) = h7
   have h7n : h7 n = some (.row 4 [[.v (I (bJ j k).length), .v (eI 4 bC.c S.code), .v (eI 2 eC.c S.guards), .v (ints l)]]) := by rw [← hh7, aG]
   have aDZ : h.le h7 := by rw [← hh7]; exact aA.aP hn (aA.le_refl _)
   refine aH.eM (hmv h7 n h7n) ?_
   rintro r h' ⟨rfl, rfl⟩
   simp -dsimp -implicitDefEqProofs only [go_sem, ↓reduceIte, Tryz.f31, h7n, l0, gM _ m0]
   have e0 := hends _ m0
   refine ⟨by rw [g3, hO3]; omega, e0.1, by rw [hml]; exact e0.2, fun hq => ?_, fun hq => ?_⟩
   ·exact ⟨(decide_eq_false fun z => hst.1 z _ m0 hq).symm, aDZ⟩
   refine dA (keep := aHV) (ib := aYO) (mk := aYP) mix (by kernel_rfl) (fun i : Nat => [(11, .op n 4 0 0), (12, eI 1 (fun b => [.bool b]) M), (13, I i)]) (fun _ => h') (fun i => i ≤ S.guards.length ∧ ∀ g ∈ S.guards.take i, M.getD g.aDO.toNat false = false) (fun i => S.guards.length - i) 0 ⟨by simp [dF, b6], aA.le_refl _, Nat.zero_le _, by simp⟩ ?_
   rintro i ⟨hi, hall⟩
   rcases Nat.lt_or_ge i S.guards.length with hlt | hge
   ·have eg : S.guards[i]? = some S.guards[i] := List.getElem?_eq_getElem hlt
    have mg := mG _ (List.getElem_mem hlt)
    have eg2 := hends _ mg
    simp -dsimp -implicitDefEqProofs only [go_sem, ↓reduceIte, Tryz.f31, h7n, hlt, eg, eC.aR, gM _ mg]
    refine fun _ => ⟨eg2.1, by rw [hml]; exact eg2.2, fun hq => ?_, fun hq => ?_⟩
    ·exact ⟨(decide_eq_false fun z => hst.1 z _ mg hq).symm, aDZ⟩
    ·exact ⟨i + 1, by rw [IntWalk.i64_in _ (by omega)]; rfl, ⟨hlt, j8 hlt hall hq⟩, by omega⟩
   have hi' : i = S.guards.length := by omega
   subst hi'
   rw [List.take_length] at hall
   simp -dsimp -implicitDefEqProofs only [go_sem, ↓reduceIte, Tryz.f31, h7n, Nat.lt_irrefl, Int.lt_irrefl]
   refine fun _ => ?_
   refine dA (keep := aHV) (ib := aYO) (mk := aYP) mix (by kernel_rfl) (fun i : Nat => [(11, .op n 4 0 0), (12, eI 1 (fun b => [.bool b]) M), (14, I i)]) (fun _ => h') (fun i => i ≤ S.code.length ∧ ∀ c ∈ S.code.take i, c.lU = 6 → M.getD c.fB.toNat false = false) (fun i => S.code.length - i) 0 ⟨by simp [dF, b6], aA.le_refl _, Nat.zero_le _, by simp⟩ ?_
   rintro i ⟨hi, aL0⟩
   rcases Nat.lt_or_ge i S.code.length with hlt | hge
   ·have eg : S.code[i]? = some S.code[i] := List.getElem?_eq_getElem hlt
    by_cases h6 : S.code[i].lU = 6
    ·have mg := mC _ (List.getElem_mem hlt) h6
     have eg2 := hends _ mg
     simp -dsimp -implicitDefEqProofs only [go_sem, ↓reduceIte, Tryz.f31, h7n, hlt, eg, bC.aR, h6, gM _ mg]
     refine fun _ => ⟨eg2.1, by rw [hml]; exact eg2.2, fun hq => ?_, fun hq => ?_⟩
     ·exact ⟨(decide_eq_false fun z => hst.1 z _ mg hq).symm, aDZ⟩
     ·exact ⟨i + 1, by rw [IntWalk.i64_in _ (by omega)]; rfl, ⟨hlt, j8 hlt aL0 fun _ => hq⟩, by omega⟩
    ·simp -dsimp -implicitDefEqProofs only [go_sem, ↓reduceIte, Tryz.f31, h7n, hlt, eg, bC.aR, h6]
     exact fun _ => ⟨i + 1, by rw [IntWalk.i64_in _ (by omega)]; rfl, ⟨hlt, j8 hlt aL0 fun q => absurd q h6⟩, by omega⟩
   have hi' : i = S.code.length := by omega
   subst hi'
   rw [List.take_length] at aL0
   simp -dsimp -implicitDefEqProofs only [go_sem, ↓reduceIte, Tryz.f31, h7n, Nat.lt_irrefl, Int.lt_irrefl]
   refine fun _ => ⟨(decide_eq_true (hst.2 fun e he => ?_)).symm, aDZ⟩
   rw [kW, pE] at he
   rcases List.mem_append.1 he with he | he
   ·rcases List.mem_append.1 he with he | he
    ·rw [List.mem_singleton.1 he]
     have hq' : M.getD (l.getD 0 0).toNat false = false := hq
     show ¬ M.getD (l.getD 0 0).toNat false = true
     rw [hq']; simp
    ·obtain ⟨gg, hgg, rfl⟩ := List.mem_map.1 he
     rw [hall gg hgg]; simp
   ·obtain ⟨cc, hcc, rfl⟩ := List.mem_map.1 he
    obtain ⟨h1, h2⟩ := List.mem_filter.1 hcc
    rw [aL0 cc h1 (by simpa using h2)]; simp
  ·refine aH.mk a57 ?_
   simp -dsimp -implicitDefEqProofs only [go_sem, ↓reduceIte, Tryz.f31]
   rw [aM]
   generalize hh7 : aT h n (.row 4 [[.v (I (bJ j k).length), .v (eI 4 bC.c S.code), .v (eI 2 eC.c S.guards), .v (ints l)]]) = h7
   have h7n : h7 n = some (.row 4 [[.v (I (bJ j k).length), .v (eI 4 bC.c S.code), .v (eI 2 eC.c S.guards), .v (ints l)]]) := by rw [← hh7, aG]
   have aDZ : h.le h7 := by rw [← hh7]; exact aA.aP hn (aA.le_refl _)
   refine aH.eM (hmv h7 n h7n) ?_
   rintro r h' ⟨rfl, rfl⟩
   simp -dsimp -implicitDefEqProofs only [go_sem, ↓reduceIte, Tryz.f31, h7n, l0, gM _ m0]
   have e0 := hends _ m0
   refine ⟨by rw [g3, hO3]; omega, e0.1, by rw [hml]; exact e0.2, fun hq => ?_, fun hq => ?_⟩
   ·exact ⟨(decide_eq_false fun z => hst.1 z _ m0 hq).symm, aDZ⟩
   refine dA (keep := aHV) (ib := aYO) (mk := aYP) mix (by kernel_rfl) (fun i : Nat => [(11, .op n 4 0 0), (12, eI 1 (fun b => [.bool b]) M), (13, I i)]) (fun _ => h') (fun i => i ≤ S.guards.length ∧ ∀ g ∈ S.guards.take i, M.getD g.aDO.toNat false = false) (fun i => S.guards.length - i) 0 ⟨by simp [dF, b6], aA.le_refl _, Nat.zero_le _, by simp⟩ ?_
   rintro i ⟨hi, hall⟩
   rcases Nat.lt_or_ge i S.guards.length with hlt | hge
   ·have eg : S.guards[i]? = some S.guards[i] := List.getElem?_eq_getElem hlt
    have mg := mG _ (List.getElem_mem hlt)
    have eg2 := hends _ mg
    simp -dsimp -implicitDefEqProofs only [go_sem, ↓reduceIte, Tryz.f31, h7n, hlt, eg, eC.aR, gM _ mg]
    refine fun _ => ⟨eg2.1, by rw [hml]; exact eg2.2, fun hq => ?_, fun hq => ?_⟩
    ·exact ⟨(decide_eq_false fun z => hst.1 z _ mg hq).symm, aDZ⟩
    ·exact ⟨i + 1, by rw [IntWalk.i64_in _ (by omega)]; rfl, ⟨hlt, j8 hlt hall hq⟩, by omega⟩
   have hi' : i = S.guards.length := by omega
   subst hi'
   rw [List.take_length] at hall
   simp -dsimp -implicitDefEqProofs only [go_sem, ↓reduceIte, Tryz.f31, h7n, Nat.lt_irrefl, Int.lt_irrefl]
   refine fun _ => ?_
   refine dA (keep := aHV) (ib := aYO) (mk := aYP) mix (by kernel_rfl) (fun i : Nat => [(11, .op n 4 0 0), (12, eI 1 (fun b => [.bool b]) M), (14, I i)]) (fun _ => h') (fun i => i ≤ S.code.length ∧ ∀ c ∈ S.code.take i, c.lU = 6 → M.getD c.fB.toNat false = false) (fun i => S.code.length - i) 0 ⟨by simp [dF, b6], aA.le_refl _, Nat.zero_le _, by simp⟩ ?_
   rintro i ⟨hi, aL0⟩
   rcases Nat.lt_or_ge i S.code.length with hlt | hge
   ·have eg : S.code[i]? = some S.code[i] := List.getElem?_eq_getElem hlt
    by_cases h6 : S.code[i].lU = 6
    ·have mg := mC _ (List.getElem_mem hlt) h6
     have eg2 := hends _ mg
     simp -dsimp -implicitDefEqProofs only [go_sem, ↓reduceIte, Tryz.f31, h7n, hlt, eg, bC.aR, h6, gM _ mg]
     refine fun _ => ⟨eg2.1, by rw [hml]; exact eg2.2, fun hq => ?_, fun hq => ?_⟩
     ·exact ⟨(decide_eq_false fun z => hst.1 z _ mg hq).symm, aDZ⟩
     ·exact ⟨i + 1, by rw [IntWalk.i64_in _ (by omega)]; rfl, ⟨hlt, j8 hlt aL0 fun _ => hq⟩, by omega⟩
    ·simp -dsimp -implicitDefEqProofs only [go_sem, ↓reduceIte, Tryz.f31, h7n, hlt, eg, bC.aR, h6]
     exact fun _ => ⟨i + 1, by rw [IntWalk.i64_in _ (by omega)]; rfl, ⟨hlt, j8 hlt aL0 fun q => absurd q h6⟩, by omega⟩
   have hi' : i = S.code.length := by omega
   subst hi'
   rw [List.take_length] at aL0
   simp -dsimp -implicitDefEqProofs only [go_sem, ↓reduceIte, Tryz.f31, h7n, Nat.lt_irrefl, Int.lt_irrefl]
   refine fun _ => ⟨(decide_eq_true (hst.2 fun e he => ?_)).symm, aDZ⟩
   rw [kW, pE] at he
   rcases List.mem_append.1 he with he | he
   ·rcases List.mem_append.1 he with he | he
    ·rw [List.mem_singleton.1 he]
     have hq' : M.getD (l.getD 0 0).toNat false = false := hq
     show ¬ M.getD (l.getD 0 0).toNat false = true
     rw [hq']; simp
    ·obtain ⟨gg, hgg, rfl⟩ := List.mem_map.1 he
     rw [hall gg hgg]; simp
   ·obtain ⟨cc, hcc, rfl⟩ := List.mem_map.1 he
    obtain ⟨h1, h2⟩ := List.mem_filter.1 hcc
    rw [aL0 cc h1 (by simpa using h2)]; simp
set_option maxRecDepth 100000
open Go.Proofs
set_option linter.unusedVariables false
set_option linter.unusedSimpArgs false
@[go_sem] def a9D : List Nat := [0, 1, 2, 3, 6, 7, 9, 17]
@[go_sem] def bMC : List Nat := [3]
@[go_sem] def bMD : Marks := fun _ => ([], .nil, [])
theorem aIT (j : eU) (k : Int) (point : List Int) (hs : j.s ≤ 1048576) : gV Tryz.prog 10 [.agg j.c, I k, ints point] (.kL [.bool (wY j k point).1, I (wY j k point).2]) := by
 have hs' := j.tA
 simp only [lC] at hs'
 have hok := a7W j (by omega)
 have hhas := a2D j k (by omega)
 have han := aW4 j point
 simp only [eU.aR] at hok hhas han ⊢
 refine gD 21 a9D bMC bMD mix Tryz.func10 rfl (by kernel_rfl) (by simp) fun h => ?_
 simp -dsimp -implicitDefEqProofs only [go_sem, ↓reduceIte, Tryz.f10]
 first | refine aH.mk (hok) ?_ | refine aF.mk (hok) ?_ | refine aH.bY (hok) ?_ | refine aF.mk (bQ.fJ (hok)) ?_
 simp -dsimp -implicitDefEqProofs only [go_sem, ↓reduceIte, Tryz.f10]
 refine ⟨fun hn => by rw [aO4 hn], fun hj => ?_⟩
 first | refine aH.mk (hhas) ?_ | refine aF.mk (hhas) ?_ | refine aH.bY (hhas) ?_ | refine aF.mk (bQ.fJ (hhas)) ?_
 simp -dsimp -implicitDefEqProofs only [go_sem, ↓reduceIte, Tryz.f10]
 refine ⟨fun ht => ?_, fun ht => ?_⟩
 all_goals try (rw [yW hj (fun z => ht z.1)]; done)
 first | refine aH.mk (han) ?_ | refine aF.mk (han) ?_ | refine aH.bY (han) ?_ | refine aF.mk (bQ.fJ (han)) ?_
 simp -dsimp -implicitDefEqProofs only [go_sem, ↓reduceIte, Tryz.f10]
 refine ⟨fun hp => ?_, fun hp => ?_⟩
 all_goals try (rw [yW hj (fun z => hp z.2)]; done)
 have k1 := ht.1
 have k2 := ht.2
 have hkl : k.toNat < j.cP.length := by omega
 have hu := aYQ hj hkl point hp.1
 rw [show ((k.toNat : Nat) : Int) = k by omega] at hu
 simp only [eU.aR] at hu
 first | refine aH.mk (hu) ?_ | refine aF.mk (hu) ?_ | refine aH.bY (hu) ?_ | refine aF.mk (bQ.fJ (hu)) ?_
 simp -dsimp -implicitDefEqProofs only [go_sem, ↓reduceIte, Tryz.f10]
 rw [vS hj ⟨ht, hp⟩]
open Go.Proofs
set_option linter.unusedVariables false
set_option linter.unusedSimpArgs false
def opW (k : Int) (a b : List Int) : List Int := if k = 3 then pG a b else if k = 4 then aOK a b else if k = 5 then mulL a b else if k = 7 then nI a 1000002 else nJ a b
def opS (sz : Nat) (args rs : List (List Int)) (c : bC) : List Int := if c.lU = 1 then args.getD c.aX.toNat [] else if c.lU = 2 then lP c.aX sz else opW c.lU (rs.getD c.fA.toNat []) (rs.getD c.fB.toNat [])
def aIU (sz : Nat) (args : List (List Int)) (code : List bC) : Nat → List (List Int)
 |0 => []
 |k + 1 => aIU sz args code k ++ [opS sz args (aIU sz args code k) (code.getD k ⟨0, 0, 0, 0⟩)]
theorem aB8 (sz : Nat) (args : List (List Int)) (code : List bC) : ∀ k, (aIU sz args code k).length = k
 |0 => rfl
 |k + 1 => by rw [aIU, List.length_append, aB8 sz args code k]; rfl
theorem aB9 (sz : Nat) (args : List (List Int)) (code : List bC) {r k : Nat} (hr : r < k) : ∀ n, k ≤ n → (aIU sz args code n).getD r [] = (aIU sz args code k).getD r []
 |0, h => by omega
 |n + 1, h => by
  rcases Nat.lt_or_ge n k with h1 | h1
  ·have : k = n + 1 := by omega
   rw [this]
  ·rw [← aB9 sz args code hr n h1, aIU, List.getD_eq_getElem?_getD, List.getElem?_append_left (by rw [aB8]; omega), List.getD_eq_getElem?_getD]
def tK (sz : Nat) (args : List (List Int)) (code : List bC) (r : Nat) : List Int := (aIU sz args code code.length).getD r []
theorem aQ4 {sz : Nat} {args : List (List Int)} {code : List bC} {k : Nat} {c : bC} (e : code[k]? = some c) : tK sz args code k = opS sz args (aIU sz args code k) c := by
 have h := (List.getElem?_eq_some_iff.1 e).1
 rw [tK, aB9 sz args code (Nat.lt_succ_self k) code.length h, aIU, List.getD_eq_getElem?_getD, List.getElem?_append_right (by rw [aB8]; exact Nat.le_refl _), aB8, Nat.sub_self, List.getD_eq_getElem?_getD, e]; rfl
theorem aHW {sz : Nat} {args : List (List Int)} {code : List bC} {k : Nat} {c : bC} (e : code[k]? = some c) (h1 : c.lU = 1) : tK sz args code k = args.getD c.aX.toNat [] := by rw [aQ4 e, opS, if_pos h1]
theorem aCA {sz : Nat} {args : List (List Int)} {code : List bC} {k : Nat} {c : bC} (e : code[k]? = some c) (h1 : c.lU = 2) : tK sz args code k = lP c.aX sz := by rw [aQ4 e, opS, if_neg (by omega), if_pos h1]
theorem aHX {sz : Nat} {args : List (List Int)} {code : List bC} {inp : Int} {k : Nat} {c : bC} (e : code[k]? = some c) (hi : eJ inp k c) (h1 : ¬ c.lU = 1) (h2 : ¬ c.lU = 2) : tK sz args code k = opW c.lU (tK sz args code c.fA.toNat) (tK sz args code c.fB.toNat) := by
 have h := (List.getElem?_eq_some_iff.1 e).1
 unfold eJ at hi
 rw [aQ4 e, opS, if_neg h1, if_neg h2, tK, tK, aB9 sz args code (k := k) (by omega) code.length (by omega), aB9 sz args code (k := k) (by omega) code.length (by omega)]
theorem a28 {sz : Nat} (k : Int) {a b : List Int} (ha : cV sz a) (hb : cV sz b) : cV sz (opW k a b) := by
 unfold opW
 repeat' split
 ·exact vJ ha hb
 ·exact zC ha hb
 ·exact zD _ ha
 ·exact mP _ ha
 ·exact zE _ ha
theorem a29 {sz : Nat} {args : List (List Int)} {code : List bC} {inp : Int} (hi : ∀ i c, code[i]? = some c → eJ inp i c) (ha : ∀ s ∈ args, cV sz s) (hl : (args.length : Int) = inp) (k : Nat) (hk : k < code.length) : cV sz (tK sz args code k) := by
 induction k using Nat.strongRecOn with
 |ind k ih =>
  have e := List.getElem?_eq_getElem hk
  have hc := hi k _ e
  generalize code[k] = c at e hc
  by_cases h1 : c.lU = 1
  ·rw [aHW e h1]
   unfold eJ at hc
   exact iS ha (by omega)
  by_cases h2 : c.lU = 2
  ·rw [aCA e h2]
   have hn : kI c.aX := by rcases hc with q | q | q | q <;> first | exact q.2.2.2 | (have := q.1; omega)
   exact e7 hn
  ·rw [aHX e hc h1 h2]
   unfold eJ at hc
   exact a28 _ (ih _ (by omega) (by omega)) (ih _ (by omega) (by omega))
theorem a9E {sz : Nat} (hsz : 1 ≤ sz) {k : Int} {a b : List Int} (ha : a.length = sz) (hb : b.length = sz) {v : Int} (h : opV k (a.getD 0 0) (b.getD 0 0) = some v) : (opW k a b).getD 0 0 = v := by
 obtain ⟨x, a', rfl⟩ : ∃ x a', a = x :: a' := by
  cases a with
  |nil => simp at ha; omega
  |cons x a' => exact ⟨x, a', rfl⟩
 obtain ⟨y, b', rfl⟩ : ∃ x a', b = x :: a' := by
  cases b with
  |nil => simp at hb; omega
  |cons x a' => exact ⟨x, a', rfl⟩
 have g : ∀ (z : Int) (l : List Int), (z :: l).getD 0 0 = z := fun _ _ => rfl
 rw [g, g] at h
 unfold opV at h
 unfold opW
 by_cases h3 : k = 3
 ·rw [if_pos h3] at h ⊢
  rw [← Option.some.inj h]; rfl
 rw [if_neg h3] at h ⊢
 by_cases h4 : k = 4
 ·rw [if_pos h4] at h ⊢
  rw [← Option.some.inj h]
  show (x + y * 1000002 % 1000003) % 1000003 = _
  omega
 rw [if_neg h4] at h ⊢
 by_cases h5 : k = 5
 ·rw [if_pos h5] at h ⊢
  obtain ⟨t, e⟩ := aDG x a' (y :: b')
  rw [e, ← Option.some.inj h]; rfl
 rw [if_neg h5] at h ⊢
 by_cases h7 : k = 7
 ·rw [if_pos h7] at h ⊢
  rw [← Option.some.inj h]
  show x * 1000002 % 1000003 = _
  omega
 rw [if_neg h7] at h ⊢
 by_cases hy : y = 0
 ·rw [if_pos hy] at h; cases h
 ·rw [if_neg hy] at h
  obtain ⟨t, e⟩ := zF x a' (y :: b') a'.length
  rw [nJ, List.length_cons, e, ← Option.some.inj h]; rfl
theorem then_ok {α β : Type} {x : Out α} {f : α → Nat → Out β} {w : β} {u : Nat} (h : x.andThen f = .ok (w, u)) : ∃ v t, x = .ok (v, t) ∧ f v t = .ok (w, u) := by
 cases x with
 |ok p => obtain ⟨v, t⟩ := p; exact ⟨v, t, rfl, h⟩
 |error c => cases h
structure aYS (inp : Int) (F : c6) (N : Nat → Prop) : Prop where
 ins : ∀ i c, F.code[i]? = some c → eJ inp i c
 ops : ∀ (i : Nat) (c : bC), F.code[i]? = some c → N i → (3 ≤ c.lU ∧ c.lU ≤ 6 → N c.fA.toNat ∧ N c.fB.toNat) ∧ (c.lU = 7 → N c.fA.toNat)
 gds : ∀ g ∈ F.guards, N g.aDO.toNat
 div : ∀ (i : Nat) (c : bC), F.code[i]? = some c → c.lU = 6 → N c.fB.toNat
def HD (rg : Nat → List Int) (N : Nat → Prop) (S : c6) : Prop := ∀ i, i < S.eZ.length → N i → (rg i).getD 0 0 = S.eZ.getD i 0
def aU3 (rg : Nat → List Int) (F : c6) (N : Nat → Prop) (X : Out (Int × c6)) (Y : Out (List Int)) : Prop := ∀ r S' u, X = .ok ((r, S'), u) → S'.ext F → Y = .ok (rg r.toNat, u) ∧ HD rg N S'
def a3A (rg : Nat → List Int) (F : c6) (N : Nat → Prop) (X : Out (List Int × c6)) (Y : Out (List (List Int))) : Prop := ∀ r S' u, X = .ok ((r, S'), u) → S'.ext F → Y = .ok (r.map fun k => rg k.toNat, u) ∧ HD rg N S'
theorem vU {rg : Nat → List Int} {F : c6} {N : Nat → Prop} {ev : Nat → aB → c6 → Out (Int × c6)} {ev' : Nat → aB → Out (List Int)} {inp : Int} : ∀ (l : List aB) (t : Nat) (S : c6), Good inp S t → t ≤ 3000 → HD rg N S → (∀ e ∈ l, ∀ u S', Good inp S' u → S.ext S' → l5 S t S' u → tM (aHC inp S' u) (ev u e S') ∧ (HD rg N S' → aU3 rg F N (ev u e S') (ev' u e))) → a3A rg F N (kJ ev l t S) (lJ ev' l t)
 | [], t, S, hg, ht, hd, _ => fun r S' u h _ => by
  cases h
  exact ⟨rfl, hd⟩
 |e :: l, t, S, hg, ht, hd, h => fun r S' u hx he => by
  obtain ⟨h1, h2⟩ := h e List.mem_cons_self t S hg S.tH (.refl ht)
  rw [kJ] at hx
  obtain ⟨⟨r1, S1⟩, t1, e1, hx⟩ := then_ok hx
  obtain ⟨q1, q2, q3, q4⟩ := h1 _ _ e1
  simp only at hx q1 q2 q3 q4
  obtain ⟨⟨rs, S2⟩, t2, e2, hx⟩ := then_ok hx
  cases hx
  have hl := fun x hx u' S' a b c => h x (List.mem_cons_of_mem _ hx) u' S' a (q2.trans b) (q4.trans c)
  have hk := kV l t1 S1 q1 q4.2.2.2 (fun x hx u' S' a b c => (hl x hx u' S' a b c).1) _ _ e2
  obtain ⟨a1, a2⟩ := h2 hd r1 S1 t1 e1 (hk.2.1.trans he)
  obtain ⟨b1, b2⟩ := vU l t1 S1 q1 q4.2.2.2 a2 hl rs _ _ e2 he
  rw [lJ, a1, Out.andThen_ok, b1]
  exact ⟨rfl, b2⟩
theorem aJU {rg : Nat → List Int} {F : c6} {N : Nat → Prop} {f : List Int → Nat → c6 → Out (List Int × c6)} {g : List (List Int) → Nat → Out (List (List Int))} {inp : Int} {m : Nat} (h : ∀ vs t S, Good inp S t → (vs.length = m ∧ ∀ x ∈ vs, lG S x) → t ≤ 3000 → tM (yU inp S t m) (f vs t S) ∧ (HD rg N S → a3A rg F N (f vs t S) (g (vs.map fun k => rg k.toNat) t))) :
  ∀ (n : Nat) (vs : List Int) (t : Nat) (S : c6), Good inp S t → (vs.length = m ∧ ∀ x ∈ vs, lG S x) → t ≤ 3000 → HD rg N S → a3A rg F N (oQ f n vs t S) (pC g n (vs.map fun k => rg k.toNat) t)
 |0, vs, t, S, hg, hv, ht, hd => fun r S' u hx _ => by
  cases hx
  exact ⟨rfl, hd⟩
 |n + 1, vs, t, S, hg, hv, ht, hd => fun r S' u hx he => by
  obtain ⟨h1, h2⟩ := h vs t S hg hv ht
  rw [oQ] at hx
  obtain ⟨⟨r1, S1⟩, t1, e1, hx⟩ := then_ok hx
  obtain ⟨q1, q2, q3, q4⟩ := h1 _ _ e1
  simp only at hx q1 q2 q3 q4
  have hk := tI (fun vs t S a b c => (h vs t S a b c).1) n r1 t1 S1 q1 q3 q4.2.2.2 _ _ hx
  obtain ⟨a1, a2⟩ := h2 hd r1 S1 t1 e1 (hk.2.1.trans he)
  obtain ⟨b1, b2⟩ := aJU h n r1 t1 S1 q1 q3 q4.2.2.2 a2 r S' u hx he
  rw [pC, a1, Out.andThen_ok, b1]
  exact ⟨rfl, b2⟩
theorem aYT {S F : c6} {inp : Int} {t : Nat} {c : bC} {v : Int} (hg : Good inp S t) (he : (S.put c v).ext F) : F.code[S.eZ.length]? = some c := by
 obtain ⟨x, hx⟩ := he.1
 rw [← hx, c6.put, List.append_assoc, List.getElem?_append_right (by rw [hg.len]; exact Nat.le_refl _), hg.len, Nat.sub_self]; rfl
theorem HD.put {rg : Nat → List Int} {N : Nat → Prop} {S : c6} (h : HD rg N S) {c : bC} {v : Int} (hv : N S.eZ.length → (rg S.eZ.length).getD 0 0 = v) : HD rg N (S.put c v) := fun i hi hn => by
 rw [c6.put, List.length_append, List.length_singleton] at hi
 show _ = (S.eZ ++ [v]).getD i 0
 rw [List.getD_eq_getElem?_getD (l := S.eZ ++ [v])]
 rcases Nat.lt_or_ge i S.eZ.length with h1 | h1
 ·rw [List.getElem?_append_left h1, ← List.getD_eq_getElem?_getD]; exact h i h1 hn
 ·obtain rfl : i = S.eZ.length := by omega
  rw [List.getElem?_append_right (Nat.le_refl _), Nat.sub_self]; exact hv hn
theorem rE {rg : Nat → List Int} {l : List Int} {i : Nat} (hi : i < l.length) : (l.map fun k => rg k.toNat).getD i [] = rg (l.getD i 0).toNat := by
 simp [List.getD_eq_getElem?_getD, List.getElem?_eq_getElem hi]
theorem a3B {sz : Nat} (hsz : 1 ≤ sz) {args : List (List Int)} {inp : Int} {F : c6} {N : Nat → Prop} (C : aYS inp F N) (ha : ∀ s ∈ args, cV sz s) (hl : (args.length : Int) = inp) {k : Int} {vs : List Int} {S : c6} {t m : Nat} (hk : k = 3 ∨ k = 4 ∨ k = 5 ∨ k = 6 ∨ k = 7) (hm : vs.length = m ∧ ∀ x ∈ vs, lG S x) (hm1 : 1 ≤ m) (hm2 : ¬ k = 7 → 2 ≤ m) (hg : Good inp S t) (hd : HD (tK sz args F.code) N S) : aU3 (tK sz args F.code) F N (opR k vs S t) (opE k (vs.map fun k => tK sz args F.code k.toNat) t) := fun r S' u hx he => by
 have at_ : ∀ i, i < m → lG S (vs.getD i 0) := fun i hi => by
  rw [List.getD_eq_getElem?_getD, List.getElem?_eq_getElem (by omega)]
  exact hm.2 _ (List.getElem_mem _)
 unfold opR at hx
 split at hx
 ·cases hx
 rename_i v hv
 cases hx
 have ec := aYT hg he
 have hin := C.ins _ _ ec
 have hrs := fun i (hi : i < F.code.length) => a29 (sz := sz) C.ins ha hl i hi
 have hF : S.eZ.length < F.code.length := (List.getElem?_eq_some_iff.1 ec).1
 have e0 := aHX (sz := sz) (args := args) ec hin (by simp only; omega) (by simp only; omega)
 simp only at e0
 have i0 := at_ 0 (by omega)
 have iB : 0 ≤ opB k vs ∧ opB k vs < S.eZ.length := by
  unfold opB
  split
  ·unfold lG at i0; omega
  ·rename_i h7
   exact at_ 1 (hm2 h7)
 have s0 := hrs (vs.getD 0 0).toNat (by unfold lG at i0; omega)
 have s1 := hrs (opB k vs).toNat (by omega)
 have hN : N S.eZ.length → N (vs.getD 0 0).toNat ∧ (¬ k = 7 → N (opB k vs).toNat) := fun hn => by
  have ho := C.ops _ _ ec hn
  simp only at ho
  by_cases h7 : k = 7
  ·exact ⟨ho.2 h7, fun q => absurd h7 q⟩
  ·have h36 := ho.1 (by omega)
   exact ⟨h36.1, fun _ => h36.2⟩
 have hd0 : ∀ x : Int, 0 ≤ x ∧ x < S.eZ.length → N x.toNat → (tK sz args F.code x.toNat).getD 0 0 = S.val x := fun x hx hn => hd x.toNat (by omega) hn
 refine ⟨?_, hd.put fun hn => ?_⟩
 ·rw [Int.toNat_natCast, e0]
  have g0 := rE (rg := tK sz args F.code) (l := vs) (i := 0) (by omega)
  unfold opE opW
  rcases hk with rfl | rfl | rfl | rfl | rfl
  all_goals simp only [reduceCtorEq, if_true, if_false, Int.reduceEq]
  ·rw [g0, rE (rg := tK sz args F.code) (i := 1) (by have := hm2 (by decide); omega)]; rfl
  ·rw [g0, rE (rg := tK sz args F.code) (i := 1) (by have := hm2 (by decide); omega)]; rfl
  ·rw [g0, rE (rg := tK sz args F.code) (i := 1) (by have := hm2 (by decide); omega)]; rfl
  ·have hdv := C.div _ _ ec rfl
   have e6 := hd0 _ iB hdv
   rw [show opB 6 vs = vs.getD 1 0 from rfl] at e6
   rw [g0, rE (rg := tK sz args F.code) (i := 1) (by have := hm2 (by decide); omega), e6]
   rw [show opB 6 vs = vs.getD 1 0 from rfl] at hv
   have hz : ¬ S.val (vs.getD 1 0) = 0 := fun q => by
    rw [opV, if_neg (by decide), if_neg (by decide), if_neg (by decide), if_neg (by decide), if_pos q] at hv
    cases hv
   rw [if_neg hz]; rfl
  ·rw [g0]
 ·obtain ⟨n0, n1⟩ := hN hn
  rw [e0]
  refine a9E hsz s0.1 s1.1 ?_
  rw [hd0 _ i0 n0]
  by_cases h7 : k = 7
  ·subst h7
   rw [← hv]; rfl
  ·rw [hd0 _ iB (n1 h7)]; exact hv
theorem aPC {p : aE} (hp : p.ok) {sz : Nat} (hsz : 1 ≤ sz) {args : List (List Int)} {inp : Int} {F : c6} {N : Nat → Prop} (C : aYS inp F N) (ha : ∀ s ∈ args, cV sz s) (hl : (args.length : Int) = inp) : ∀ (n t : Nat) (e : aB) (env : List Int) (S : c6) (funcs : Int), e.ok p funcs env.length → funcs ≤ p.aI.length → Good inp S t → t ≤ 3000 → (∀ x ∈ env, lG S x) → HD (tK sz args F.code) N S → aU3 (tK sz args F.code) F N (dX p n t e env S) (iU p sz n t e (env.map fun k => tK sz args F.code k.toNat))
 |0, t, e, env, S, funcs, _, _, _, _, _, _ => fun r S' u hx _ => by rw [dX] at hx; cases hx
 |n + 1, t, e, env, S, funcs, hok, hf, hg, ht, henv, hd => by
  have ih := aPC hp hsz C ha hl n
  have io := mW hp (inp := inp) n
  have hnode := ((aB.cR _ _ _ _).1 hok).1
  by_cases h3 : t = 3000
  ·intro r S' u hx _
   rw [dX, if_pos h3] at hx; cases hx
  have j9 := hg.lV (Nat.le_succ t)
  have hcap := hg.cap
  have hgcap := hg.oY
  have henvE : ∀ {S'}, S.ext S' → ∀ x ∈ env, lG S' x := fun e x hx => (henv x hx).ext e
  have kidsS : ¬ e.aO = 9 → ∀ x ∈ e.aK, ∀ u S', Good inp S' u → S.ext S' → l5 S (t + 1) S' u → tM (aHC inp S' u) (dX p n u x env S') ∧ (HD (tK sz args F.code) N S' → aU3 (tK sz args F.code) F N (dX p n u x env S') (iU p sz n u x (env.map fun k => tK sz args F.code k.toNat))) := fun h9 x hx u S' a b c =>
   ⟨io u x env S' funcs (dZ hok h9 x hx) hf a c.2.2.2 (henvE b), fun hd' => ih u x env S' funcs (dZ hok h9 x hx) hf a c.2.2.2 (henvE b) hd'⟩
  intro r S' u hx he
  rcases pD hnode with hk | hk | hk | hk | hk | hk | hk | hk | hk | hk | hk
  ·rw [aHE h3 hk] at hx
   rw [aOP h3 hk]
   cases hx
   have ec := aYT hg he
   have er := aCA (sz := sz) (args := args) ec rfl
   rw [Int.toNat_natCast, er]
   refine ⟨rfl, hd.put fun _ => ?_⟩
   rw [er]
   obtain ⟨w, rfl⟩ : ∃ w, sz = w + 1 := ⟨sz - 1, by omega⟩
   simp [lP, List.replicate_succ]
  ·rw [aHF h3 hk] at hx
   rw [aOQ h3 hk]
   cases hx
   have hn := ((dQ (by omega)).1 hnode).2.2.2.2.1 hk
   exact ⟨by rw [rE (by omega)], hd⟩
  iterate 5
   ·have hlen := dB hok (by omega)
    rw [hk] at hlen
    rw [kF h3 (by omega)] at hx
    rw [oH h3 (by omega)]
    have hs := kidsS (by omega)
    obtain ⟨⟨rs, S1⟩, t1, e1, hx⟩ := then_ok hx
    simp only at hx
    have hrk := kV _ _ S j9 (by omega) (fun x hx u S' a b c => (hs x hx u S' a b c).1) _ _ e1
    obtain ⟨r1, r2, r3, r4⟩ := hrk
    have hex : S1.ext S' := by
     have hx2 := hx
     unfold opR at hx2
     split at hx2
     ·cases hx2
     ·cases hx2; exact S1.aLH _ _
    obtain ⟨a1, a2⟩ := vU _ _ S j9 (by omega) hd hs _ _ _ e1 (hex.trans he)
    rw [a1, Out.andThen_ok]
    exact a3B hsz C ha hl (by omega) r3 (by unfold dN at hlen; simp at hlen; omega) (fun q => by unfold dN at hlen; simp at hlen; omega) r1 a2 _ _ _ hx he
  ·have hlen := dB hok (by omega)
   rw [hk, show dN 8 = 3 from rfl] at hlen
   have o0 := aB.eP hok (i := 0) (by omega)
   have o1 := aB.eP hok (i := 1) (by omega)
   have o2 := aB.eP hok (i := 2) (by omega)
   rw [gT (by omega)] at o0 o1 o2
   rw [wR h3 hk] at hx
   rw [aG6 h3 hk]
   obtain ⟨⟨rr, S1⟩, t1, e1, hx⟩ := then_ok hx
   simp only at hx
   obtain ⟨r1, r2, r3, r4⟩ := io _ _ _ _ _ o0 hf j9 (by omega) henv _ _ e1
   simp only at r1 r2 r3 r4
   have r4' := r4
   unfold l5 at r4'
   have go : ∀ (b : Bool) (k : aB), k.ok p funcs env.length → dX p n t1 k env (S1.guard ⟨rr, b⟩) = .ok ((r, S'), u) → (S1.ext F ∧ N rr.toNat) ∧ (HD (tK sz args F.code) N S1 → iU p sz n t1 k (env.map fun k => tK sz args F.code k.toNat) = .ok (tK sz args F.code r.toNat, u) ∧ HD (tK sz args F.code) N S') := fun b k hk hq => by
    have hx1 : S1.ext (S1.guard ⟨rr, b⟩) := S1.lS _
    have hgd := r1.guard (b := b) r3 (by omega)
    obtain ⟨q1, q2, q3, q4⟩ := io t1 k env _ _ hk hf hgd (by omega) (henvE (r2.trans hx1)) _ _ hq
    simp only at q2
    refine ⟨⟨hx1.trans (q2.trans he), ?_⟩, fun hdd => ih t1 k env _ _ hk hf hgd (by omega) (henvE (r2.trans hx1)) hdd _ _ _ hq he⟩
    have hm : (⟨rr, b⟩ : eC) ∈ F.guards := by
     have h1 : (⟨rr, b⟩ : eC) ∈ (S1.guard ⟨rr, b⟩).guards := by simp [c6.guard]
     exact (q2.trans he).2.2.subset h1
    exact C.gds _ hm
   by_cases hz : S1.val rr = 0
   ·rw [if_pos hz] at hx
    obtain ⟨⟨g1, g2⟩, g3⟩ := go _ _ o1 hx
    obtain ⟨a1, a2⟩ := ih _ _ _ _ _ o0 hf j9 (by omega) henv hd _ _ _ e1 g1
    rw [a1, Out.andThen_ok, if_pos (by rw [a2 rr.toNat (by unfold lG at r3; omega) g2]; exact hz)]
    exact g3 a2
   ·rw [if_neg hz] at hx
    obtain ⟨⟨g1, g2⟩, g3⟩ := go _ _ o2 hx
    obtain ⟨a1, a2⟩ := ih _ _ _ _ _ o0 hf j9 (by omega) henv hd _ _ _ e1 g1
    rw [a1, Out.andThen_ok, if_neg (by rw [a2 rr.toNat (by unfold lG at r3; omega) g2]; exact hz)]
    exact g3 a2
  ·have hlen := dB hok (by omega)
   rw [hk, show dN 9 = 2 from rfl] at hlen
   have o0 := aB.eP hok (i := 0) (by omega)
   have o1 := aB.eP hok (i := 1) (by omega)
   rw [gT (by omega)] at o0
   rw [hk, show iL 9 1 (env.length : Int) = env.length + 1 from rfl] at o1
   rw [aHG h3 hk] at hx
   rw [aOR h3 hk]
   obtain ⟨⟨rr, S1⟩, t1, e1, hx⟩ := then_ok hx
   simp only at hx
   obtain ⟨r1, r2, r3, r4⟩ := io _ _ _ _ _ o0 hf j9 (by omega) henv _ _ e1
   simp only at r1 r2 r3 r4
   have bGW : ∀ x ∈ env ++ [rr], lG S1 x := fun x hx => by
    rcases List.mem_append.1 hx with hx | hx
    ·exact henvE r2 x hx
    ·rw [List.mem_singleton.1 hx]; exact r3
   obtain ⟨q1, q2, q3, q4⟩ := io t1 (e.mJ 1) (env ++ [rr]) S1 funcs (by rw [List.length_append]; exact o1) hf r1 r4.2.2.2 bGW _ _ hx
   obtain ⟨a1, a2⟩ := ih _ _ _ _ _ o0 hf j9 (by omega) henv hd _ _ _ e1 (q2.trans he)
   rw [a1, Out.andThen_ok]
   have := ih t1 (e.mJ 1) (env ++ [rr]) S1 funcs (by rw [List.length_append]; exact o1) hf r1 r4.2.2.2 bGW a2 _ _ _ hx he
   rwa [List.map_append] at this
  ·obtain ⟨f, Fc⟩ := l4 hp hok hf (.inl hk)
   have f2 := Fc.hi
   have f4 := Fc.pk2
   rw [wS h3 hk] at hx
   rw [aDI h3 hk]
   have hs := kidsS (by omega)
   obtain ⟨⟨rs, S1⟩, t1, e1, hx⟩ := then_ok hx
   simp only at hx
   obtain ⟨r1, r2, r3, r4⟩ := kV _ _ S j9 (by omega) (fun x hx u S' a b c => (hs x hx u S' a b c).1) _ _ e1
   simp only at r1 r2 r3 r4
   have hco : (p.out e.aX e.cN).ok p e.aX rs.length := by rw [r3.1, Fc.kids]; exact Fc.oks _ (List.mem_of_getElem? Fc.out)
   obtain ⟨q1, q2, q3, q4⟩ := io t1 _ rs S1 e.aX hco (by omega) r1 r4.2.2.2 r3.2 _ _ hx
   obtain ⟨a1, a2⟩ := vU _ _ S j9 (by omega) hd hs _ _ _ e1 (q2.trans he)
   rw [a1, Out.andThen_ok]
   exact ih t1 _ rs S1 e.aX hco (by omega) r1 r4.2.2.2 r3.2 a2 _ _ _ hx he
  ·obtain ⟨f, Fc⟩ := l4 hp hok hf (.inr hk)
   have f2 := Fc.hi
   have f4 := Fc.pk2
   have f9 := Fc.loop hk
   rw [wT h3 hk] at hx
   rw [aDJ h3 hk]
   have hs := kidsS (by omega)
   obtain ⟨⟨rs, S1⟩, t1, e1, hx⟩ := then_ok hx
   simp only at hx
   obtain ⟨r1, r2, r3, r4⟩ := kV _ _ S j9 (by omega) (fun x hx u S' a b c => (hs x hx u S' a b c).1) _ _ e1
   simp only at r1 r2 r3 r4
   obtain ⟨⟨rs2, S2⟩, t2, e2, hx⟩ := then_ok hx
   cases hx
   have hfl : ∀ vs t S, Good inp S t → (vs.length = f.aW.length ∧ ∀ x ∈ vs, lG S x) → t ≤ 3000 → tM (yU inp S t f.aW.length) (kJ (fun t e S => dX p n t e vs S) (p.outs e.aX) t S) ∧ (HD (tK sz args F.code) N S → a3A (tK sz args F.code) F N (kJ (fun t e S => dX p n t e vs S) (p.outs e.aX) t S) (lJ (fun t e => iU p sz n t e (vs.map fun k => tK sz args F.code k.toNat)) (p.outs e.aX) t)) := fun vs w S' hg' hv hw => by
    rw [Fc.eq]
    have hx2 : ∀ x ∈ f.aW, ∀ u S'', Good inp S'' u → S'.ext S'' → l5 S' w S'' u → tM (aHC inp S'' u) (dX p n u x vs S'') ∧ (HD (tK sz args F.code) N S'' → aU3 (tK sz args F.code) F N (dX p n u x vs S'') (iU p sz n u x (vs.map fun k => tK sz args F.code k.toNat))) := fun x hx u S'' a b c =>
     ⟨io u x vs S'' e.aX (by rw [hv.1, f9.2.2]; exact Fc.oks x hx) (by omega) a c.2.2.2 fun y hy => (hv.2 y hy).ext b, fun hdd => ih u x vs S'' e.aX (by rw [hv.1, f9.2.2]; exact Fc.oks x hx) (by omega) a c.2.2.2 (fun y hy => (hv.2 y hy).ext b) hdd⟩
    exact ⟨kV _ _ S' hg' hw fun x hx u S'' a b c => (hx2 x hx u S'' a b c).1, fun hdd => vU _ _ S' hg' hw hdd hx2⟩
   have nF : rs.length = f.aW.length ∧ ∀ x ∈ rs, lG S1 x := ⟨by have := r3.1; have := Fc.kids; omega, r3.2⟩
   have hk2 := tI (inp := inp) (m := f.aW.length) (fun vs t S a b c => (hfl vs t S a b c).1) _ _ _ _ r1 nF r4.2.2.2 _ _ e2
   obtain ⟨a1, a2⟩ := vU _ _ S j9 (by omega) hd hs _ _ _ e1 (hk2.2.1.trans he)
   rw [a1, Out.andThen_ok]
   obtain ⟨b1, b2⟩ := aJU (inp := inp) (m := f.aW.length) (g := fun vs t => lJ (fun t e => iU p sz n t e vs) (p.outs e.aX) t) hfl _ _ _ _ r1 nF r4.2.2.2 a2 _ _ _ e2 he
   rw [b1, Out.andThen_ok]
   exact ⟨by rw [rE (by have := hk2.2.2.1.1; simp only at this; omega)], b2⟩
theorem aHY {p : aE} (hp : p.ok) {sz : Nat} (hsz : 1 ≤ sz) {f : Int} (hf : 0 ≤ f ∧ f < p.aI.length) {lX : List Int} (ha0 : fG lX) (hl0 : ∀ G, p.aI[f.toNat]? = some G → (lX.length : Int) = G.aZ) {L : List Int} {F : c6} {u : Nat} (hX : aDQ p f lX = .ok ((L, F), u)) {N : Nat → Prop} (C : aYS lX.length F N) {args : List (List Int)} (ha : ∀ s ∈ args, cV sz s) (hl : args.length = lX.length) (hd : ∀ i, i < lX.length → N i → (args.getD i []).getD 0 0 = lX.getD i 0) :
  xW p sz f args = .ok (L.map fun k => tK sz args F.code k.toNat, u) := by
 obtain ⟨G, ef, hF1, hF2, hF3, hF4⟩ := nN hp hf
 have hla := hl0 G ef
 have hg := aBZ lX ha0 (by omega)
 have hin := aLI lX
 have hel : (inE lX).length = lX.length := by simp [inE]
 obtain ⟨q1, q2, q3, q4⟩ := (uC hp f hf lX ha0 hl0).1 _ _ hX
 simp only at q1 q2 q3 q4
 have hcode : ∀ i, i < lX.length → F.code[i]? = some ⟨1, 0, 0, (i : Int)⟩ := fun i hi => by
  obtain ⟨x, hx⟩ := q2.1
  rw [← hx, List.getElem?_append_left (by simp [inS]; exact hi)]
  simp [inS, hi]
 have hrg : ∀ i, i < lX.length → tK sz args F.code i = args.getD i [] := fun i hi => by
  rw [aHW (hcode i hi) rfl, Int.toNat_natCast]
 have hd0 : HD (tK sz args F.code) N (inS lX) := fun i hi hn => by
  have hi' : i < lX.length := hi
  rw [hrg i hi']; exact hd i hi' hn
 have hmap : (inE lX).map (fun k => tK sz args F.code k.toNat) = args := by
  apply List.ext_getElem
  ·rw [List.length_map, hel, hl]
  ·intro i h1 h2
   rw [List.getElem_map]
   have e1 : (inE lX)[i]'(by rw [hel]; omega) = (i : Int) := by simp [inE]
   rw [e1, Int.toNat_natCast, hrg i (by omega), List.getD_eq_getElem?_getD, List.getElem?_eq_getElem h2]; rfl
 have hx2 : ∀ x ∈ p.outs f, ∀ u S'', Good lX.length S'' u → (inS lX).ext S'' → l5 (inS lX) 0 S'' u → tM (aHC lX.length S'' u) (dX p 3001 u x (inE lX) S'') ∧ (HD (tK sz args F.code) N S'' → aU3 (tK sz args F.code) F N (dX p 3001 u x (inE lX) S'') (iU p sz 3001 u x args)) := fun x hx u S'' a b c => by
  have hxo : x.ok p f (inE lX).length := by rw [hel, hla]; exact hF4 x (by rw [← hF3]; exact hx)
  refine ⟨mW hp _ u x _ S'' f hxo (by omega) a c.2.2.2 fun y hy => (hin y hy).ext b, fun hdd => ?_⟩
  have := aPC hp hsz C ha (by omega) 3001 u x (inE lX) S'' f hxo (by omega) a c.2.2.2 (fun y hy => (hin y hy).ext b) hdd
  rwa [hmap] at this
 exact (vU _ _ _ hg (by omega) hd0 hx2 _ _ _ hX F.tH).1
open Go.Proofs
set_option linter.unusedVariables false
set_option linter.unusedSimpArgs false
theorem aQ5 {sz : Nat} {args args' : List (List Int)} {inp : Int} {F : c6} {N : Nat → Prop} (C : aYS inp F N) (h : ∀ i c, F.code[i]? = some c → c.lU = 1 → N i → args.getD c.aX.toNat [] = args'.getD c.aX.toNat []) (k : Nat) (hk : k < F.code.length) (hn : N k) : tK sz args F.code k = tK sz args' F.code k := by
 induction k using Nat.strongRecOn with
 |ind k ih =>
  have e := List.getElem?_eq_getElem hk
  have hc := C.ins k _ e
  have ho := C.ops k _ e hn
  generalize F.code[k] = c at e hc ho
  by_cases h1 : c.lU = 1
  ·rw [aHW e h1, aHW e h1]; exact h k c e h1 hn
  by_cases h2 : c.lU = 2
  ·rw [aCA e h2, aCA e h2]
  rw [aHX e hc h1 h2, aHX e hc h1 h2]
  unfold eJ at hc
  by_cases h7 : c.lU = 7
  ·rw [h7, ih c.fA.toNat (by omega) (by omega) (ho.2 h7)]; rfl
  ·have h36 := ho.1 (by omega)
   rw [ih c.fA.toNat (by omega) (by omega) h36.1, ih c.fB.toNat (by omega) (by omega) h36.2]
def aPD (s : List Int) : Prop := ∃ x, s = [x, 0]
theorem aYU (k : Int) {a b : List Int} (ha : aPD a) (hb : aPD b) : aPD (opW k a b) := by
 obtain ⟨x, rfl⟩ := ha
 obtain ⟨y, rfl⟩ := hb
 unfold opW
 repeat' split
 ·exact ⟨(x + y) % 1000003, rfl⟩
 ·refine ⟨(x + y * 1000002 % 1000003) % 1000003, ?_⟩
  show [_, (0 + 0 * 1000002 % 1000003) % 1000003] = _
  rfl
 ·refine ⟨cvS [x, 0] [y, 0] 0 1, ?_⟩
  show [_, ((0 + x * 0) % 1000003 + 0 * y) % 1000003] = _
  simp
 ·exact ⟨x * 1000002 % 1000003, rfl⟩
 ·refine ⟨(dvS (j6 [x, 0] [y, 0] 0) [y, 0] 0 x 0 * oE y) % 1000003, ?_⟩
  show [_, ((0 - _ * 0) % 1000003) * oE y % 1000003] = _
  simp
theorem aYV {args : List (List Int)} {code : List bC} {inp : Int} (hi : ∀ i c, code[i]? = some c → eJ inp i c) (ha : ∀ i : Nat, (i : Int) < inp → aPD (args.getD i [])) (k : Nat) (hk : k < code.length) : aPD (tK 2 args code k) := by
 induction k using Nat.strongRecOn with
 |ind k ih =>
  have e := List.getElem?_eq_getElem hk
  have hc := hi k _ e
  generalize code[k] = c at e hc
  by_cases h1 : c.lU = 1
  ·rw [aHW e h1]
   unfold eJ at hc
   exact ha _ (by omega)
  by_cases h2 : c.lU = 2
  ·rw [aCA e h2]; exact ⟨c.aX, rfl⟩
  ·rw [aHX e hc h1 h2]
   unfold eJ at hc
   exact aYU _ (ih _ (by omega) (by omega)) (ih _ (by omega) (by omega))
def oZ (a b : List Int) (code : List bC) (r : Nat) : Prop := (oS a b code code.length).getD r false = false
theorem aPE {a b : List Int} {code : List bC} {inp : Int} (hi : ∀ i c, code[i]? = some c → eJ inp i c) {k : Nat} {c : bC} (ek : code[k]? = some c) (h : oZ a b code k) : ¬ aU0 a b c ∧ ∀ x ∈ opsOf c, oZ a b code x.toNat := by
 have hk := (List.getElem?_eq_some_iff.1 ek).1
 have hok := hi k _ ek
 have hlt := aQZ hok
 have hm := aPB (a := a) (b := b) (out := oS a b code k) hok
 rw [oZ, aTA a b code hk, show code.getD k ⟨0, 0, 0, 0⟩ = c by rw [List.getD_eq_getElem?_getD, ek]; rfl] at h
 have h2 : ¬ (aU0 a b c ∨ ∃ x ∈ opsOf c, (oS a b code k).getD x.toNat false = true) := fun q => by rw [hm.2 q] at h; cases h
 refine ⟨fun q => h2 (.inl q), fun x hx => ?_⟩
 have := hlt x hx
 rw [oZ, y3 a b code (k := k) (by omega) _ (by omega)]
 cases hb : (oS a b code k).getD x.toNat false with
 |false => rfl
 |true => exact absurd (.inr ⟨x, hx, hb⟩) h2
theorem sN {a d : List Int} {i : Nat} (h1 : i < a.length) (h2 : i < d.length) : (gY a d).getD i [] = [a.getD i 0, d.getD i 0] := by
 rw [gY, List.getD_eq_getElem?_getD, List.getD_eq_getElem?_getD, List.getD_eq_getElem?_getD, List.getElem?_zipWith, List.getElem?_eq_getElem h1, List.getElem?_eq_getElem h2]; rfl
theorem aCB {a : List Int} {i : Nat} (h1 : i < a.length) : (a.map fun n => [n]).getD i [] = [a.getD i 0] := by
 rw [List.getD_eq_getElem?_getD, List.getD_eq_getElem?_getD, List.getElem?_map, List.getElem?_eq_getElem h1]; rfl
theorem aU4 {n i k : Nat} (h : ¬ i = k) : (rW n i).getD k 0 = 0 := by
 rw [rW, List.getD_eq_getElem?_getD, List.getElem?_set_ne h, List.getElem?_replicate]
 split <;> rfl
theorem vV (n i : Nat) : (rW n i).length = n := by simp [rW]
theorem aQ6 (n i : Nat) : fG (rW n i) := fun x hx => by
 rcases List.mem_or_eq_of_mem_set hx with hx | rfl
 ·rw [(List.mem_replicate.1 hx).2]; unfold kI; omega
 ·unfold kI; omega
theorem a3C {args : List Int} {L : List Int} {F : c6} {u : Nat} (hg : Good args.length F u) (hL : ∀ x ∈ L, lG F x) (h1 : 1 ≤ L.length) : ∀ x ∈ kW ⟨args.length, F.code, F.guards, L⟩, 0 ≤ x ∧ x < (F.code.length : Int) := fun x hx => by
 rw [hg.len]
 simp only [kW, pE, aAV, List.mem_append, List.mem_singleton, List.mem_map, List.mem_filter, decide_eq_true_eq] at hx
 rcases hx with (rfl | ⟨g, hgm, rfl⟩) | ⟨c, ⟨hc, h6⟩, rfl⟩
 ·refine hL _ ?_
  rw [List.getD_eq_getElem?_getD, List.getElem?_eq_getElem h1]; exact List.getElem_mem _
 ·exact hg.gds g hgm
 ·obtain ⟨i, hi, rfl⟩ := List.mem_iff_getElem.1 hc
  have := hg.ins i _ (List.getElem?_eq_getElem hi)
  have := hg.len
  unfold eJ at *
  omega
theorem aU5 {args : List Int} {L : List Int} {F : c6} {u : Nat} (hg : Good args.length F u) (hL : ∀ x ∈ L, lG F x) (h1 : 1 ≤ L.length) {a b : List Int} {sh : Int} (ha : (a.length : Int) = sh) (hb : ¬ ∃ r, rX ⟨args.length, F.code, F.guards, L⟩ sh a b r) : aYS args.length F (oZ a b F.code) ∧ oZ a b F.code (L.getD 0 0).toNat := by
 have he := a3C hg hL h1
 have hst : ∀ e ∈ kW ⟨args.length, F.code, F.guards, L⟩, oZ a b F.code e.toNat := fun e hm => by
  rw [oZ]
  cases hq : (oS a b F.code F.code.length).getD e.toNat false with
  |false => rfl
  |true => exact absurd ((aTB (t := ⟨args.length, F.code, F.guards, L⟩) ha hg.ins he).2 ⟨e, hm, hq⟩) hb
 have hops : ∀ i c, F.code[i]? = some c → oZ a b F.code i → (3 ≤ c.lU ∧ c.lU ≤ 6 → oZ a b F.code c.fA.toNat ∧ oZ a b F.code c.fB.toNat) ∧ (c.lU = 7 → oZ a b F.code c.fA.toNat) := fun i c ec hn => by
  have h2 := (aPE hg.ins ec hn).2
  unfold opsOf at h2
  refine ⟨fun q => ?_, fun q => ?_⟩
  ·rw [if_pos q] at h2
   exact ⟨h2 _ List.mem_cons_self, h2 _ (List.mem_cons_of_mem _ List.mem_cons_self)⟩
  ·rw [if_neg (by omega), if_pos q] at h2
   exact h2 _ List.mem_cons_self
 refine ⟨⟨hg.ins, hops, fun g hgm => hst _ ?_, fun i c ec h6 => hst _ ?_⟩, hst _ ?_⟩
 ·simp only [kW, pE, List.mem_append, List.mem_map]; exact .inl (.inr ⟨g, hgm, rfl⟩)
 ·simp only [kW, aAV, List.mem_append, List.mem_map, List.mem_filter, decide_eq_true_eq]; exact .inr ⟨c, ⟨List.mem_of_getElem? ec, h6⟩, rfl⟩
 ·simp [kW, pE]
def rY (j : eU) (point : List Int) : eU := ⟨j.aU, j.cO, j.bK, point, j.cP⟩
theorem aPF {j : eU} (h : j.ok) {point : List Int} (hp : (point.length : Int) = j.bK) (np : fG point) : (rY j point).ok := ⟨h.1, h.2.1, fun f hf => ⟨(h.2.2 f hf).1, ⟨hp, np⟩, (h.2.2 f hf).2.2⟩⟩
theorem aU6 {j : eU} (hj : j.ok) {k : Nat} (hk : k < j.cP.length) : (lR j k).b7 = 0 ↔ (jW j.aU j.cO (bJ j k)).2 = 0 := by
 obtain ⟨t1, t2, t3, t4, t5, t6, t7, t8⟩ := oX hj hk
 obtain ⟨F, eF, hf, hF, ok⟩ := qN hj
 have h := (uC hj.1 j.cO hf (bJ j k) t2 t3).2
 have he := aBS j.aU 1 j.cO ((bJ j k).map fun n => [n])
 rw [lR, jW]
 cases hX : aDQ j.aU j.cO (bJ j k) with
 |ok p =>
  rw [hX] at h
  cases hY : xW j.aU 1 j.cO ((bJ j k).map fun n => [n]) with
  |ok q => exact ⟨fun _ => rfl, fun _ => rfl⟩
  |error d => rw [hY] at h; exact h.elim
 |error c =>
  rw [hX] at h
  cases hY : xW j.aU 1 j.cO ((bJ j k).map fun n => [n]) with
  |ok q => rw [hY] at h; exact h.elim
  |error d =>
   rw [hY] at h
   have h' : c = d := h
   subst h'
   exact ⟨fun q => q, fun q => q⟩
theorem aYW {j : eU} (k : Nat) : aDX j k j.cJ ↔ (jW j.aU j.cO (bJ j k)).2 = 0 := ⟨fun h => h.1, fun h => ⟨h, fun ⟨r, _, c, _, _, _, h4⟩ => h4 rfl⟩⟩
theorem a58 {p : aE} {f : Int} {args : List Int} {m : Nat} (hm : 0 < m) : (vO (nK p f args) m args.length 0).getD 0 [] = (List.range args.length).map fun i => (nK p f args i).getD 0 0 := by
 rw [List.getD_eq_getElem?_getD, aHB _ hm]; rfl
theorem aU7 {j : eU} (hj : j.ok) {k : Nat} (hk : k < j.cP.length) {point : List Int} (hp : (point.length : Int) = j.bK) (np : fG point) (hu : aDX j k point) :
  lR (rY j point) k = lR j k ∧ (lR j k).b7 = 0 ∧ (lR j k).vH.length = point.length ∧ ∀ i, i < point.length → ¬ point.getD i 0 = j.cJ.getD i 0 → (lR j k).vH.getD i 0 = 0 := by
 obtain ⟨t1, t2, t3, t4, t5, t6, t7, t8⟩ := oX hj hk
 obtain ⟨G, eG, hf, hG, ok⟩ := qN hj
 obtain ⟨s1, s2, s3, s4, s5, s6, s7, s8⟩ := oX (aPF hj hp np) (k := k) hk
 have hpl : point.length = j.cJ.length := by have := ok.2.1.1; omega
 obtain ⟨u1, u2⟩ := hu
 have e0 : bJ j k = j.cJ ++ j.cP.getD k [] := rfl
 have e1 : bJ (rY j point) k = point ++ j.cP.getD k [] := rfl
 have hgn : ∀ i, ¬ (i < point.length) → (bJ (rY j point) k).getD i 0 = (bJ j k).getD i 0 := fun i hi => by
  rw [e0, e1]
  generalize j.cP.getD k [] = T
  rw [List.getD_eq_getElem?_getD, List.getD_eq_getElem?_getD, List.getElem?_append_right (by omega), List.getElem?_append_right (by omega), hpl]
 have hgl : ∀ i, i < point.length → (bJ (rY j point) k).getD i 0 = point.getD i 0 ∧ (bJ j k).getD i 0 = j.cJ.getD i 0 := fun i hi => by
  rw [e0, e1]
  generalize j.cP.getD k [] = T
  constructor
  ·rw [List.getD_eq_getElem?_getD, List.getElem?_append_left (by omega), List.getD_eq_getElem?_getD]
  ·rw [List.getD_eq_getElem?_getD, List.getElem?_append_left (by omega), List.getD_eq_getElem?_getD]
 have hlen : (bJ (rY j point) k).length = (bJ j k).length := by rw [e0, e1, List.length_append, List.length_append, hpl]
 obtain ⟨G2, eG2, hO1, hO2, hO3, hO4⟩ := nN hj.1 hf
 have hJ : (rY j point).aU = j.aU ∧ (rY j point).cO = j.cO ∧ (rY j point).bK = j.bK := ⟨rfl, rfl, rfl⟩
 rw [lR, lR, hJ.1, hJ.2.1, hJ.2.2]
 rw [jW] at u1 u2
 have hpts : (j.cJ.length : Int) = j.bK := ok.2.1.1
 have h8 : j.bK.toNat ≤ (bJ j k).length := t8
 rw [hJ.1, hJ.2.1] at s3
 generalize bJ (rY j point) k = A1 at *
 generalize bJ j k = A0 at *
 cases hX : aDQ j.aU j.cO A0 with
 |error c =>
  rw [hX] at u1
  have her := aBS j.aU 1 j.cO (A0.map fun n => [n])
  have h := (uC hj.1 j.cO hf A0 t2 t3).2
  rw [hX] at h
  cases hY : xW j.aU 1 j.cO (A0.map fun n => [n]) with
  |ok q => rw [hY] at h; exact h.elim
  |error d =>
   rw [hY] at h
   have h' : c = d := h
   have h2 : c = 0 := u1
   rcases her d hY with q | q <;> omega
 |ok q =>
  obtain ⟨⟨L, F⟩, u⟩ := q
  rw [hX] at u2
  simp only at u2
  obtain ⟨q1, q2, q3, q4⟩ := (uC hj.1 j.cO hf A0 t2 t3).1 _ _ hX
  simp only at q1 q2 q3 q4
  have hL1 : 1 ≤ L.length := by rw [q3.1, hO3]; omega
  obtain ⟨C, hN0⟩ := aU5 q1 q3.2 hL1 hpts u2
  have hL0 : (L.getD 0 0).toNat < F.code.length := by
   have := q3.2 (L.getD 0 0) (by rw [List.getD_eq_getElem?_getD, List.getElem?_eq_getElem hL1]; exact List.getElem_mem _)
   unfold lG at this
   have := q1.len
   omega
  have hnum : ∀ i c, F.code[i]? = some c → c.lU = 1 → oZ j.cJ point F.code i → c.aX.toNat < A0.length ∧ A1.getD c.aX.toNat 0 = A0.getD c.aX.toNat 0 := fun i c ec h1 hn => by
   have hin := q1.ins i c ec
   have hb : 0 ≤ c.aX ∧ c.aX < A0.length := by unfold eJ at hin; omega
   refine ⟨by omega, ?_⟩
   by_cases hlt : c.aX.toNat < point.length
   ·have hmin := (aPE q1.ins ec hn).1
    have heq : j.cJ.getD c.aX.toNat 0 = point.getD c.aX.toNat 0 := Classical.byContradiction fun q => hmin ⟨h1, by omega, q⟩
    rw [(hgl _ hlt).1, (hgl _ hlt).2, heq]
   ·exact hgn _ hlt
  have hcode : ∀ i, i < A0.length → F.code[i]? = some ⟨1, 0, 0, (i : Int)⟩ := fun i hi => by
   obtain ⟨x, hx⟩ := q2.1
   rw [← hx, List.getElem?_append_left (by simp [inS]; exact hi)]
   simp [inS, hi]
  have hst : ∀ i, i < A0.length → oZ j.cJ point F.code i → A1.getD i 0 = A0.getD i 0 := fun i hi hn => by
   have := (hnum i _ (hcode i hi) rfl hn).2
   simpa only [Int.toNat_natCast] using this
  have bGZ : ∀ (A : List Int), fG A → ∀ s ∈ A.map (fun n => [n]), cV 1 s := fun A hA s hs => by
   obtain ⟨n, hn, rfl⟩ := List.mem_map.1 hs
   refine ⟨rfl, fun x hx => ?_⟩
   rw [List.mem_singleton.1 hx]
   exact hA n hn
  have v0 := aHY hj.1 (sz := 1) (Nat.le_refl _) hf t2 t3 hX C (bGZ A0 t2) (by rw [List.length_map]) (fun i hi _ => by rw [aCB hi]; rfl)
  have v1 := aHY hj.1 (sz := 1) (Nat.le_refl _) hf t2 t3 hX C (bGZ A1 s2) (by rw [List.length_map, hlen]) (fun i hi hn => by rw [aCB (by omega)]; exact hst i hi hn)
  have bG0 : ∀ rg : Nat → List Int, (L.map fun k => rg k.toNat).getD 0 [] = rg (L.getD 0 0).toNat := fun rg => rE (rg := rg) hL1
  have hv : tK 1 (A1.map fun n => [n]) F.code (L.getD 0 0).toNat = tK 1 (A0.map fun n => [n]) F.code (L.getD 0 0).toNat := aQ5 C (fun i c ec h1 hn => by
   have h := hnum i c ec h1 hn
   rw [aCB (by omega), aCB h.1, h.2]) _ hL0 hN0
  have dS : ∀ (A : List Int), fG A → A.length = A0.length → (∀ i, i < A0.length → oZ j.cJ point F.code i → A.getD i 0 = A0.getD i 0) → ∀ i, (nK j.aU j.cO A i).getD 0 0 = (tK 2 (gY A (rW A0.length i)) F.code (L.getD 0 0).toNat).getD 1 0 := fun A nA lA hA i => by
   have w := aHY hj.1 (sz := 2) (by decide) hf t2 t3 hX C (args := gY A (rW A0.length i)) (aDN nA (aQ6 _ _)) (by rw [aDM (by rw [vV, lA]), lA]) (fun k hk hn => by
    rw [sN (by omega) (by rw [vV]; exact hk)]; exact hA k hk hn)
   rw [nK, lA, w, pQ, wP]
   simp only [if_true]
   rw [List.getD_eq_getElem?_getD, List.getElem?_map, List.getElem?_map, List.getElem?_eq_getElem hL1, List.getD_eq_getElem?_getD (l := L), List.getElem?_eq_getElem hL1]; rfl
  have d0 := dS A0 t2 rfl fun _ _ _ => rfl
  have d1 := dS A1 s2 hlen hst
  have hd : ∀ i, (nK j.aU j.cO A1 i).getD 0 0 = (nK j.aU j.cO A0 i).getD 0 0 := fun i => by
   rw [d0, d1, aQ5 (args := gY A1 (rW A0.length i)) (args' := gY A0 (rW A0.length i)) C (fun k c ec h1 hn => by
    have h := hnum k c ec h1 hn
    rw [sN (by omega) (by rw [vV]; exact h.1), sN h.1 (by rw [vV]; exact h.1), h.2]) _ hL0 hN0]
  have hm0 : 0 < (j.aU.outs j.cO).length := by rw [hO3]; omega
  rw [v0, v1]
  simp only
  rw [bG0, bG0, hv, a58 hm0, a58 hm0, hlen]
  refine ⟨by rw [show (fun i => (nK j.aU j.cO A1 i).getD 0 0) = fun i => (nK j.aU j.cO A0 i).getD 0 0 from funext hd], trivial, by rw [List.length_take, List.length_map, List.length_range]; omega, fun i hi hne => ?_⟩
  have hi0 : i < A0.length := by omega
  rw [List.getD_eq_getElem?_getD, List.getElem?_take_of_lt (by omega), List.getElem?_map, List.getElem?_range hi0]
  show (nK j.aU j.cO A0 i).getD 0 0 = 0
  have bMG : ¬ A1.getD i 0 = A0.getD i 0 := by rw [(hgl i hi).1, (hgl i hi).2]; exact hne
  rw [d0, aQ5 (args := gY A0 (rW A0.length i)) (args' := gY A0 (List.replicate A0.length 0)) C (fun k c ec h1 hn => by
   have h := hnum k c ec h1 hn
   rw [sN h.1 (by rw [vV]; exact h.1), sN h.1 (by rw [List.length_replicate]; exact h.1), aU4 (fun q => bMG (by rw [q]; exact h.2)), List.getD_eq_getElem?_getD (l := List.replicate _ _), List.getElem?_replicate, if_pos h.1]; rfl) _ hL0 hN0]
  obtain ⟨x, hx⟩ := aYV (args := gY A0 (List.replicate A0.length 0)) q1.ins (fun k hk => ⟨A0.getD k 0, by
   rw [sN (by omega) (by rw [List.length_replicate]; omega), List.getD_eq_getElem?_getD (l := List.replicate _ _), List.getElem?_replicate, if_pos (by omega)]; rfl⟩) _ hL0
  rw [hx]; rfl
set_option maxRecDepth 100000
open Go.Proofs
set_option linter.unusedVariables false
set_option linter.unusedSimpArgs false
def iM (c : List Int) (a : Nat) (sd : Int) : cB := .row 3 [[.v (.sl 1 (c.map fun n => [.int .u8 n]) false), .v (I a), .v (.int .u64 sd)]]
theorem a9F (x : Int) : (0 : Int) ≤ ((BitVec.ofInt 64 x &&& BitVec.ofInt 64 255).toNat : Int) ∧ ((BitVec.ofInt 64 x &&& BitVec.ofInt 64 255).toNat : Int) ≤ 255 := by
 have h : (BitVec.ofInt 64 x &&& BitVec.ofInt 64 255).toNat ≤ 255 := by
  rw [BitVec.toNat_and]
  exact Nat.le_trans Nat.and_le_right (by decide)
 omega
@[go_sem] def aYX : List Nat := [0, 2, 3, 13, 53]
@[go_sem] def bG1 : List Nat := []
@[go_sem] def bG2 : Marks := fun id => match id with | 2 => ([3, 7], (.op 0 (.op 1 (.op 2 (.op 4 (.op 5 (.op 6 (.op 3 (.op 7 (.op 8 (.op 9 .nil)))))))))), []) | 3 => ([3, 7, 9], (.op 0 (.op 1 (.op 2 (.op 4 (.op 5 (.op 6 (.op 3 (.op 7 (.op 8 (.op 9 (.op 10 (.op 11 .nil)))))))))))), []) | 6 => ([3, 7], (.op 0 (.op 1 (.op 2 (.op 4 (.op 5 (.op 6 (.op 3 (.op 7 (.op 8 (.op 9 .nil)))))))))), []) | _ => ([], .nil, [])
theorem a59 {ns : Nat} {c : List Int} (hc : ∀ x ∈ c, InB x) (hl : c.length ≤ 4096) {a : Nat} (ha : a ≤ 1000000000) {sd : Int} {g : aA} (hg : g ns = some (iM c a sd)) :
  fF Tryz.prog 50 [.op ns 3 0 0] g fun r h' => ∃ x sd', r = I x ∧ 0 ≤ x ∧ x ≤ 255 ∧ h' = aT g ns (iM c (a + 1) sd') := by
 have w1 : IntKind.i64.wrap ((a : Int) + 1) = ((a + 1 : Nat) : Int) := by rw [IntWalk.i64_in _ (by omega)]; omega
 unfold iM at hg
 rcases Nat.lt_or_ge a c.length with hlt | hge
 ·have ea : c[a]? = some c[a] := List.getElem?_eq_getElem hlt
  obtain ⟨b0, b1⟩ := hc _ (List.getElem_mem hlt)
  generalize c[a] = x at ea b0 b1
  have w2 : IntKind.i64.wrap x = x := IntWalk.i64_in _ (by omega)
  have c1 : (a < c.length) = True := eq_true hlt
  have c2 : (a + 1 ≤ c.length) = True := eq_true hlt
  refine aBJ 62 aYX bG1 bG2 mix Tryz.func50 rfl (by kernel_rfl) (by simp) ?_
  simp -dsimp -implicitDefEqProofs only [go_sem, ↓reduceIte, Tryz.f50, hg, w1, Option.toArray_none, Option.toArray_some, List.filterMap_cons, List.filterMap_nil, List.elem_cons_self, List.nil_append, List.append_nil, List.toList_toArray, ea, c1, c2, w2]
  rw [aM]
  exact ⟨_, aA.le_refl _, x, _, rfl, b0, b1, rfl⟩
 ·have c1 : (a < c.length) = False := eq_false (by omega)
  have c2 : (a + 1 ≤ c.length) = False := eq_false (by omega)
  refine aBJ 62 aYX bG1 bG2 mix Tryz.func50 rfl (by kernel_rfl) (by simp) ?_
  simp -dsimp -implicitDefEqProofs only [go_sem, ↓reduceIte, Tryz.f50, hg, w1, Option.toArray_none, Option.toArray_some, List.filterMap_cons, List.filterMap_nil, List.elem_cons_self, List.nil_append, List.append_nil, List.toList_toArray, c1, c2]
  rw [aM]
  generalize (IntKind.u64.wrap _ : Int) = y5
  obtain ⟨b0, b1⟩ := a9F (y5.fdiv (2 ^ min (Int.toNat 40) 64))
  refine ⟨_, aA.le_refl _, _, y5, rfl, ?_, ?_, rfl⟩
  ·rw [show IntKind.u64.bits = 64 from rfl, IntWalk.u64_in _ (by omega), IntWalk.i64_in _ (by omega)]; exact b0
  ·rw [show IntKind.u64.bits = 64 from rfl, IntWalk.u64_in _ (by omega), IntWalk.i64_in _ (by omega)]; exact b1
@[go_sem] def aYY : List Nat := [0, 1, 4, 5, 7, 11]
@[go_sem] def bG3 : List Nat := []
@[go_sem] def bG4 : Marks := fun _ => ([], .nil, [])
theorem mX {ns : Nat} {c : List Int} (hc : ∀ x ∈ c, InB x) (hl : c.length ≤ 4096) {a : Nat} (ha : a ≤ 900000000) {sd : Int} (n : Int) (hn : n ≤ 100000) {g : aA} (hg : g ns = some (iM c a sd)) :
  fF Tryz.prog 23 [.op ns 3 0 0, I n] g fun r h' => ∃ x a' sd', r = I x ∧ 0 ≤ x ∧ (1 ≤ n → x < n) ∧ (n ≤ 1 → x = 0) ∧ (a ≤ a' ∧ a' ≤ a + 2) ∧ h' = aT g ns (iM c a' sd') := by
 by_cases h1 : n ≤ 1
 ·refine aBJ 20 aYY bG3 bG4 mix Tryz.func23 rfl (by kernel_rfl) (by simp) ?_
  simp -dsimp -implicitDefEqProofs only [go_sem, ↓reduceIte, Tryz.f23, h1]
  exact ⟨g, aA.le_refl _, 0, a, sd, rfl, Int.le_refl _, fun h => by omega, rfl, by omega, (qX hg).symm⟩
 ·refine aBJ 20 aYY bG3 bG4 mix Tryz.func23 rfl (by kernel_rfl) (by simp) ?_
  simp -dsimp -implicitDefEqProofs only [go_sem, ↓reduceIte, Tryz.f23, h1]
  refine aH.eM (a59 hc hl (by omega) hg) ?_
  rintro r_ h' ⟨x, sd', rfl, x0, x1, rfl⟩
  simp -dsimp -implicitDefEqProofs only [go_sem, ↓reduceIte, Tryz.f23]
  refine ⟨fun h2 => ?_, fun h2 => ?_⟩
  ·refine aH.eM (a59 hc hl (a := a + 1) (by omega) (aG ..)) ?_
   rintro r_ h' ⟨y, y5, rfl, y0, y1, rfl⟩
   simp -dsimp -implicitDefEqProofs only [go_sem, ↓reduceIte, Tryz.f23]
   have e1 : IntKind.i64.wrap (IntKind.i64.wrap (x * 256) + y) = x * 256 + y := by rw [IntWalk.i64_in (x * 256) (by omega), IntWalk.i64_in _ (by omega)]
   have e2 : (x * 256 + y).tmod n = (x * 256 + y) % n := Int.tmod_eq_emod_of_nonneg (by omega)
   have e3 := Int.emod_nonneg (x * 256 + y) (show n ≠ 0 by omega)
   have e4 := Int.emod_lt_of_pos (x * 256 + y) (show 0 < n by omega)
   rw [e1, e2, aM]
   exact ⟨by omega, _, aA.le_refl _, _, a + 1 + 1, y5, rfl, e3, fun _ => e4, fun q => absurd q h1, by omega, rfl⟩
  ·have e2 : x.tmod n = x % n := Int.tmod_eq_emod_of_nonneg x0
   have e3 := Int.emod_nonneg x (show n ≠ 0 by omega)
   have e4 := Int.emod_lt_of_pos x (show 0 < n by omega)
   rw [e2]
   exact ⟨by omega, _, aA.le_refl _, _, a + 1, sd', rfl, e3, fun _ => e4, fun q => absurd q h1, by omega, rfl⟩
@[go_sem] def a9G : List Nat := [0, 1, 4]
@[go_sem] def bMH : List Nat := []
@[go_sem] def bMI : Marks := fun _ => ([], .nil, [])
theorem aL1 {ns : Nat} {c : List Int} (hc : ∀ x ∈ c, InB x) (hl : c.length ≤ 4096) {a : Nat} (ha : a ≤ 900000000) {sd : Int} (n : Int) (hn : n ≤ 100000) {g : aA} (hg : g ns = some (iM c a sd)) :
  fF Tryz.prog 47 [.op ns 3 0 0, I n] g fun r h' => ∃ x a' sd', r = .bool x ∧ (a ≤ a' ∧ a' ≤ a + 2) ∧ h' = aT g ns (iM c a' sd') := by
 refine aBJ 9 a9G bMH bMI mix Tryz.func47 rfl (by kernel_rfl) (by simp) ?_
 simp -dsimp -implicitDefEqProofs only [go_sem, ↓reduceIte, Tryz.f47]
 refine aH.eM (mX hc hl ha n hn hg) ?_
 rintro r_ h' ⟨x, a', sd', rfl, -, -, -, ha', rfl⟩
 simp -dsimp -implicitDefEqProofs only [go_sem, ↓reduceIte, Tryz.f47]
 exact ⟨_, aA.le_refl _, _, a', sd', rfl, ha', rfl⟩
@[go_sem] def a9H : List Nat := [0, 1, 4]
@[go_sem] def bMJ : List Nat := []
@[go_sem] def bMK : Marks := fun _ => ([], .nil, [])
theorem bG5 {ns : Nat} {c : List Int} (hc : ∀ x ∈ c, InB x) (hl : c.length ≤ 4096) {a : Nat} (ha : a ≤ 900000000) {sd : Int} (l : List (List UInt8)) (bz : Bool) (h1 : 1 ≤ l.length) (h2 : l.length ≤ 1000) {g : aA} (hg : g ns = some (iM c a sd)) :
  fF Tryz.prog 78 [.op ns 3 0 0, .sl 1 (l.map fun s => [.str s]) bz] g fun r h' => ∃ x a' sd', r = .str x ∧ x ∈ l ∧ (a ≤ a' ∧ a' ≤ a + 2) ∧ h' = aT g ns (iM c a' sd') := by
 refine aBJ 12 a9H bMJ bMK mix Tryz.func78 rfl (by kernel_rfl) (by simp) ?_
 simp -dsimp -implicitDefEqProofs only [go_sem, ↓reduceIte, Tryz.f78]
 intro _
 refine aH.eM (mX hc hl ha l.length (by omega) hg) ?_
 rintro r_ h' ⟨x, a', sd', rfl, x0, x1, -, ha', rfl⟩
 have x1 := x1 (by omega)
 obtain ⟨k, rfl⟩ : ∃ k : Nat, x = k := ⟨x.toNat, by omega⟩
 have ek : l[k]? = some l[k] := List.getElem?_eq_getElem (by omega)
 simp -dsimp -implicitDefEqProofs only [go_sem, ↓reduceIte, Tryz.f78, ek]
 exact ⟨by omega, _, aA.le_refl _, _, a', sd', rfl, List.getElem_mem _, ha', rfl⟩
@[go_sem] def a9I : List Nat := [0, 2, 4, 5, 10]
@[go_sem] def bML : List Nat := []
@[go_sem] def bMM : Marks := fun _ => ([], .nil, [])
theorem a9J {ns : Nat} {c : List Int} (hc : ∀ x ∈ c, InB x) (hl : c.length ≤ 4096) {a : Nat} (ha : a ≤ 850000000) {sd : Int} {g : aA} (hg : g ns = some (iM c a sd)) :
  fF Tryz.prog 83 [.op ns 3 0 0] g fun r h' => ∃ x a' sd', r = I x ∧ kI x ∧ (a ≤ a' ∧ a' ≤ a + 8) ∧ h' = aT g ns (iM c a' sd') := by
 refine aBJ 25 a9I bML bMM mix Tryz.func83 rfl (by kernel_rfl) (by simp) ?_
 simp -dsimp -implicitDefEqProofs only [go_sem, ↓reduceIte, Tryz.f83]
 refine aH.eM (mX hc hl (by omega) 6 (by omega) hg) ?_
 rintro r_ h' ⟨x, a1, sd1, rfl, x0, x1, -, ha1, rfl⟩
 simp -dsimp -implicitDefEqProofs only [go_sem, ↓reduceIte, Tryz.f83]
 refine ⟨fun e0 => ?_, fun e0 => ⟨fun e1 => ?_, fun e1 => ?_⟩⟩
 ·refine aH.eM (mX hc hl (by omega) 3 (by omega) (aG ..)) ?_
  rintro r_ h' ⟨y, a2, y5, rfl, y0, y1, -, ha2, rfl⟩
  have y1 := y1 (by omega)
  simp -dsimp -implicitDefEqProofs only [go_sem, ↓reduceIte, Tryz.f83]
  rw [aM]
  exact ⟨_, aA.le_refl _, _, a2, y5, rfl, by rw [IntWalk.i64_in _ (by omega)]; unfold kI; omega, by omega, rfl⟩
 ·refine aH.eM (mX hc hl (by omega) 256 (by omega) (aG ..)) ?_
  rintro r_ h' ⟨y, a2, y5, rfl, y0, y1, -, ha2, rfl⟩
  have y1 := y1 (by omega)
  simp -dsimp -implicitDefEqProofs only [go_sem, ↓reduceIte, Tryz.f83]
  refine aH.eM (mX hc hl (by omega) 256 (by omega) (aG ..)) ?_
  rintro r_ h' ⟨z, a3, y6, rfl, z0, z1, -, ha3, rfl⟩
  have z1 := z1 (by omega)
  simp -dsimp -implicitDefEqProofs only [go_sem, ↓reduceIte, Tryz.f83]
  refine aH.eM (mX hc hl (by omega) 256 (by omega) (aG ..)) ?_
  rintro r_ h' ⟨u, a4, sd4, rfl, u0, u1, -, ha4, rfl⟩
  have u1 := u1 (by omega)
  simp -dsimp -implicitDefEqProofs only [go_sem, ↓reduceIte, Tryz.f83]
  simp only [aM]
  refine ⟨_, aA.le_refl _, _, a4, sd4, rfl, ?_, by omega, rfl⟩
  rw [IntWalk.i64_in (y * 65536) (by omega), IntWalk.i64_in (z * 256) (by omega), IntWalk.i64_in (y * 65536 + z * 256) (by omega), IntWalk.i64_in _ (by omega), Int.tmod_eq_emod_of_nonneg (by omega)]
  unfold kI; omega
 ·refine aH.eM (mX hc hl (by omega) 7 (by omega) (aG ..)) ?_
  rintro r_ h' ⟨y, a2, y5, rfl, y0, y1, -, ha2, rfl⟩
  have y1 := y1 (by omega)
  simp -dsimp -implicitDefEqProofs only [go_sem, ↓reduceIte, Tryz.f83]
  rw [aM]
  exact ⟨_, aA.le_refl _, _, a2, y5, rfl, by unfold kI; omega, by omega, rfl⟩
set_option maxRecDepth 100000
open Go.Proofs
set_option linter.unusedVariables false
set_option linter.unusedSimpArgs false
theorem a3D {n : Int} (h0 : 0 ≤ n) (h : n < 10) : Go.Lib.itoa n = [UInt8.ofNat (48 + n).toNat] := by
 unfold Go.Lib.itoa
 rw [if_neg (by omega), Go.Lib.decDigits, dif_pos (by omega), show (48 + n).toNat = 48 + n.toNat from by omega]
theorem a3E {n : Int} (h : 10 ≤ n) : Go.Lib.itoa n = Go.Lib.itoa (n / 10) ++ [UInt8.ofNat (48 + n % 10).toNat] := by
 unfold Go.Lib.itoa
 rw [if_neg (by omega), if_neg (by omega), Go.Lib.decDigits, dif_neg (by omega), show (48 + n % 10).toNat = 48 + n.toNat % 10 from by omega, show (n / 10).toNat = n.toNat / 10 from by omega]
theorem xQ {u k : Nat} (h : u < 10 ^ k) (hk : 1 ≤ k) : (Go.Lib.decDigits u).length ≤ k := by
 induction k generalizing u with
 |zero => omega
 |succ k ih =>
  rw [Go.Lib.decDigits]
  split
  ·simp
  ·rename_i hu
   rcases Nat.eq_zero_or_pos k with e | e
   ·subst e; simp at h; omega
   ·have := ih (u := u / 10) (by rw [Nat.pow_succ] at h; omega) e
    simp; omega
theorem aQ7 {n : Int} (h0 : -9223372036854775808 ≤ n) (h1 : n ≤ 9223372036854775807) : (Go.Lib.itoa n).length ≤ 21 := by
 unfold Go.Lib.itoa
 split
 ·have := xQ (u := n.natAbs) (k := 20) (by omega) (by omega)
  simp; omega
 ·have := xQ (u := n.toNat) (k := 20) (by omega) (by omega)
  omega
theorem a3F {u : Nat} (h : u < 10) : Go.Lib.decDigits u = [UInt8.ofNat (48 + u)] := by rw [Go.Lib.decDigits, dif_pos h]
theorem aY0 (n : Int) (h : 0 ≤ n) : Go.Lib.itoa n = Go.Lib.decDigits n.toNat := by rw [Go.Lib.itoa, if_neg (by omega)]
theorem aCC {α : Type} (f : α → Nat) (l : List α) (x : α) : p7 f (l ++ [x]) = p7 f l + 1 + f x := by
 simp only [lC, List.length_append, List.map_append, List.sum_append, List.length_cons, List.length_nil, List.map_cons, List.map_nil, List.sum_cons, List.sum_nil]; omega
theorem aY1 (k n i c : Int) (l : List aB) : (aB.mk k n i c l).s = p7 aB.s l := by rw [aB.tA]; rfl
theorem aY2 (k n : Int) : (aB.mk k n 0 0 []).o [.v (I k), .v (I n), .v (I 0), .v (I 0), .nil 5] := (aB.rU _ _).2 ⟨.nil 5, rfl, OS.nil⟩
theorem aPG (k n : Int) : Sub (.agg [I k, I n, I 0, I 0, .bI]) (.agg ([.v (I k), .v (I n), .v (I 0), .v (I 0), .nil 5].map OV.val)) := Sub.agg (.cons (.refl _) (.cons (.refl _) (.cons (.refl _) (.cons (.refl _) (.cons (Sub.nil 5 true) .nil)))))
theorem aJV (k n : Int) : OV.b5 [.v (I k), .v (I n), .v (I 0), .v (I 0), .nil 5] = [] := by simp only [OV.fD, OV.jG, OV.rO, OV.qW, List.append_nil]
def tO (k n c d : Int) (v : aD) : cB := .row 5 [[.v (I k), .v (I n), .v (I c), .v (I d), .v v]]
@[go_sem] def a9L : List Nat := [0, 2, 4]
@[go_sem] def bMN : List Nat := [8, 17]
@[go_sem] def bMO : Marks := fun id => match id with | 3 => ([], (.op 0 (.op 1 (.op 2 (.op 3 (.op 4 (.op 5 (.op 6 (.op 7 (.op 8 (.op 9 (.op 10 .nil))))))))))), []) | _ => ([], .nil, [])
theorem aFK (m : Nat) : ∀ n : Int, 0 ≤ n → n < m → n ≤ 1000002 → gV Tryz.prog 79 [I n] (.str (Go.Lib.itoa n)) := by
 induction m with
 |zero => intro n a b; omega
 |succ m ih =>
 intro n h0 hm hn
 refine gD 20 a9L bMN bMO mix Tryz.func79 rfl (by kernel_rfl) (by simp) fun h => ?_
 simp -dsimp -implicitDefEqProofs only [go_sem, ↓reduceIte, Tryz.f79]
 repeat' (with_reducible first | intro _ | refine And.intro ?_ ?_)
 all_goals try omega
 ·rw [a3D h0 (by assumption), IntWalk.i64_in (48 + n) (by omega), IntWalk.u8_in (48 + n) (by omega)]
 ·rw [Int.tdiv_eq_ediv_of_nonneg (by omega), IntWalk.i64_in (n / 10) (by omega)]
  first | refine aH.mk (ih (n / 10) (by omega) (by omega) (by omega)) ?_ | refine aF.mk (ih (n / 10) (by omega) (by omega) (by omega)) ?_ | refine aH.bY (ih (n / 10) (by omega) (by omega) (by omega)) ?_ | refine aF.mk (bQ.fJ (ih (n / 10) (by omega) (by omega) (by omega))) ?_
  simp -dsimp -implicitDefEqProofs only [go_sem, ↓reduceIte, Tryz.f79]
  repeat' (with_reducible first | intro _ | refine And.intro ?_ ?_)
  all_goals try (first | omega | decide)
  ·have := aQ7 (n := n / 10) (by omega) (by omega)
   omega
  ·rw [a3E (n := n) (by omega), Int.tmod_eq_emod_of_nonneg (by omega), IntWalk.i64_in (48 + n % 10) (by omega), IntWalk.u8_in (48 + n % 10) (by omega)]
set_option maxRecDepth 100000
open Go.Proofs
set_option linter.unusedVariables false
set_option linter.unusedSimpArgs false
def kK (ns np : Nat) (L : Int) (pl : Bool) : cB := .row 4 [[.v (.op ns 3 0 0), .v (.op np 1 0 0), .v (I L), .v (.bool pl)]]
def mL (L : Int) : Nat := (L - 1).toNat
def aAW (p : aE) (np : Nat) (B : aA) : Prop := ∃ es o, OR aS.o p.aI es ∧ B np = some (.row 1 [[.v (gQ 3 p.aI.length o)]]) ∧ (o = none → p.aI = []) ∧ ∀ m, o = some m → B m = some (.row 3 (OV.cells es))
theorem aAW.le {p : aE} {np : Nat} {B B' : aA} (h : aAW p np B) (hl : B.le B') : aAW p np B' := by
 obtain ⟨es, o, h1, h2, h3, h4⟩ := h
 exact ⟨es, o, h1, aA.aKG hl h2, h3, fun m e => aA.aKG hl (h4 m e)⟩
@[go_sem] def a9M : List Nat := [0, 1, 4, 14]
@[go_sem] def bMP : List Nat := []
@[go_sem] def bMQ : Marks := fun _ => ([], .nil, [])
theorem aTE {ns ng np : Nat} {c : List Int} {pl : Bool} (hc : ∀ x ∈ c, InB x) (hl : c.length ≤ 4096) (hne : ¬ ns = ng) (vars : Int) (hv : vars ≤ 1000) {B : aA} {a : Nat} {sd L : Int} (hB1 : B ns = none) (hB2 : B ng = none) (ha : a ≤ 800001000) :
  fF Tryz.prog 80 [.op ng 4 0 0, I vars] (aT (aT B ns (iM c a sd)) ng (kK ns np L pl)) fun r h' => ∃ k n a' sd', r = .agg [I k, I n, I 0, I 0, .bI] ∧ ((k = 1 ∧ kI n) ∨ (k = 2 ∧ 0 ≤ n ∧ n < vars)) ∧ (a ≤ a' ∧ a' ≤ a + 10) ∧ h' = aT (aT B ns (iM c a' sd')) ng (kK ns np L pl) := by
 have iH : ¬ ns = ng := hne
 have gW : ¬ ng = ns := Ne.symm iH
 have bF : (ns = ng) = False := eq_false iH
 have bG : (ng = ns) = False := eq_false gW
 have hg : (aT (aT B ns (iM c a sd)) ng (kK ns np L pl)) ng = some (kK ns np L pl) := aG ..
 unfold kK at hg
 refine aBJ 28 a9M bMP bMQ mix Tryz.func80 rfl (by kernel_rfl) (by simp) ?_
 simp -dsimp -implicitDefEqProofs only [go_sem, ↓reduceIte, Tryz.f80]
 intro n4 q4
 have a4 : ¬ n4 = ng := by grind
 have b4 : ¬ n4 = ns := by grind
 have z4 : B n4 = none := by grind
 have aL3 : ¬ n4 = ng := a4
 have a3G : ¬ ng = n4 := Ne.symm aL3
 have zM : (n4 = ng) = False := eq_false aL3
 have zN : (ng = n4) = False := eq_false a3G
 have wZ : ¬ n4 = ns := b4
 have aCD : ¬ ns = n4 := Ne.symm wZ
 have zO : (n4 = ns) = False := eq_false wZ
 have zP : (ns = n4) = False := eq_false aCD
 simp -dsimp -implicitDefEqProofs only [go_sem, ↓reduceIte, Tryz.f80, zM, zO, zN, bG, zP, bF, aC, aL, kK, Option.toArray_none, Option.toArray_some, List.filterMap_cons, List.filterMap_nil, List.elem_cons_self, List.nil_append, List.append_nil, List.toList_toArray]
 have hle : ∀ X Y Z, (aT (aT B ns X) ng Y).le (aT (aT (aT B ns X) ng Y) n4 Z) := fun X Y Z => aA.aP (by rw [aC _ _ _ _ aL3, aC _ _ _ _ wZ]; exact z4) (aA.le_refl _)
 refine ⟨fun hp => ?_, fun hp => ?_⟩
 ·refine aH.eM (aL1 (a := a) (sd := sd) hc hl (by omega) 4 (by omega) (by rw [aC _ _ _ _ aCD, aC _ _ _ _ iH, aG])) ?_
  rintro r_ h' ⟨b, a1, sd1, rfl, ha1, rfl⟩
  simp only [bO wZ, bO gW, aM]
  cases b
  ·simp -dsimp -implicitDefEqProofs only [go_sem, ↓reduceIte, Tryz.f80, zM, zO, zN, bG, zP, bF, aC, aL, Option.toArray_none, Option.toArray_some, List.filterMap_cons, List.filterMap_nil, List.elem_cons_self, List.nil_append, List.append_nil, List.toList_toArray]
   refine aH.eM (mX (a := a1) (sd := sd1) hc hl (by omega) vars (by omega) (by rw [aC _ _ _ _ aCD, aC _ _ _ _ iH, aG])) ?_
   rintro r_ h' ⟨x, a2, y5, rfl, x0, x1, -, ha2, rfl⟩
   simp only [bO wZ, bO gW, aM]
   simp -dsimp -implicitDefEqProofs only [go_sem, ↓reduceIte, Tryz.f80, zM, zO, zN, bG, zP, bF, aC, aL, aM, Option.toArray_none, Option.toArray_some, List.filterMap_cons, List.filterMap_nil, List.elem_cons_self, List.nil_append, List.append_nil, List.toList_toArray]
   exact ⟨_, hle _ _ _, 2, x, a2, y5, rfl, .inr ⟨rfl, x0, x1 (by omega)⟩, by omega, rfl⟩
  ·simp -dsimp -implicitDefEqProofs only [go_sem, ↓reduceIte, Tryz.f80, zM, zO, zN, bG, zP, bF, aC, aL, Option.toArray_none, Option.toArray_some, List.filterMap_cons, List.filterMap_nil, List.elem_cons_self, List.nil_append, List.append_nil, List.toList_toArray]
   refine aH.eM (a9J (a := a1) (sd := sd1) hc hl (by omega) (by rw [aC _ _ _ _ aCD, aC _ _ _ _ iH, aG])) ?_
   rintro r_ h' ⟨x, a2, y5, rfl, hx, ha2, rfl⟩
   simp only [bO wZ, bO gW, aM]
   simp -dsimp -implicitDefEqProofs only [go_sem, ↓reduceIte, Tryz.f80, zM, zO, zN, bG, zP, bF, aC, aL, aM, Option.toArray_none, Option.toArray_some, List.filterMap_cons, List.filterMap_nil, List.elem_cons_self, List.nil_append, List.append_nil, List.toList_toArray]
   exact ⟨_, hle _ _ _, 1, x, a2, y5, rfl, .inl ⟨rfl, hx⟩, by omega, rfl⟩
 ·refine aH.eM (a9J (a := a) (sd := sd) hc hl (by omega) (by rw [aC _ _ _ _ aCD, aC _ _ _ _ iH, aG])) ?_
  rintro r_ h' ⟨x, a2, y5, rfl, hx, ha2, rfl⟩
  simp only [bO wZ, bO gW, aM]
  simp -dsimp -implicitDefEqProofs only [go_sem, ↓reduceIte, Tryz.f80, zM, zO, zN, bG, zP, bF, aC, aL, aM, Option.toArray_none, Option.toArray_some, List.filterMap_cons, List.filterMap_nil, List.elem_cons_self, List.nil_append, List.append_nil, List.toList_toArray]
  exact ⟨_, hle _ _ _, 1, x, a2, y5, rfl, .inl ⟨rfl, hx⟩, by omega, rfl⟩
end Go.Hl

/-
  Contracts of functions and laws of the layer over the walk.
-/
import Derived.Test.YtoomflalicffnaaGreatVvH
import Derived.Test.YtoomflalicffnaaGreatVvA
import Derived.Test.YtoomflalicffnaaGreatVvF
namespace Go.Hl
set_option maxRecDepth 100000
open Go.Proofs
set_option linter.unusedVariables false
set_option linter.unusedSimpArgs false
theorem qS.sI {bx : b5 → Option Nat → Option Nat → Option Nat → bL} {h0 h F hh : aB} {nb : Nat} {inp : Int} {S : b5} {om og ov : Option Nat} (H : qS bx h0 nb S om og ov h) (l : List Int)
  (hF : ∀ n, some n = om ∨ some n = og → F n = h n) (hl : hh.le F) (hn : ∀ n, some n = om ∨ some n = og → hh n = none) :
  Shift (.agg [I inp, mL 4 S.code.length om, mL 2 S.guards.length og, ints l]) F (.agg [I inp, dB 4 aZ.c S.code, dB 2 dX.c S.guards, ints l]) hh := by
 have hc := H.code
 have hg := H.gds
 have ap := H.apart
 cases om with
 |none =>
  have pB : S.code = [] := fR.1 hc
  cases og with
  |none =>
   have hg0 : S.guards = [] := fR.1 hg
   rw [pB, hg0]
   exact Shift.of (Sub.agg (.cons (.refl _) (.cons (Sub.nil _ _) (.cons (Sub.nil _ _) (.cons (.refl _) .nil))))) hl
  |some g =>
   have hgF := (hF g (.inr rfl)).trans hg.2
   rw [pB]
   refine Shift.trans (Shift.of (Sub.agg (.cons (.refl _) (.cons (Sub.nil 4 false) (.cons (.refl _) (.cons (.refl _) .nil))))) (aB.le_refl F)) ?_
   refine gK (n := g) (sz := 2) (S.guards.map dX.c) (hn g (.inr rfl)) ?_ (by simp [eF, e8, mL]) ?_
   ·intro q
    by_cases e : q = g
    ·subst e; right; rw [aH]; exact hgF.symm
    ·rw [aF _ _ _ _ e]; exact hl q
   ·simp [aD.c9, kH, mL, List.take_of_length_le]
 |some m =>
  have hmF := (hF m (.inl rfl)).trans hc.2
  cases og with
  |none =>
   have hg0 : S.guards = [] := fR.1 hg
   rw [hg0]
   refine Shift.trans (Shift.of (Sub.agg (.cons (.refl _) (.cons (.refl _) (.cons (Sub.nil 2 false) (.cons (.refl _) .nil))))) (aB.le_refl F)) ?_
   refine gK (n := m) (sz := 4) (S.code.map aZ.c) (hn m (.inl rfl)) ?_ (by simp [eF, e8, mL]) ?_
   ·intro q
    by_cases e : q = m
    ·subst e; right; rw [aH]; exact hmF.symm
    ·rw [aF _ _ _ _ e]; exact hl q
   ·simp [aD.c9, kH, mL, List.take_of_length_le]
  |some g =>
   have hgF := (hF g (.inr rfl)).trans hg.2
   have hne : ¬ g = m := fun e => ((ap g).2.1 (by rw [e])).1 rfl
   refine Shift.trans (b := .agg [I inp, mL 4 S.code.length (some m), dB 2 dX.c S.guards, ints l]) (h2 := a5 hh m (.row 4 (rowsOf aZ.c S.code))) ?_ ?_
   ·refine gK (n := g) (sz := 2) (S.guards.map dX.c) (by rw [aF _ _ _ _ hne]; exact hn g (.inr rfl)) ?_ (by simp [eF, e8, mL]; exact fun e => hne e.symm) ?_
    ·intro q
     by_cases e : q = g
     ·subst e; right; rw [aH]; exact hgF.symm
     ·rw [aF _ _ _ _ e]
      by_cases e2 : q = m
      ·subst e2; right; rw [aH]; exact hmF.symm
      ·rw [aF _ _ _ _ e2]; exact hl q
    ·have hne' : ¬ m = g := fun e => hne e.symm
     simp [aD.c9, kH, mL, List.take_of_length_le, hne']
   ·refine gK (n := m) (sz := 4) (S.code.map aZ.c) (hn m (.inl rfl)) (aB.le_refl _) (by simp [eF, e8, mL]) ?_
    simp [aD.c9, kH, mL, List.take_of_length_le]
@[go_sem] def aU9 : List Nat := [0, 1, 2, 6, 7, 8, 9, 23]
@[go_sem] def a89 : List Nat := [19, 35]
theorem aLU {h0 : aB} {nb : Nat} (p : aC) (inp : Int) (hn : h0 nb = none) : cE (bH p inp) h0 nb ⟨[], [], []⟩ (a5 h0 nb (bH p inp ⟨[], [], []⟩ none none none)) :=
 ⟨none, none, none, aH _ _ _, aLQ _ _, rfl, rfl, rfl, fun n h => (by rcases h with rfl | h | h | h; exact hn; cases h; cases h; cases h), fun n h1 _ _ _ => aF _ _ _ _ h1⟩
theorem aRI {p : aC} (hp : p.ok) (f : Int) (hf : 0 ≤ f ∧ f < p.aJ.length) (args : List Int) (ha : dP args) (a21 : args.length ≤ 12) (hl : ∀ F, p.aJ[f.toNat]? = some F → (args.length : Int) = F.aX) {l : List Int} {S' : b5} {t : Nat} (hr : vT p f args = .ok ((l, S'), t)) :
  dV Tryz.prog 50 [.ip 1 [p.c] 0 0, I f, ints args] (.agg (kL.c ⟨args.length, S'.code, S'.guards, l⟩)) := by
 obtain ⟨F, ef, hF1, hF2, hF3, hF4⟩ := oM hp hf
 have hla := hl F ef
 simp only [aC.aN]
 refine lO 54 aU9 a89 bD mix Tryz.func50 rfl (by kernel_rfl) (by simp) fun h => ?_
 simp -dsimp -implicitDefEqProofs only [go_sem, ↓reduceIte, Tryz.f50, ef, aP.aN]
 intro n6 z6
 try simp -dsimp -implicitDefEqProofs only [go_sem, ↓reduceIte, Tryz.f50, ef, aP.aN]
 refine fun nb ⟨hb6, zb⟩ _ => ⟨by decide, ?_⟩
 have uD : ¬ nb = n6 := hb6
 have aH8 : ¬ n6 = nb := Ne.symm uD
 have zH : (nb = n6) = False := eq_false uD
 have zI : (n6 = nb) = False := eq_false aH8
 rw [aK]
 generalize hh6 : a5 h n6 (.row 4 [[.v (.int .i64 0), .v .bO, .v .bO, .v .bO]]) = h6
 have zb6 : h6 nb = none := by rw [← hh6, aF _ _ _ _ uD]; exact zb
 have hin := aLU (h0 := h6) p args.length zb6
 refine bX (keep := aU9) (ib := a89) (mk := bD) mix (by kernel_rfl) (fun x : Nat × aB × Option Nat => [(0, .ip 1 [[dB 3 aP.c p.aJ]] 0 0), (1, I f), (2, ints args), (6, .op n6 4 0 0), (7, .op nb 6 0 0), (8, eK 1 x.1 x.2.2), (9, I x.1)]) (fun x => gQ x.2.1 (.row 1 (((zG x.1).map fun n => [I n]).map (List.map .v))) x.2.2) (fun x => x.1 ≤ args.length ∧ cE (bH p args.length) h6 nb (uT args x.1) x.2.1 ∧ eP x.2.1 (zG x.1) x.2.2) (fun x => args.length - x.1) (0, a5 h6 nb (bH p args.length ⟨[], [], []⟩ none none none), none) ⟨by simp [b8, bJ, eK], aB.le_refl _, Nat.zero_le _, hin, rfl⟩ ?_
 rintro ⟨k, g, o⟩ ⟨hk, hR, hos⟩
 simp only at hk hR hos ⊢
 have hel : (zG k).length = k := by simp [zG]
 rcases Nat.lt_or_ge k args.length with hlt | hge
 ·have ek : args[k]? = some args[k] := List.getElem?_eq_getElem hlt
  have hsl : (uT args k).code.length = (uT args k).dU.length := by simp [uT]; omega
  have hvl : (uT args k).dU.length = k := by simp [uT]; omega
  have hy := aGA k
  cases o with
  |none =>
   rw [a9] at hos
   have k0 : k = 0 := by rw [← hel, hos]; rfl
   subst k0
   simp -dsimp -implicitDefEqProofs only [go_sem, ↓reduceIte, Tryz.f50, a7, aR, hlt, ek]
   refine fun _ => aG.fF (v5 hR ⟨1, 0, 0, ((0 : Nat) : Int)⟩ args[0] hsl (by omega)) ?_
   rintro r h' ⟨rfl, k5⟩
   simp -dsimp -implicitDefEqProofs only [go_sem, ↓reduceIte, Tryz.f50]
   refine ⟨Nat.zero_lt_one, Nat.zero_lt_one, Nat.zero_lt_one, fun b jX => ⟨(1, h', some b), ⟨rfl, by rw [IntWalk.i64_in _ (by omega)]; rfl⟩, ?_, ⟨hlt, by rw [wK hlt]; exact k5, jX⟩, by simp only; omega⟩⟩
   rw [hvl]
   exact aB.le_refl _
  |some m =>
   rw [aU] at hos
   simp -dsimp -implicitDefEqProofs only [go_sem, ↓reduceIte, Tryz.f50, aT, aL, hlt, ek]
   refine fun _ => aG.fF (v5 (hR.uS hos) ⟨1, 0, 0, (k : Int)⟩ args[k] hsl (by omega)) ?_
   rintro r h' ⟨rfl, k5⟩
   obtain ⟨g2, rfl, hg2, k5⟩ := k5.base (hR.none hos)
   simp -dsimp -implicitDefEqProofs only [go_sem, ↓reduceIte, Tryz.f50]
   refine ⟨Nat.zero_lt_one, Nat.zero_lt_one, Nat.zero_lt_one, Nat.le_of_eq hel.symm, by omega, by omega, fun b ⟨hbm, jX⟩ => ⟨(k + 1, g2, some b), ⟨rfl, by rw [IntWalk.i64_in _ (by omega)]; rfl⟩, ?_, ⟨hlt, by rw [wK hlt]; exact k5, jX⟩, by simp only; omega⟩⟩
   simp only [aL]
   rw [hvl, hy, ← eN (fun n => I n), hel]
   exact kO hg2
 ·have hk' : k = args.length := by omega
  subst hk'
  rw [aK2] at hR
  have hg0 := zC args ha a21
  have hie : zG args.length = zU args := rfl
  have hr' : jG (fun t e S => cN p 3001 t e (zU args) S) F.aM 0 (inS args) = .ok ((l, S'), t) := by rw [← hF3]; exact hr
  have hall : ∀ {h0 g : aB}, cE (bH p args.length) h0 nb (inS args) g → eH Tryz.prog 126 [.op nb 6 0 0, .ip 3 (p.aJ.map aP.c) f.toNat 0, ints (zU args)] g (fun r h' => r = ints l ∧ cE (bH p args.length) h0 nb S' h') := fun hR =>
   eH.sub (.cons (.refl _) (.cons (Sub.ip (by rw [List.getElem?_map, ef]; rfl) (by simp)) (.cons (.refl _) .nil))) (aLS hp (a0U hp 3001) _ _ nb 0 F (zU args) (inS args) f l S' t hR (by omega) (by omega) (fun x hx => by rw [← hie, hel, hla]; exact hF4 x hx) hf.1 (by omega) hg0 (aHW args) (by rw [← hie, hel]; omega) hr')
  cases o with
  |none =>
   rw [a9, hie] at hos
   simp -dsimp -implicitDefEqProofs only [go_sem, ↓reduceIte, Tryz.f50, a7, aR, Nat.lt_irrefl, Int.lt_irrefl, ef, aP.aN]
   refine fun _ => ⟨hf.1, hf.2, aG.fF (eH.sub (.cons (.refl _) (.cons (.refl _) (.cons (by rw [hos]; exact Sub.loose _ _ _) .nil))) (hall hR)) ?_⟩
   rintro r h2 ⟨rfl, om, og, ov, H2⟩
   have jX := H2.box
   unfold bH at jX
   have hz := H2.keep (n := n6) (by rw [← hh6, aH])
   have hz1 := hz.1
   simp -dsimp -implicitDefEqProofs only [go_sem, ↓reduceIte, Tryz.f50, jX, hz1, zH, zI, aF]
   generalize hE : h2 = h2H at *
   have hle : h.le h2H := by
    have h1 := H2.le
    rw [← hh6] at h1
    intro q
    by_cases e : q = n6
    ·subst e; exact .inl z6
    ·have := h1 q
     rwa [aF _ _ _ _ e] at this
   have hfr : ∀ n, some n = om ∨ some n = og → h n = none ∧ ¬ n = n6 ∧ ¬ n = nb := fun n hn => by
    have h1 := H2.fresh n (by rcases hn with hn | hn; exact .inr (.inl hn); exact .inr (.inr (.inl hn)))
    have h3 : ¬ n = n6 := fun e => by rw [← hh6, e, aH] at h1; cases h1
    refine ⟨by rwa [← hh6, aF _ _ _ _ h3] at h1, h3, fun e => ?_⟩
    rcases hn with hn | hn
    ·exact ((H2.apart n).1 e).1 hn
    ·exact ((H2.apart n).1 e).2.1 hn
   refine ⟨by rw [mV, mV]; rfl, ?_⟩
   rw [kL.aN]
   refine H2.sI l (fun n hn => ?_) (aB.bF z6 (aB.bF zb (hle))) (fun n hn => (hfr n hn).1)
   obtain ⟨v1, v2, v3⟩ := hfr n hn
   rw [aF _ _ _ _ v2, aF _ _ _ _ v3]
  |some m =>
   rw [aU] at hos
   simp -dsimp -implicitDefEqProofs only [go_sem, ↓reduceIte, Tryz.f50, aT, aL, Nat.lt_irrefl, Int.lt_irrefl, ef, aP.aN]
   have c5 : ¬ nb = m := fun e => by obtain ⟨_, _, _, H1⟩ := hR; have := H1.box; rw [e, hos] at this; cases this
   have dA : ¬ m = nb := Ne.symm c5
   have dH : (nb = m) = False := eq_false c5
   have dG : (m = nb) = False := eq_false dA
   refine fun _ => ⟨hf.1, hf.2, aG.aBI rfl rfl c5 (by rw [List.length_map]; exact hel.symm) hos ?_⟩
   refine eH.mono (hall (hR.uS (o := .gone) hos)) ?_
   rintro r h2 ⟨rfl, k5⟩
   obtain ⟨g3, rfl, hg3, ⟨om, og, ov, H2⟩⟩ := k5.base (hR.none hos)
   have jX := H2.box
   unfold bH at jX
   have hz := H2.keep (n := n6) (by rw [← hh6, aH])
   have hz1 := hz.1
   have xJ : ¬ n6 = m := fun e => by rw [e, hg3] at hz1; cases hz1
   have aNC : ¬ m = n6 := Ne.symm xJ
   have aND : (n6 = m) = False := eq_false xJ
   have aNE : (m = n6) = False := eq_false aNC
   simp -dsimp -implicitDefEqProofs only [go_sem, ↓reduceIte, Tryz.f50, jX, hz1, zH, dH, zI, aND, dG, aNE, aF]
   have hgo : ∀ n, some n = om ∨ some n = og → ¬ n = m := fun n hn e => by
    have := (H2.apart n).2.2.2 (by rw [e]; exact hg3)
    rcases hn with hn | hn
    ·exact this.2.1 hn
    ·exact this.2.2.1 hn
   have hhm : h m = none := by
    have h1 := hR.none hos
    rw [← hh6, aF _ _ _ _ (fun e => xJ e.symm)] at h1
    exact h1
   generalize hE : g3 = h2H at *
   have hle : h.le h2H := by
    have h1 := H2.le
    rw [← hh6] at h1
    intro q
    by_cases e : q = n6
    ·subst e; exact .inl z6
    ·have := h1 q
     rwa [aF _ _ _ _ e] at this
   have hfr : ∀ n, some n = om ∨ some n = og → h n = none ∧ ¬ n = n6 ∧ ¬ n = nb := fun n hn => by
    have h1 := H2.fresh n (by rcases hn with hn | hn; exact .inr (.inl hn); exact .inr (.inr (.inl hn)))
    have h3 : ¬ n = n6 := fun e => by rw [← hh6, e, aH] at h1; cases h1
    refine ⟨by rwa [← hh6, aF _ _ _ _ h3] at h1, h3, fun e => ?_⟩
    rcases hn with hn | hn
    ·exact ((H2.apart n).1 e).1 hn
    ·exact ((H2.apart n).1 e).2.1 hn
   refine ⟨by rw [mV, mV]; rfl, ?_⟩
   rw [kL.aN]
   refine H2.sI l (fun n hn => ?_) (aB.bF z6 (aB.bF zb (aB.bF hhm hle))) (fun n hn => (hfr n hn).1)
   obtain ⟨v1, v2, v3⟩ := hfr n hn
   rw [aF _ _ _ _ v2, aF _ _ _ _ v3, aF _ _ _ _ (hgo n hn)]
theorem yH.a9A {P : Program} {N : Nat} {c : Code} {Q : Exit → bB → aB → Prop} {τ : bB} {h : aB} {t : Tag (c, Q)} (n : Nat) {sz : Nat} {es : List (List aD)} (hh : h n = none) (hb : τ.all (fun p => eF n sz es.length p.2) = true)
  (x : yH P N c Q (τ.map fun p => (p.1, p.2.c9 n es)) (a5 h n .gone) ()) : yH P N c Q τ (a5 h n (.row sz (es.map (List.map .v)))) t := by
 have y := mI.nT (c := c) (Q := Q) (τ := τ) (N := N) (P := P) (h := a5 h n (.row sz (es.map (List.map .v)))) n (sz := sz) (es := es.map (List.map .v)) (aH _ _ _) (by simpa using hb)
 rw [aK, lF] at y
 exact y x
@[go_sem] def aEX : List Nat := [0, 1, 2, 3, 4, 5, 10, 11, 12, 13, 14, 15, 16, 17, 18, 19, 36, 38, 49, 59, 74, 91]
@[go_sem] def ib8 : List Nat := [5, 39, 50, 55, 70]
@[go_sem] def mk8 : Marks := fun id => match id with | 22 => ([3, 18], (.op 0 (.op 1 (.op 2 (.op 4 (.op 5 (.op 6 (.op 7 (.op 8 (.op 9 (.op 10 (.op 11 (.op 12 (.op 13 (.op 14 (.op 15 (.op 16 (.op 3 (.op 17 (.op 18 .nil))))))))))))))))))), []) | _ => ([], .nil, [])
theorem aEY {p : aC} (hp : p.ok) (hps : p.s ≤ 4194304) {sz : Nat} (hsz : 1 ≤ sz ∧ sz ≤ 13) (f : Int) (hf : 0 ≤ f ∧ f < p.aJ.length) {start dir L : List Int} {F : b5} {u : Nat} (ns : dP start) (nd : dP dir) (hs : 1 ≤ start.length ∧ start.length ≤ 12) (hd : dir.length = start.length) (hl : ∀ F, p.aJ[f.toNat]? = some F → (start.length : Int) = F.aX) (hll : L.length = start.length)
  (hst : fT p f [start] ((sz : Int) - 1) = 0) (hr : vT p f start = .ok ((L, F), u)) (T : aGL p f start L F u) :
  rQ Tryz.prog 8 [.agg p.c, I f, ints start, ints dir, I ((sz : Int) - 1)] (QS (OS (oL I) 1 (fS (Vz F.code L (fS (Vy F.code L) start)) dir (sz - 1))) (fun y => .gN [y, I 0])) := by
 obtain ⟨G, eG, hO1, hO2, hO3, hO4⟩ := oM hp hf
 have hlG := hl G eG
 have hvy := a0J T hll
 have hvz := a0K T hll hd ns
 have h1 := aLJ p hps f start ((sz : Int) - 1)
 rw [hst] at h1
 have hn := oH dir G.aX
 rw [decide_eq_true (show (dir.length : Int) = G.aX ∧ dP dir from ⟨by omega, nd⟩)] at hn
 have h01 : xU p 1 f (start.map fun n => [n]) = .ok (Vy F.code L 1 (start.map fun n => [n]), u) := T.ev 1 _ (Nat.le_refl _) (gE (Vy F.code L) ns 0)
 have h2 := aIR (aU4 hp hsz f hf ns hs hl hvy h01 (fun sz X a b => T.ev sz X a b))
 have hrc := aRI hp f hf start ns hs.2 hl hr
 have hYst := gE (Vy F.code L) ns (sz - 1)
 rw [Nat.sub_add_cancel hsz.1] at hYst
 have hcY := fun k (hk : k < sz) => aNM (aIX (fS (Vy F.code L) start (sz - 1)) (sz := sz) (k := k + 1) hYst.1.2 (by omega) (by omega) (by rw [gA]; omega))
 have hwk := fun k (hk : k < sz) => aYE (V := Vy F.code L) (start := start) (o := sz - 1) (k := k) (by omega)
 generalize hV : Vz F.code L (fS (Vy F.code L) start) = V at *
 have hsl := fun k (hk : k < sz) => aRG ⟨start.length, F.code, F.guards, L⟩ (sz := k + 1) (inp := start.length) (by omega) rfl T.ins ⟨T.one, T.cap⟩ (gE (Vy F.code L) ns k).1 (dirs := fS V dir k) (by have := (gE V nd k).1; rwa [hd] at this) (T.nz (k + 1) _ (by omega) (gE (Vy F.code L) ns k)) T.outs (by show L.length ≤ 1048576; omega)
 have hslV := fun k : Nat => show (L.map fun r => xO (k + 1) (fS V dir k) (l6 (k + 1) (fS (Vy F.code L) start k) F.code) F.code r.toNat) = V (k + 1) (fS V dir k) by rw [← hV]; rfl
 generalize hY : fS (Vy F.code L) start (sz - 1) = Y at *
 have e1 : IntKind.i64.wrap ((sz : Int) - 1 + 1) = (sz : Int) := by rw [IntWalk.i64_in _ (by omega)]; omega
 simp only [aC.aN, kL.aN] at h1 h2 hrc hsl ⊢
 refine qD 113 aEX ib8 mk8 mix Tryz.func8 rfl (by kernel_rfl) (by simp) fun h => ?_
 simp -dsimp -implicitDefEqProofs only [go_sem, ↓reduceIte, Tryz.f8]
 first | refine aG.mk (h1) ?_ | refine aE.mk (h1) ?_ | refine aG.a8 (h1) ?_ | refine aE.mk (a6.cK (h1)) ?_
 simp -dsimp -implicitDefEqProofs only [go_sem, ↓reduceIte, Tryz.f8, eG, aP.aN]
 refine ⟨hf.1, hf.2, ?_⟩
 first | refine aG.mk (hn) ?_ | refine aE.mk (hn) ?_ | refine aG.a8 (hn) ?_ | refine aE.mk (a6.cK (hn)) ?_
 simp -dsimp -implicitDefEqProofs only [go_sem, ↓reduceIte, Tryz.f8]
 first | refine aG.mk (h2) ?_ | refine aE.mk (h2) ?_ | refine aG.a8 (h2) ?_ | refine aE.mk (a6.cK (h2)) ?_
 simp -dsimp -implicitDefEqProofs only [go_sem, ↓reduceIte, Tryz.f8]
 first | refine aG.mk (hrc) ?_ | refine aE.mk (hrc) ?_ | refine aG.a8 (hrc) ?_ | refine aE.mk (a6.cK (hrc)) ?_
 simp -dsimp -implicitDefEqProofs only [go_sem, ↓reduceIte, Tryz.f8]
 refine fun n zn => ⟨Nat.zero_lt_one, ?_⟩
 rw [aK]
 have hel : (l8 dir sz).length = dir.length := by simp [l8]
 refine yH.a9A n (es := [[I start.length, dB 4 aZ.c F.code, dB 2 dX.c F.guards, ints L]]) zn (by simp [eF, e8]) ?_
 refine bX (keep := aEX) (ib := ib8) (mk := mk8) mix (by kernel_rfl) (fun x : Nat × LLx => [(3, ints dir), (4, I ((sz : Int) - 1)), (13, bI Y), (14, .ip 4 [[I start.length, dB 4 aZ.c F.code, dB 2 dX.c F.guards, ints L]] 0 0), (15, eK 1 x.1 x.2.1), (16, I x.1)]) (fun x => rX x.2) (fun x => x.1 ≤ dir.length ∧ xW h ((l8 dir sz).take x.1) x.2) (fun x => dir.length - x.1) (0, none, [], h) ⟨by simp [b8, bJ, eK, aD.c9], aB.bF zn (aB.le_refl _), Nat.zero_le _, xW.init _⟩ ?_
 rintro ⟨k, op, es, g⟩ ⟨hk, H⟩
 simp only at hk H ⊢
 rcases Nat.lt_or_ge k dir.length with hlt | hge
 ·have ea : dir[k]? = some dir[k] := List.getElem?_eq_getElem hlt
  have hy : (l8 dir sz).take (k + 1) = (l8 dir sz).take k ++ [cF dir[k] sz] := by
   rw [List.take_succ_eq_append_getElem (by omega)]; simp [l8]
  have hlk : ((l8 dir sz).take k).length = k := by rw [List.length_take]; omega
  have nM := H.len
  simp only [hlk] at nM
  have hown := aGN dir[k] (sz := sz) (by omega)
  have hc := lH dir[k] sz
  cases op with
  |none =>
   obtain ⟨h1, rfl, rfl⟩ := H.nil
   obtain rfl : k = 0 := by rw [← hlk, h1]; rfl
   simp -dsimp -implicitDefEqProofs only [go_sem, ↓reduceIte, Tryz.f8, hlt, ea, e1, a7, rX, aR]
   intro _
   refine aG.wn0 (hown) ?_
   rintro r_ l_ g ⟨y_, oy_, rfl, rfl⟩ wn_
   rcases oy_.xF with ⟨_, q_⟩ | ⟨m, rfl⟩
   ·rw [q_] at hc; simp at hc; omega
   rw [OV.j9]
   rw [OV.dI, hU, fV] at wn_
   obtain ⟨zm, rfl⟩ := wn_.rT
   simp -dsimp -implicitDefEqProofs only [go_sem, ↓reduceIte, Tryz.f8, hc, a7]
   refine ⟨Nat.zero_lt_one, Nat.zero_lt_one, Nat.zero_lt_one, fun b ⟨b1, b2⟩ => ?_⟩
   obtain ⟨x', e', H', L'⟩ := H.fin (m := m) (b := b) (s := cF dir[0] sz) (hc) zm b2 b1 (aB.le_refl _)
   refine ⟨(1, x'), ⟨by simp only [e']; rfl, IntWalk.i64_in _ (by omega)⟩, L', ⟨hlt, by simp only; rw [hy]; exact H'⟩, by simp only; omega⟩
  |some n =>
   simp -dsimp -implicitDefEqProofs only [go_sem, ↓reduceIte, Tryz.f8, hlt, ea, e1, aT, rX, aL, fX, nM]
   intro _
   refine aG.wn1 (hown) H.2.2 ?_
   rintro r_ l_ g' ⟨y_, oy_, rfl, rfl⟩ wn_ zn
   rcases oy_.xF with ⟨_, q_⟩ | ⟨m, rfl⟩
   ·rw [q_] at hc; simp at hc; omega
   rw [OV.j9]
   rw [OV.dI, hU, fV] at wn_
   obtain ⟨zm, rfl⟩ := wn_.rT
   have gX : ¬ m = n := fun e => by rw [e, aH] at zn; cases zn
   have nK : ¬ n = m := Ne.symm gX
   have cY : (m = n) = False := eq_false gX
   have cZ : (n = m) = False := eq_false nK
   simp -dsimp -implicitDefEqProofs only [go_sem, ↓reduceIte, Tryz.f8, hc, cY, cZ, aF, fX, nM, aT]
   refine ⟨Nat.zero_lt_one, Nat.zero_lt_one, Nat.zero_lt_one, Nat.le_refl _, by omega, by omega, fun b ⟨bn, bm, bz⟩ => ?_⟩
   rw [show List.take k (OV.cells es) = OV.cells es from nM ▸ oC es]
   refine ⟨(k + 1, some b, es ++ [oI m (cF dir[k] sz)], a5 g m (l7 (cF dir[k] sz))), ⟨rfl, IntWalk.i64_in _ (by omega)⟩, ?_, ⟨hlt, by simp only; rw [hy]; exact H.snoc (cF dir[k] sz) zm bz bm⟩, by simp only; omega⟩
   show (rX (some b, es ++ [oI m (cF dir[k] sz)], a5 g m (l7 (cF dir[k] sz)))).le _
   rw [rX.snoc, show List.length (cF dir[k] sz) = _ from hc]
   exact zR H.2.2 gX bn (fun q hq => by simp only [c8, if_neg hq]; (repeat' split) <;> first | rfl | contradiction)
 ·have hk' : k = dir.length := by omega
  subst hk'
  simp -dsimp -implicitDefEqProofs only [go_sem, ↓reduceIte, Tryz.f8, Nat.lt_irrefl, Int.lt_irrefl]
  intro _
  rw [List.take_of_length_le (by omega)] at H
  obtain ⟨y, hy, hv, hw⟩ := H.done
  rw [hel] at hv
  generalize rX (op, es, g) = G0 at *
  rw [← hv]
  rcases hy with ⟨rfl, h0⟩ | ⟨b, es, rfl, hes⟩
  ·rw [h0] at hel; simp at hel; omega
  rw [← aEV V hsz.1] at hes
  have a3Q : es.length = dir.length := by rw [← hes.length, jC]
  rw [OV.nD, a3Q]
  have hnw : iM h (OV.bM [OV.sl b 1 es]) G0 := by rw [OV.cT, OV.eC, List.append_nil]; exact hw
  refine bX (keep := aEX) (ib := ib8) (mk := mk8) mix (by kernel_rfl) (fun x : Nat × List (List OV) × aB => [(4, I ((sz : Int) - 1)), (13, bI Y), (14, .ip 4 [[I start.length, dB 4 aZ.c F.code, dB 2 dX.c F.guards, ints L]] 0 0), (15, .os b 1 0 dir.length), (17, I x.1)]) (fun x => x.2.2) (fun x => x.1 ≤ sz - 1 ∧ OR (oL I) (pN V dir sz x.1 0) x.2.1 ∧ iM h (OV.bM [OV.sl b 1 x.2.1]) x.2.2) (fun x => sz - 1 - x.1) (0, es, G0) ⟨by simp [b8, bJ], aB.le_refl _, Nat.zero_le _, hes, hnw⟩ ?_
  rintro ⟨k, es, g⟩ ⟨hk, hes, hnw⟩
  simp only at hk hes hnw ⊢
  have hgb : g b = some (.row 1 (OV.cells es)) := hnw.aKI []
  have hesl : es.length = dir.length := by rw [← hes.length, jC]
  rcases Nat.lt_or_ge k (sz - 1) with hlt | hge
  ·have hki : (k : Int) < (sz : Int) - 1 := by omega
   have hcut := aIX (pN V dir sz k 0) (sz := sz) (k := k + 1) (zS V nd (by omega) (.inl rfl)).2 (by omega) (by omega) (by rw [jC]; omega)
   rw [aEU V nd] at hcut
   have hcy := hcY k (by omega)
   rw [hwk k (by omega)] at hcy
   have aVA := hsl k (by omega)
   rw [hslV] at aVA
   have hVs := hvz.ser (k + 1) _ (by omega) (gE V nd k)
   have ek1 : IntKind.i64.wrap ((k : Int) + 1) = ((k + 1 : Nat) : Int) := IntWalk.i64_in _ (by omega)
   simp -dsimp -implicitDefEqProofs only [go_sem, ↓reduceIte, Tryz.f8, hki, ek1]
   first | refine aG.mk (hcy) ?_ | refine aE.mk (hcy) ?_ | refine aG.a8 (hcy) ?_ | refine aE.mk (a6.cK (hcy)) ?_
   simp -dsimp -implicitDefEqProofs only [go_sem, ↓reduceIte, Tryz.f8, ek1]
   refine aG.aUJ hcut (eJ.cons (aGP hes hnw (jC _ _ _ _ _).symm) (eJ.cons (View.same _ _) eJ.nil)) ?_
   simp -dsimp -implicitDefEqProofs only [go_sem, ↓reduceIte, Tryz.f8, ek1]
   first | refine aG.mk (aVA) ?_ | refine aE.mk (aVA) ?_ | refine aG.a8 (aVA) ?_ | refine aE.mk (a6.cK (aVA)) ?_
   simp -dsimp -implicitDefEqProofs only [go_sem, ↓reduceIte, Tryz.f8]
   refine bX (keep := aEX) (ib := ib8) (mk := mk8) mix (by kernel_rfl) (fun x : Nat × List (List OV) × aB => [(4, I ((sz : Int) - 1)), (13, bI Y), (14, .ip 4 [[I start.length, dB 4 aZ.c F.code, dB 2 dX.c F.guards, ints L]] 0 0), (15, .os b 1 0 dir.length), (17, I k), (18, bI (V (k + 1) (fS V dir k))), (19, I x.1)]) (fun x => x.2.2) (fun x => x.1 ≤ dir.length ∧ OR (oL I) (pN V dir sz k x.1) x.2.1 ∧ iM h (OV.bM [OV.sl b 1 x.2.1]) x.2.2) (fun x => dir.length - x.1) (0, es, g) ⟨by simp [b8, bJ], aB.le_refl _, Nat.zero_le _, hes, hnw⟩ ?_
   rintro ⟨i, es, g⟩ ⟨hi, hes, hnw⟩
   simp only at hi hes hnw ⊢
   have hgb : g b = some (.row 1 (OV.cells es)) := hnw.aKI []
   have hesl : es.length = dir.length := by rw [← hes.length, jC]
   rcases Nat.lt_or_ge i dir.length with jO | aFF
   ·obtain ⟨m, q1, q2, q3, q4⟩ := aNN hes hnw (zS V nd (by omega) (.inr (by omega))) hsz.1 jO
    rw [aLN V dir sz k i jO, if_neg (Nat.lt_irrefl i)] at q1 q3
    have hv := hVs.get jO
    have evk := bR (l := (V (k + 1) (fS V dir k)).getD i []) (i := k) (by rw [hv.2.1]; omega)
    have evl := hv.2.1
    have hn := hv.2.2.get k
    have hset := aLM V nd (sz := sz) (q := k) (by omega) jO
    have hpl := sY V nd (sz := sz) (q := k) (by omega) jO
    have epk := bR (l := rW V dir sz k i) (i := k + 1) (by rw [hpl]; omega)
    have kV : ¬ m = b := q4
    have gJ : ¬ b = m := Ne.symm kV
    have lC : (m = b) = False := eq_false kV
    have lB : (b = m) = False := eq_false gJ
    simp -dsimp -implicitDefEqProofs only [go_sem, ↓reduceIte, Tryz.f8, jO, hgb, fX, hesl, q2, q3, hv.1, evk, evl, hVs.1, ek1]
    refine fun _ => ⟨by omega, ?_⟩
    first | refine aG.mk (lZ ((k + 1 : Nat) : Int)) ?_ | refine aE.mk (lZ ((k + 1 : Nat) : Int)) ?_ | refine aG.a8 (lZ ((k + 1 : Nat) : Int)) ?_ | refine aE.mk (a6.cK (lZ ((k + 1 : Nat) : Int))) ?_
    simp -dsimp -implicitDefEqProofs only [go_sem, ↓reduceIte, Tryz.f8]
    first | refine aG.mk (bA (((V (k + 1) (fS V dir k)).getD i []).getD k 0) (iQ ((k + 1 : Nat) : Int)) hn (num_inv _)) ?_ | refine aE.mk (bA (((V (k + 1) (fS V dir k)).getD i []).getD k 0) (iQ ((k + 1 : Nat) : Int)) hn (num_inv _)) ?_ | refine aG.a8 (bA (((V (k + 1) (fS V dir k)).getD i []).getD k 0) (iQ ((k + 1 : Nat) : Int)) hn (num_inv _)) ?_ | refine aE.mk (a6.cK (bA (((V (k + 1) (fS V dir k)).getD i []).getD k 0) (iQ ((k + 1 : Nat) : Int)) hn (num_inv _))) ?_
    simp -dsimp -implicitDefEqProofs only [go_sem, ↓reduceIte, Tryz.f8, hgb, q2, q3, hpl, fX, hesl, jO, l7, epk]
    rw [pC I, show ((k + 1 : Nat) : Int) = (k : Int) + 1 from rfl, hset]
    refine ⟨by omega, ?_⟩
    have hpe := hnw.a0Q (rW V dir sz (k + 1) i) q1 (by rw [hpl, sY V nd (by omega) jO])
    exact ⟨(i + 1, es.set i (oI m (rW V dir sz (k + 1) i)), a5 g m (l7 (rW V dir sz (k + 1) i))), IntWalk.i64_in _ (by omega), aB.le_refl _, ⟨jO, by simp only; rw [aLP V jO]; exact hes.set i _ _ (a3D m _), hpe.1⟩, by simp only; omega⟩
   ·obtain rfl : i = dir.length := by omega
    simp -dsimp -implicitDefEqProofs only [go_sem, ↓reduceIte, Tryz.f8, Nat.lt_irrefl, Int.lt_irrefl]
    exact fun _ => ⟨(k + 1, es, g), IntWalk.i64_in _ (by omega), aB.le_refl _, ⟨by omega, by simp only; rw [← aGO]; exact hes, hnw⟩, by simp only; omega⟩
  ·have hk' : k = sz - 1 := by omega
   subst hk'
   simp -dsimp -implicitDefEqProofs only [go_sem, ↓reduceIte, Tryz.f8, show ¬ (((sz - 1 : Nat) : Int) < (sz : Int) - 1) by omega]
   obtain ⟨o, rfl⟩ : ∃ o, sz = o + 1 := ⟨sz - 1, by omega⟩
   rw [Nat.add_sub_cancel, aLO V nd] at hes
   rw [OV.cT, OV.eC, List.append_nil] at hnw
   exact ⟨_, g, _, aV _ _, ⟨OV.sl b 1 es, OS.mk hes, by rw [OV.nD, hesl], rfl⟩, hnw⟩
theorem aRJ (p : aC) (f : Int) (start dir : List Int) (order : Int) : fT p f [start, dir] order = if fT p f [start] order = 0 then (if (dir.length : Int) = p.par f ∧ dP dir then 0 else 2) else fT p f [start] order := by
 by_cases h0 : gL p f l9 = 0
 ·rw [fT, if_pos h0, fT, if_pos h0]
  by_cases h1 : (∀ l ∈ [start], (l.length : Int) = p.par f ∧ dP l) ∧ 0 ≤ order ∧ order ≤ 12
  ·rw [if_pos h1, if_pos rfl]
   by_cases h2 : (dir.length : Int) = p.par f ∧ dP dir
   ·rw [if_pos h2, if_pos ⟨fun l hl => (List.mem_cons.1 hl).elim (fun e => e ▸ h1.1 _ List.mem_cons_self) fun hl => List.mem_singleton.1 hl ▸ h2, h1.2⟩]
   ·rw [if_neg h2, if_neg fun z => h2 (z.1 dir (List.mem_cons_of_mem _ List.mem_cons_self))]
  ·rw [if_neg h1, if_neg fun z => h1 ⟨fun l hl => z.1 l (by rw [List.mem_singleton.1 hl]; exact List.mem_cons_self), z.2⟩]; rfl
 ·rw [fT, if_neg h0, fT, if_neg h0, if_neg h0]
theorem uO (p : aC) (hps : p.s ≤ 4194304) (f : Int) (start dir : List Int) (order : Int) : dV Tryz.prog 8 [.agg p.c, I f, ints start, ints dir, I order] (.gN [bI (gV p f start dir order).1, I (gV p f start dir order).2]) := by
 have h1 := aLJ p hps f start order
 have h2 := aRJ p f start dir order
 by_cases h0 : fT p f [start] order = 0
 ·obtain ⟨S, _⟩ := xR h0
  obtain ⟨G, eG, hO1, hO2, hO3, hO4⟩ := oM S.ok S.fn
  have hlG := S.par G eG
  have hpar : p.par f = G.aX := by rw [aC.par, eG]; rfl
  have hn := oH dir G.aX
  rw [if_pos h0, hpar] at h2
  have hsn := S.fn
  by_cases hd : (dir.length : Int) = G.aX ∧ dP dir
  ·rw [if_pos hd] at h2
   obtain ⟨o, rfl⟩ : ∃ o : Nat, order = ((o + 1 : Nat) : Int) - 1 := ⟨order.toNat, by have := S.ord; omega⟩
   have ho := S.ord
   cases hX : vT p f start with
   |ok q =>
    obtain ⟨⟨L, F⟩, u⟩ := q
    have T := a0I S.ok S.fn S.ns S.hs.2 S.par hX
    have e : gV p f start dir (((o + 1 : Nat) : Int) - 1) = (fS (Vz F.code L (fS (Vy F.code L) start)) dir (o + 1 - 1), 0) := by
     rw [gV, if_pos h2, hX, show (((o + 1 : Nat) : Int) - 1).toNat = o + 1 - 1 by omega]
    rw [e]
    exact aIR (aEY S.ok hps (by omega) f S.fn S.ns hd.2 S.hs (by omega) S.par (by rw [T.ll, S.outs]) h0 hX T)
   |error c =>
    have e : gV p f start dir (((o + 1 : Nat) : Int) - 1) = ([], c) := by rw [gV, if_pos h2, hX]
    have he := (aP5 S.ok S.fn S.ns S.par hX).1
    have h3 := aU6 S.ok f S.fn S.ns S.hs S.par he (((o + 1 : Nat) : Int) - 1)
    have hc := y8 p 1 f _ c he
    rw [decide_eq_true hd] at hn
    rw [h0] at h1
    rw [e]
    generalize (((o + 1 : Nat) : Int) - 1) = order at *
    simp only [aC.aN] at h1 h3 ⊢
    refine lO 113 aEX ib8 mk8 mix Tryz.func8 rfl (by kernel_rfl) (by simp) fun h => ?_
    simp -dsimp -implicitDefEqProofs only [go_sem, ↓reduceIte, Tryz.f8]
    first | refine aG.mk (h1) ?_ | refine aE.mk (h1) ?_ | refine aG.a8 (h1) ?_ | refine aE.mk (a6.cK (h1)) ?_
    simp -dsimp -implicitDefEqProofs only [go_sem, ↓reduceIte, Tryz.f8, eG, aP.aN]
    refine ⟨hsn.1, hsn.2, ?_⟩
    first | refine aG.mk (hn) ?_ | refine aE.mk (hn) ?_ | refine aG.a8 (hn) ?_ | refine aE.mk (a6.cK (hn)) ?_
    simp -dsimp -implicitDefEqProofs only [go_sem, ↓reduceIte, Tryz.f8]
    first | refine aG.mk (h3) ?_ | refine aE.mk (h3) ?_ | refine aG.a8 (h3) ?_ | refine aE.mk (a6.cK (h3)) ?_
    simp -dsimp -implicitDefEqProofs only [go_sem, ↓reduceIte, Tryz.f8]
    exact ⟨fun _ => ⟨Nat.zero_lt_one, Shift.of (Sub.gN (.cons (Sub.loose _ _ _) (.cons (.refl _) .nil))) (aB.le_refl _)⟩, fun q => absurd q (by omega)⟩
  ·rw [if_neg hd] at h2
   have e : gV p f start dir order = ([], 2) := by rw [gV, if_neg (by rw [h2]; decide), h2]
   rw [decide_eq_false hd] at hn
   rw [h0] at h1
   rw [e]
   simp only [aC.aN] at h1 ⊢
   refine lO 113 aEX ib8 mk8 mix Tryz.func8 rfl (by kernel_rfl) (by simp) fun h => ?_
   simp -dsimp -implicitDefEqProofs only [go_sem, ↓reduceIte, Tryz.f8]
   first | refine aG.mk (h1) ?_ | refine aE.mk (h1) ?_ | refine aG.a8 (h1) ?_ | refine aE.mk (a6.cK (h1)) ?_
   simp -dsimp -implicitDefEqProofs only [go_sem, ↓reduceIte, Tryz.f8, eG, aP.aN]
   refine ⟨hsn.1, hsn.2, ?_⟩
   first | refine aG.mk (hn) ?_ | refine aE.mk (hn) ?_ | refine aG.a8 (hn) ?_ | refine aE.mk (a6.cK (hn)) ?_
   simp -dsimp -implicitDefEqProofs only [go_sem, ↓reduceIte, Tryz.f8]
   exact ⟨Nat.zero_lt_one, Shift.of (Sub.gN (.cons (Sub.loose _ _ _) (.cons (.refl _) .nil))) (aB.le_refl _)⟩
 ·rw [if_neg h0] at h2
  have e : gV p f start dir order = ([], fT p f [start] order) := by rw [gV, if_neg (by rw [h2]; exact h0), h2]
  rw [e]
  generalize fT p f [start] order = c at *
  simp only [aC.aN] at h1 ⊢
  refine lO 113 aEX ib8 mk8 mix Tryz.func8 rfl (by kernel_rfl) (by simp) fun h => ?_
  simp -dsimp -implicitDefEqProofs only [go_sem, ↓reduceIte, Tryz.f8]
  first | refine aG.mk (h1) ?_ | refine aE.mk (h1) ?_ | refine aG.a8 (h1) ?_ | refine aE.mk (a6.cK (h1)) ?_
  simp -dsimp -implicitDefEqProofs only [go_sem, ↓reduceIte, Tryz.f8, h0]
  exact ⟨Nat.zero_lt_one, Shift.of (Sub.gN (.cons (Sub.loose _ _ _) (.cons (.refl _) .nil))) (aB.le_refl _)⟩
theorem aLV {m : Nat} : ∀ {l : List (List Int)}, (∀ s ∈ l, s.length ≤ m) → tH List.length l ≤ l.length * (m + 1)
 | [], _ => by simp [tH]
 |s :: l, h => by
  have h1 := aLV (l := l) fun x hx => h x (List.mem_cons_of_mem _ hx)
  have h2 := h s List.mem_cons_self
  simp only [tH, List.length_cons, List.map_cons, List.sum_cons] at h1 ⊢
  rw [Nat.add_mul]
  omega
theorem aRK (p : aC) (f : Int) (start dir : List Int) (order : Int) : tH List.length (gV p f start dir order).1 ≤ 168 := by
 unfold gV
 split
 ·rename_i h0
  obtain ⟨S, hd⟩ := xR h0
  have hd := hd dir List.mem_cons_self
  have ho := S.ord
  have h12 := S.hs
  split
  ·rename_i L F u hX
   have h1 := aLV (m := 13) (l := fS (Vz F.code L (fS (Vy F.code L) start)) dir order.toNat) fun s hs => by
    have := ((gE (Vz F.code L (fS (Vy F.code L) start)) hd.2 order.toNat).1.2 s hs).1
    omega
   rw [gA] at h1
   refine Nat.le_trans h1 (Nat.le_trans (Nat.mul_le_mul_right _ (show dir.length ≤ 12 by omega)) (by decide))
  ·simp [tH]
 ·simp [tH]
@[go_sem] def a9B : List Nat := [0, 1, 2, 3, 4, 5, 10, 11, 12, 13, 14, 15, 16, 17, 18, 19, 20, 21, 22, 23, 26, 29, 34, 70, 75, 80, 85, 107, 115, 118, 139, 144, 147]
@[go_sem] def mk3 : Marks := fun id => match id with | 16 => ([0, 2, 3], (.op 1 (.op 0 (.op 2 (.op 3 (.op 4 .nil))))), [(0, 2)]) | _ => ([], .nil, [])
set_option maxHeartbeats 4000000 in
theorem uH (a : aC) (f : Int) (b : (List Int)) (d : (List Int)) (o : Int) (h : aB) : eH Tryz.prog 3 [.agg a.c, (.int .i64 f), (dB 1 (fun n => [I n]) b), (dB 1 (fun n => [I n]) d), (.int .i64 o)] h fun r _ => r = .bool true := by
 simp only [aC.aN]
 refine aAF 148 a9B aZJ mk3 mix Tryz.func3 rfl (by kernel_rfl) (by simp) ?_
 simp -dsimp -implicitDefEqProofs only [go_sem, ↓reduceIte, Tryz.f3, Bool.true_or, Bool.or_true, Bool.false_or, Bool.or_false, gP, eq_self, decide_true, Bool.not_true, bne_self_eq_false, aK, cB, OV.dC, OV.bK, OV.dZ, aC.aN]
 repeat' (with_reducible first | intro _ | refine And.intro ?_ ?_)
 all_goals try (first | exact ⟨_, aB.le_refl _, rfl⟩ | exact ⟨_, aB.le_refl _⟩)
 all_goals try omega
 have aRL : b.length ≤ 1048576 := by omega
 repeat' (with_reducible first | intro _ | refine And.intro ?_ ?_)
 all_goals try (first | exact ⟨_, aB.le_refl _, rfl⟩ | exact ⟨_, aB.le_refl _⟩)
 all_goals try omega
 have aRM : d.length ≤ 1048576 := by omega
 refine aG.mk (aNF a 1048576 (by omega) (by omega)) ?_
 generalize hL0 : lft 1048576 (aC.s a) = L0
 have xV := aJ2 hL0
 simp -dsimp -implicitDefEqProofs only [go_sem, ↓reduceIte, Tryz.f3, Bool.true_or, Bool.or_true, Bool.false_or, Bool.or_false, gP, eq_self, decide_true, Bool.not_true, bne_self_eq_false, aK, cB, OV.dC, OV.bK, OV.dZ, aC.aN]
 repeat' (with_reducible first | intro _ | refine And.intro ?_ ?_)
 all_goals try (first | exact ⟨_, aB.le_refl _, rfl⟩ | exact ⟨_, aB.le_refl _⟩)
 all_goals try omega
 have hn0 := xV.2 (by omega)
 clear xV hL0
 have aRN : (aC.s a) ≤ 1048576 := by omega
 have hseal := QS.a7N (aBK a (by omega) f b d o) (fun y hy => sW hy) (aJ9 [] [I (gV a f b d o).2])
 first | refine aG.mk (qC a aRN) ?_ | refine aE.mk (qC a aRN) ?_
 simp -dsimp -implicitDefEqProofs only [go_sem, ↓reduceIte, Tryz.f3, Bool.true_or, Bool.or_true, Bool.false_or, Bool.or_false, gP, eq_self, decide_true, Bool.not_true, bne_self_eq_false, aK, cB, OV.dC, OV.bK, OV.dZ, aC.aN]
 repeat' (with_reducible first | intro _ | refine And.intro ?_ ?_)
 all_goals try trivial
 first | refine aG.mk (kZ b aRL) ?_ | refine aE.mk (kZ b aRL) ?_
 simp -dsimp -implicitDefEqProofs only [go_sem, ↓reduceIte, Tryz.f3, Bool.true_or, Bool.or_true, Bool.false_or, Bool.or_false, gP, eq_self, decide_true, Bool.not_true, bne_self_eq_false, aK, cB, OV.dC, OV.bK, OV.dZ, aC.aN]
 repeat' (with_reducible first | intro _ | refine And.intro ?_ ?_)
 all_goals try trivial
 first | refine aG.mk (kZ d aRM) ?_ | refine aE.mk (kZ d aRM) ?_
 simp -dsimp -implicitDefEqProofs only [go_sem, ↓reduceIte, Tryz.f3, Bool.true_or, Bool.or_true, Bool.false_or, Bool.or_false, gP, eq_self, decide_true, Bool.not_true, bne_self_eq_false, aK, cB, OV.dC, OV.bK, OV.dZ, aC.aN]
 repeat' (with_reducible first | intro _ | refine And.intro ?_ ?_)
 all_goals try trivial
 first | refine aG.mk (uO a (by omega) f b d o) ?_ | refine aE.mk (uO a (by omega) f b d o) ?_
 simp -dsimp -implicitDefEqProofs only [go_sem, ↓reduceIte, Tryz.f3, Bool.true_or, Bool.or_true, Bool.false_or, Bool.or_false, gP, eq_self, decide_true, Bool.not_true, bne_self_eq_false, aK, cB, OV.dC, OV.bK, OV.dZ, aC.aN]
 refine aG.wn0 (aKC a aRN)  ?_
 rintro r l1 g1 ⟨e0_, oe0, rfl, rfl⟩ w1
 have oo0 := oe0
 obtain ⟨v9, rfl, eT⟩ := oo0
 have a0V : eM g1 (OV.bM [v9]) := w1.iJ
 simp -dsimp -implicitDefEqProofs only [go_sem, ↓reduceIte, Tryz.f3, Bool.true_or, Bool.or_true, Bool.false_or, Bool.or_false, gP, eq_self, decide_true, Bool.not_true, bne_self_eq_false, aK, cB, OV.dC, OV.bK, OV.dZ, aC.aN, eT.flat, eT.one]
 intro nx0 a9D
 have a3W := a9D
 clear a9D
 try simp -dsimp -implicitDefEqProofs only [go_sem, ↓reduceIte, Tryz.f3, Bool.true_or, Bool.or_true, Bool.false_or, Bool.or_false, gP, eq_self, decide_true, Bool.not_true, bne_self_eq_false, aK, cB, OV.dC, OV.bK, OV.dZ, aC.aN, eT.flat, eT.one]
 refine aG.wn1 (aDN b aRL) a3W ?_
 rintro r l2 g2 ⟨uP, eU, rfl, rfl⟩ w2 a3X
 have a0W : eM g2 (OV.bM [v9]) := fun p hp => w2.keep (a0V p hp)
 have a0X : eM g2 uP.rows := w2.iJ
 simp -dsimp -implicitDefEqProofs only [go_sem, ↓reduceIte, Tryz.f3, Bool.true_or, Bool.or_true, Bool.false_or, Bool.or_false, gP, eq_self, decide_true, Bool.not_true, bne_self_eq_false, aK, cB, OV.dC, OV.bK, OV.dZ, aC.aN, eT.flat, eT.one, eU.flat, eU.one]
 refine aG.wn1 (aDN d aRM) a3X ?_
 rintro r l3 g3 ⟨sZ, eX, rfl, rfl⟩ w3 aIZ
 have aVB : eM g3 (OV.bM [v9]) := fun p hp => w3.keep (a0W p hp)
 have aVC : eM g3 uP.rows := fun p hp => w3.keep (a0X p hp)
 have aVD : eM g3 sZ.rows := w3.iJ
 simp -dsimp -implicitDefEqProofs only [go_sem, ↓reduceIte, Tryz.f3, Bool.true_or, Bool.or_true, Bool.false_or, Bool.or_false, gP, eq_self, decide_true, Bool.not_true, bne_self_eq_false, aK, cB, OV.dC, OV.bK, OV.dZ, aC.aN, eT.flat, eT.one, eU.flat, eU.one, eX.flat, eX.one]
 refine aG.wl1 (aBK a (by omega) f b d o) (eJ.cons (View.a7O [v9] (aC.aDM oe0) (eM.up1 aIZ aVB)) (eJ.cons (View.same _ _) (eJ.cons (View.ovD uP (OS.lA (c := (fun n => [I n])) (fun _ _ q => rO q) eU) (eM.up1 aIZ aVC)) (eJ.cons (View.ovD sZ (OS.lA (c := (fun n => [I n])) (fun _ _ q => rO q) eX) (eM.up1 aIZ aVD)) (eJ.cons (View.same _ _) eJ.nil))))) (QS.fG (fun y hy => OS.aSV (fun z hz e q => aWP (fun _ _ _ q => aMQ (fun _ => rfl) q) q) hy) (fun x hx => by simp [aD.fG, aD.xB, hx])) aIZ ?_
 rintro r l4 g4 ⟨wA, iV, rfl, rfl⟩ w4 aAV
 have aVE : eM g4 (OV.bM [v9]) := fun p hp => w4.keep (aVB p hp)
 have a0Y : eM g4 uP.rows := fun p hp => w4.keep (aVC p hp)
 have a0Z : eM g4 sZ.rows := fun p hp => w4.keep (aVD p hp)
 have a9E : eM g4 wA.rows := w4.iJ
 have a9F : ∀ m ∈ aY (OV.bM [v9]), m ∉ aY wA.rows := fun m hm hq => by
  obtain ⟨x, hx⟩ := bP.1 hm
  have h1 := w4.fresh m hq
  have h2 := aVB (m, x) hx
  rw [h1] at h2; cases h2
 have a9G : ∀ m ∈ aY uP.rows, m ∉ aY wA.rows := fun m hm hq => by
  obtain ⟨x, hx⟩ := bP.1 hm
  have h1 := w4.fresh m hq
  have h2 := aVC (m, x) hx
  rw [h1] at h2; cases h2
 have a9H : ∀ m ∈ aY sZ.rows, m ∉ aY wA.rows := fun m hm hq => by
  obtain ⟨x, hx⟩ := bP.1 hm
  have h1 := w4.fresh m hq
  have h2 := aVD (m, x) hx
  rw [h1] at h2; cases h2
 have a3Y : ∀ m ∈ aY (OV.bM [v9]), m ∉ aY uP.rows := fun m hm hq => by
  obtain ⟨x, hx⟩ := bP.1 hm
  have h1 := w2.fresh m hq
  have h2 := a0V (m, x) hx
  rw [h1] at h2; cases h2
 have a3Z : ∀ m ∈ aY (OV.bM [v9]), m ∉ aY sZ.rows := fun m hm hq => by
  obtain ⟨x, hx⟩ := bP.1 hm
  have h1 := w3.fresh m hq
  have h2 := a0W (m, x) hx
  rw [h1] at h2; cases h2
 have a30 : ∀ m ∈ aY uP.rows, m ∉ aY sZ.rows := fun m hm hq => by
  obtain ⟨x, hx⟩ := bP.1 hm
  have h1 := w3.fresh m hq
  have h2 := a0X (m, x) hx
  rw [h1] at h2; cases h2
 have nd0 := w1.nodup
 have nd1 := w2.nodup
 have nd2 := w3.nodup
 have ndg := w4.nodup
 simp -dsimp -implicitDefEqProofs only [go_sem, ↓reduceIte, Tryz.f3, Bool.true_or, Bool.or_true, Bool.false_or, Bool.or_false, gP, eq_self, decide_true, Bool.not_true, bne_self_eq_false, aK, cB, OV.dC, OV.bK, OV.dZ, aC.aN, eT.flat, eT.one, eU.flat, eU.one, eX.flat, eX.one, iV.flat, iV.one]
 refine aG.aDE (xK (gV a f b d o).1 (gV a f b d o).1 (fun x _ y => (sT x y))) (eJ.cons (View.ovD wA (OS.lA (c := (fun x => [dB 1 (fun n => [I n]) x])) (fun _ _ q => aST (c := (fun n => [I n])) (fun _ _ q => rO q) q) iV) (eM.up1 aAV a9E)) (eJ.cons (View.same _ _) eJ.nil)) rfl ?_
 simp -dsimp -implicitDefEqProofs only [go_sem, ↓reduceIte, Tryz.f3, Bool.true_or, Bool.or_true, Bool.false_or, Bool.or_false, gP, eq_self, decide_true, Bool.not_true, bne_self_eq_false, aK, cB, OV.dC, OV.bK, OV.dZ, aC.aN, eT.flat, eT.one, eU.flat, eU.one, eX.flat, eX.one, iV.flat, iV.one]
 repeat' (with_reducible first | intro _ | refine And.intro ?_ ?_)
 all_goals try (first | exact ⟨_, aB.le_refl _, rfl⟩ | exact ⟨_, aB.le_refl _⟩)
 all_goals try omega
 refine aG.mk (qC a aRN) ?_
 simp -dsimp -implicitDefEqProofs only [go_sem, ↓reduceIte, Tryz.f3, Bool.true_or, Bool.or_true, Bool.false_or, Bool.or_false, gP, eq_self, decide_true, Bool.not_true, bne_self_eq_false, aK, cB, OV.dC, OV.bK, OV.dZ, aC.aN, eT.flat, eT.one, eU.flat, eU.one, eX.flat, eX.one, iV.flat, iV.one]
 repeat' (with_reducible first | intro _ | refine And.intro ?_ ?_)
 all_goals try trivial
 refine aG.aDE (aNG a a) (eJ.cons (View.a7O [v9] (aC.aDM oe0) (eM.up1 aAV aVE)) (eJ.cons (by first | exact View.same _ _ | (simp only [aC.aN]; exact View.same _ _)) eJ.nil)) rfl ?_
 simp -dsimp -implicitDefEqProofs only [go_sem, ↓reduceIte, Tryz.f3, Bool.true_or, Bool.or_true, Bool.false_or, Bool.or_false, gP, eq_self, decide_true, Bool.not_true, bne_self_eq_false, aK, cB, OV.dC, OV.bK, OV.dZ, aC.aN, eT.flat, eT.one, eU.flat, eU.one, eX.flat, eX.one, iV.flat, iV.one]
 repeat' (with_reducible first | intro _ | refine And.intro ?_ ?_)
 all_goals try (first | exact ⟨_, aB.le_refl _, rfl⟩ | exact ⟨_, aB.le_refl _⟩)
 all_goals try omega
 refine aG.mk (kZ b aRL) ?_
 simp -dsimp -implicitDefEqProofs only [go_sem, ↓reduceIte, Tryz.f3, Bool.true_or, Bool.or_true, Bool.false_or, Bool.or_false, gP, eq_self, decide_true, Bool.not_true, bne_self_eq_false, aK, cB, OV.dC, OV.bK, OV.dZ, aC.aN, eT.flat, eT.one, eU.flat, eU.one, eX.flat, eX.one, iV.flat, iV.one]
 repeat' (with_reducible first | intro _ | refine And.intro ?_ ?_)
 all_goals try trivial
 refine aG.aDE (sT b b) (eJ.cons (View.ovD uP (OS.lA (c := (fun n => [I n])) (fun _ _ q => rO q) eU) (eM.up1 aAV a0Y)) (eJ.cons (View.same _ _) eJ.nil)) rfl ?_
 simp -dsimp -implicitDefEqProofs only [go_sem, ↓reduceIte, Tryz.f3, Bool.true_or, Bool.or_true, Bool.false_or, Bool.or_false, gP, eq_self, decide_true, Bool.not_true, bne_self_eq_false, aK, cB, OV.dC, OV.bK, OV.dZ, aC.aN, eT.flat, eT.one, eU.flat, eU.one, eX.flat, eX.one, iV.flat, iV.one]
 repeat' (with_reducible first | intro _ | refine And.intro ?_ ?_)
 all_goals try (first | exact ⟨_, aB.le_refl _, rfl⟩ | exact ⟨_, aB.le_refl _⟩)
 all_goals try omega
 refine aG.mk (kZ d aRM) ?_
 simp -dsimp -implicitDefEqProofs only [go_sem, ↓reduceIte, Tryz.f3, Bool.true_or, Bool.or_true, Bool.false_or, Bool.or_false, gP, eq_self, decide_true, Bool.not_true, bne_self_eq_false, aK, cB, OV.dC, OV.bK, OV.dZ, aC.aN, eT.flat, eT.one, eU.flat, eU.one, eX.flat, eX.one, iV.flat, iV.one]
 repeat' (with_reducible first | intro _ | refine And.intro ?_ ?_)
 all_goals try trivial
 refine aG.aDE (sT d d) (eJ.cons (View.ovD sZ (OS.lA (c := (fun n => [I n])) (fun _ _ q => rO q) eX) (eM.up1 aAV a0Z)) (eJ.cons (View.same _ _) eJ.nil)) rfl ?_
 simp -dsimp -implicitDefEqProofs only [go_sem, ↓reduceIte, Tryz.f3, Bool.true_or, Bool.or_true, Bool.false_or, Bool.or_false, gP, eq_self, decide_true, Bool.not_true, bne_self_eq_false, aK, cB, OV.dC, OV.bK, OV.dZ, aC.aN, eT.flat, eT.one, eU.flat, eU.one, eX.flat, eX.one, iV.flat, iV.one]
 repeat' (with_reducible first | intro _ | refine And.intro ?_ ?_)
 all_goals try (first | exact ⟨_, aB.le_refl _, rfl⟩ | exact ⟨_, aB.le_refl _⟩)
 all_goals try omega
 have bF6 := aC.a7P a _ oe0
 refine aG.wc1 (aG9 a [v9] (1 : Int) _ oe0 (by omega) (by omega) (eM.up1 aAV aVE) nd0) aVE aAV ?_
 rintro g5 cg5 aVF
 obtain ⟨cc0, bCW⟩ : ∃ z : Int, z = (1 : Int) + ((OV.vK [v9] : Nat) : Int) := ⟨_, rfl⟩
 rw [← bCW]
 have a00 : eM g5 uP.rows := fun p hp => by
  have hm : p.1 ∈ aY uP.rows := bP.2 ⟨p.2, hp⟩
  rw [cg5.upto p.1 (fun hq => a3Y p.1 hq hm)]
  exact a0Y p hp
 have a9I : eM g5 sZ.rows := fun p hp => by
  have hm : p.1 ∈ aY sZ.rows := bP.2 ⟨p.2, hp⟩
  rw [cg5.upto p.1 (fun hq => a3Z p.1 hq hm)]
  exact a0Z p hp
 have bCX : eM g5 wA.rows := fun p hp => by
  have hm : p.1 ∈ aY wA.rows := bP.2 ⟨p.2, hp⟩
  rw [cg5.upto p.1 (fun hq => a9F p.1 hq hm)]
  exact a9E p hp
 simp -dsimp -implicitDefEqProofs only [go_sem, ↓reduceIte, Tryz.f3, Bool.true_or, Bool.or_true, Bool.false_or, Bool.or_false, gP, eq_self, decide_true, Bool.not_true, bne_self_eq_false, aK, cB, OV.dC, OV.bK, OV.dZ, aC.aN, eT.flat, eT.one, eU.flat, eU.one, eX.flat, eX.one, iV.flat, iV.one]
 repeat' (with_reducible first | intro _ | refine And.intro ?_ ?_)
 all_goals try (first | exact ⟨_, aB.le_refl _, rfl⟩ | exact ⟨_, aB.le_refl _⟩)
 all_goals try omega
 have bF7 := eU.ctP
 refine aG.wc1 (vL b uP cc0 _ eU (by omega) (by omega) (eM.up1 aVF a00) nd1) a00 aVF ?_
 rintro g6 cg6 aVG
 obtain ⟨cc1, bCY⟩ : ∃ z : Int, z = cc0 + ((uP.ct : Nat) : Int) := ⟨_, rfl⟩
 rw [← bCY]
 have a01 : eM g6 sZ.rows := fun p hp => by
  have hm : p.1 ∈ aY sZ.rows := bP.2 ⟨p.2, hp⟩
  rw [cg6.upto p.1 (fun hq => a30 p.1 hq hm)]
  exact a9I p hp
 have bCZ : eM g6 wA.rows := fun p hp => by
  have hm : p.1 ∈ aY wA.rows := bP.2 ⟨p.2, hp⟩
  rw [cg6.upto p.1 (fun hq => a9G p.1 hq hm)]
  exact bCX p hp
 simp -dsimp -implicitDefEqProofs only [go_sem, ↓reduceIte, Tryz.f3, Bool.true_or, Bool.or_true, Bool.false_or, Bool.or_false, gP, eq_self, decide_true, Bool.not_true, bne_self_eq_false, aK, cB, OV.dC, OV.bK, OV.dZ, aC.aN, eT.flat, eT.one, eU.flat, eU.one, eX.flat, eX.one, iV.flat, iV.one]
 repeat' (with_reducible first | intro _ | refine And.intro ?_ ?_)
 all_goals try (first | exact ⟨_, aB.le_refl _, rfl⟩ | exact ⟨_, aB.le_refl _⟩)
 all_goals try omega
 have bF8 := eX.ctP
 refine aG.wc1 (vL d sZ cc1 _ eX (by omega) (by omega) (eM.up1 aVG a01) nd2) a01 aVG ?_
 rintro g7 cg7 aNW
 obtain ⟨cc2, bC0⟩ : ∃ z : Int, z = cc1 + ((sZ.ct : Nat) : Int) := ⟨_, rfl⟩
 rw [← bC0]
 have a31 : eM g7 wA.rows := fun p hp => by
  have hm : p.1 ∈ aY wA.rows := bP.2 ⟨p.2, hp⟩
  rw [cg7.upto p.1 (fun hq => a9H p.1 hq hm)]
  exact bCZ p hp
 simp -dsimp -implicitDefEqProofs only [go_sem, ↓reduceIte, Tryz.f3, Bool.true_or, Bool.or_true, Bool.false_or, Bool.or_false, gP, eq_self, decide_true, Bool.not_true, bne_self_eq_false, aK, cB, OV.dC, OV.bK, OV.dZ, aC.aN, eT.flat, eT.one, eU.flat, eU.one, eX.flat, eX.one, iV.flat, iV.one]
 repeat' (with_reducible first | intro _ | refine And.intro ?_ ?_)
 all_goals try (first | exact ⟨_, aB.le_refl _, rfl⟩ | exact ⟨_, aB.le_refl _⟩)
 all_goals try omega
 refine aG.aDE (xK (gV a f b d o).1 (gV a f b d o).1 (fun x _ y => (sT x y))) (eJ.cons (View.ovD wA (OS.lA (c := (fun x => [dB 1 (fun n => [I n]) x])) (fun _ _ q => aST (c := (fun n => [I n])) (fun _ _ q => rO q) q) iV) (eM.up1 aNW a31)) (eJ.cons (View.same _ _) eJ.nil)) rfl ?_
 simp -dsimp -implicitDefEqProofs only [go_sem, ↓reduceIte, Tryz.f3, Bool.true_or, Bool.or_true, Bool.false_or, Bool.or_false, gP, eq_self, decide_true, Bool.not_true, bne_self_eq_false, aK, cB, OV.dC, OV.bK, OV.dZ, aC.aN, eT.flat, eT.one, eU.flat, eU.one, eX.flat, eX.one, iV.flat, iV.one]
 repeat' (with_reducible first | intro _ | refine And.intro ?_ ?_)
 all_goals try (first | exact ⟨_, aB.le_refl _, rfl⟩ | exact ⟨_, aB.le_refl _⟩)
 all_goals try omega
 have hctg : wA.ct ≤ 4000000000000000000 := by have h1 := OS.cts (s := List.length) iV (fun z hz e q => a12 q); have h2 := aRK a f b d o; omega
 refine aG.wc1 (aHA _ wA 1 _ iV (by omega) (by omega) (eM.up1 aNW a31) ndg) a31 aNW ?_
 rintro g8 cg8 aVH
 obtain ⟨ccg, hccg⟩ : ∃ z : Int, z = 1 + ((wA.ct : Nat) : Int) := ⟨_, rfl⟩
 rw [← hccg]
 simp -dsimp -implicitDefEqProofs only [go_sem, ↓reduceIte, Tryz.f3, Bool.true_or, Bool.or_true, Bool.false_or, Bool.or_false, gP, eq_self, decide_true, Bool.not_true, bne_self_eq_false, aK, cB, OV.dC, OV.bK, OV.dZ, aC.aN, eT.flat, eT.one, eU.flat, eU.one, eX.flat, eX.one, iV.flat, iV.one]
 repeat' (with_reducible first | intro _ | refine And.intro ?_ ?_)
 all_goals try (first | exact ⟨_, aB.le_refl _, rfl⟩ | exact ⟨_, aB.le_refl _⟩)
 all_goals try omega
 have hh := yR _ wA 1 iV (by omega) (by omega)
 rw [← hccg] at hh
 refine aG.aDE hh (eJ.cons (View.ovM 1 iV (eM.up1 aVH cg8.iJ)) (eJ.cons (View.same _ _) eJ.nil)) rfl ?_
 simp -dsimp -implicitDefEqProofs only [go_sem, ↓reduceIte, Tryz.f3, Bool.true_or, Bool.or_true, Bool.false_or, Bool.or_false, gP, eq_self, decide_true, Bool.not_true, bne_self_eq_false, aK, cB, OV.dC, OV.bK, OV.dZ, aC.aN, eT.flat, eT.one, eU.flat, eU.one, eX.flat, eX.one, iV.flat, iV.one]
 repeat' (with_reducible first | intro _ | refine And.intro ?_ ?_)
 all_goals try (first | exact ⟨_, aB.le_refl _, rfl⟩ | exact ⟨_, aB.le_refl _⟩)
 all_goals try omega
 first | refine aG.mk (qC a aRN) ?_ | refine aE.mk (qC a aRN) ?_
 simp -dsimp -implicitDefEqProofs only [go_sem, ↓reduceIte, Tryz.f3, Bool.true_or, Bool.or_true, Bool.false_or, Bool.or_false, gP, eq_self, decide_true, Bool.not_true, bne_self_eq_false, aK, cB, OV.dC, OV.bK, OV.dZ, aC.aN, eT.flat, eT.one, eU.flat, eU.one, eX.flat, eX.one, iV.flat, iV.one]
 repeat' (with_reducible first | intro _ | refine And.intro ?_ ?_)
 all_goals try trivial
 first | refine aG.mk (kZ b aRL) ?_ | refine aE.mk (kZ b aRL) ?_
 simp -dsimp -implicitDefEqProofs only [go_sem, ↓reduceIte, Tryz.f3, Bool.true_or, Bool.or_true, Bool.false_or, Bool.or_false, gP, eq_self, decide_true, Bool.not_true, bne_self_eq_false, aK, cB, OV.dC, OV.bK, OV.dZ, aC.aN, eT.flat, eT.one, eU.flat, eU.one, eX.flat, eX.one, iV.flat, iV.one]
 repeat' (with_reducible first | intro _ | refine And.intro ?_ ?_)
 all_goals try trivial
 first | refine aG.mk (kZ d aRM) ?_ | refine aE.mk (kZ d aRM) ?_
 simp -dsimp -implicitDefEqProofs only [go_sem, ↓reduceIte, Tryz.f3, Bool.true_or, Bool.or_true, Bool.false_or, Bool.or_false, gP, eq_self, decide_true, Bool.not_true, bne_self_eq_false, aK, cB, OV.dC, OV.bK, OV.dZ, aC.aN, eT.flat, eT.one, eU.flat, eU.one, eX.flat, eX.one, iV.flat, iV.one]
 repeat' (with_reducible first | intro _ | refine And.intro ?_ ?_)
 all_goals try trivial
 first | refine aG.mk (hseal) ?_ | refine aE.mk (hseal) ?_
 simp -dsimp -implicitDefEqProofs only [go_sem, ↓reduceIte, Tryz.f3, Bool.true_or, Bool.or_true, Bool.false_or, Bool.or_false, gP, eq_self, decide_true, Bool.not_true, bne_self_eq_false, aK, cB, OV.dC, OV.bK, OV.dZ, aC.aN, eT.flat, eT.one, eU.flat, eU.one, eX.flat, eX.one, iV.flat, iV.one]
 refine aG.mk (xK (gV a f b d o).1 (gV a f b d o).1 (fun x _ y => (sT x y))) ?_
 simp -dsimp -implicitDefEqProofs only [go_sem, ↓reduceIte, Tryz.f3, Bool.true_or, Bool.or_true, Bool.false_or, Bool.or_false, gP, eq_self, decide_true, Bool.not_true, bne_self_eq_false, aK, cB, OV.dC, OV.bK, OV.dZ, aC.aN, eT.flat, eT.one, eU.flat, eU.one, eX.flat, eX.one, iV.flat, iV.one]
 repeat' (with_reducible first | intro _ | refine And.intro ?_ ?_)
 all_goals try (first | exact ⟨_, aB.le_refl _, rfl⟩ | exact ⟨_, aB.le_refl _⟩)
 all_goals try omega
 have hh := yR _ wA 1 iV (by omega) (by omega)
 rw [← hccg] at hh
 refine aG.aDE hh (eJ.cons (View.ovM 1 iV (eM.up1 aVH cg8.iJ)) (eJ.cons (View.same _ _) eJ.nil)) rfl ?_
 simp -dsimp -implicitDefEqProofs only [go_sem, ↓reduceIte, Tryz.f3, Bool.true_or, Bool.or_true, Bool.false_or, Bool.or_false, gP, eq_self, decide_true, Bool.not_true, bne_self_eq_false, aK, cB, OV.dC, OV.bK, OV.dZ, aC.aN, eT.flat, eT.one, eU.flat, eU.one, eX.flat, eX.one, iV.flat, iV.one]
 repeat' (with_reducible first | intro _ | refine And.intro ?_ ?_)
 all_goals try (first | exact ⟨_, aB.le_refl _, rfl⟩ | exact ⟨_, aB.le_refl _⟩)
 all_goals try omega
theorem pO {P : Program} {n : Nat} {t : TypeId} {xs : List aD} (hu : P.underlying t = some (.int .i64)) (h : s4 P n t xs) : ∃ i : Int, xs = [I i] ∧ InI i := by
 match n, h with
 |0, h => exact h.elim
 |n + 1, h =>
  simp only [s4, hu] at h
  obtain ⟨i, rfl, hw⟩ := h
  refine ⟨i, rfl, ?_⟩
  have h1 : IntKind.min .i64 = -9223372036854775808 := by decide
  have h2 : IntKind.max .i64 = 9223372036854775807 := by decide
  simp [Lit.wf, IntKind.has, h1, h2] at hw
  unfold InI
  omega
theorem aYR {P : Program} {n : Nat} {t : TypeId} {xs : List aD} (hu : P.underlying t = some .string) (h : s4 P n t xs) : ∃ s : List UInt8, xs = [.str s] ∧ True := by
 match n, h with
 |0, h => exact h.elim
 |n + 1, h =>
  simp only [s4, hu] at h
  obtain ⟨b, rfl⟩ := h
  exact ⟨b, rfl, trivial⟩
theorem aP8 {α : Type} {c : α → List aD} {w : α → Prop} : ∀ {es : List (List aD)}, (∀ y ∈ es, ∃ x, y = c x ∧ w x) → ∃ l : List α, es = l.map c ∧ ∀ x ∈ l, w x
 | [], _ => ⟨[], rfl, by simp⟩
 |e :: es, h => by
  obtain ⟨x, rfl, hx⟩ := h _ List.mem_cons_self
  obtain ⟨l, rfl, hl⟩ := aP8 fun y hy => h y (List.mem_cons_of_mem _ hy)
  refine ⟨x :: l, rfl, fun y hy => ?_⟩
  rcases List.mem_cons.1 hy with rfl | hy
  ·exact hx
  ·exact hl y hy
theorem s3 {P : Program} {n sz : Nat} {t e : TypeId} {α : Type} {c : α → List aD} {w : α → Prop} {xs : List aD} (hu : P.underlying t = some (.slice e)) (hc : P.cellsOf e = sz) (h : s4 P n t xs)
  (hx : ∀ m y, m < n → s4 P m e y → ∃ x, y = c x ∧ w x) : ∃ l : List α, xs = [dB sz c l] ∧ ∀ x ∈ l, w x := by
 match n, h with
 |0, h => exact h.elim
 |n + 1, h =>
  simp only [s4, hu] at h
  obtain ⟨es, rfl, hes⟩ := h
  obtain ⟨l, rfl, hl⟩ := aP8 fun y hy => hx n y (by omega) (hes y hy)
  exact ⟨l, by rw [hc], hl⟩
theorem kR {α : Type} {xs c r : List α} {o n o' : Nat} (h : (xs.drop o).take n = c) (hr : xs.drop o' = r) (ho : o + n = o') : xs.drop o = c ++ r := by
 rw [← hr, ← ho, ← List.drop_drop, ← h, List.take_append_drop]
theorem aYS : Tryz.prog.cellsOf 24 = 1 := by kernel_rfl
theorem xS : Tryz.prog.cellsOf 2 = 1 := by kernel_rfl
theorem aLW : Tryz.prog.cellsOf 138 = 1 := by kernel_rfl
theorem aEZ : Tryz.prog.cellsOf 219 = 5 := by kernel_rfl
theorem a32 : Tryz.prog.cellsOf 9 = 1 := by kernel_rfl
theorem aLX : Tryz.prog.cellsOf 140 = 3 := by kernel_rfl
theorem aYT : Tryz.prog.cellsOf 22 = 1 := by kernel_rfl
theorem aP9 : ∀ {n : Nat} {xs : List aD}, s4 Tryz.prog n 219 xs → ∃ x : aA, xs = x.c ∧ x.wf
 |0, _, h => h.elim
 |n + 1, xs, h => by
  simp only [s4, Tryz.underlying219] at h
  obtain ⟨hl, hf⟩ := h
  rw [aEZ] at hl
  have f0 : s4 Tryz.prog n 2 ((xs.drop 0).take (Tryz.prog.cellsOf 2)) := hf 0 _ rfl
  rw [xS] at f0
  obtain ⟨x0, e0, w0⟩ := (pO Tryz.underlying2 f0)
  have f1 : s4 Tryz.prog n 2 ((xs.drop 1).take (Tryz.prog.cellsOf 2)) := hf 1 _ rfl
  rw [xS] at f1
  obtain ⟨x1, e1, w1⟩ := (pO Tryz.underlying2 f1)
  have f2 : s4 Tryz.prog n 2 ((xs.drop 2).take (Tryz.prog.cellsOf 2)) := hf 2 _ rfl
  rw [xS] at f2
  obtain ⟨x2, e2, w2⟩ := (pO Tryz.underlying2 f2)
  have f3 : s4 Tryz.prog n 2 ((xs.drop 3).take (Tryz.prog.cellsOf 2)) := hf 3 _ rfl
  rw [xS] at f3
  obtain ⟨x3, e3, w3⟩ := (pO Tryz.underlying2 f3)
  have f4 : s4 Tryz.prog n 138 ((xs.drop 4).take (Tryz.prog.cellsOf 138)) := hf 4 _ rfl
  rw [aLW] at f4
  obtain ⟨x4, e4, w4⟩ := (s3 (c := aA.c) (w := (fun x => x.wf)) Tryz.underlying138 aEZ f4 (fun m y hm hy => (aP9 hy)))
  have r5 : xs.drop 5 = [] := List.drop_eq_nil_of_le (by omega)
  have r4 := kR e4 r5 rfl
  have r3 := kR e3 r4 rfl
  have r2 := kR e2 r3 rfl
  have r1 := kR e1 r2 rfl
  have r0 := kR e0 r1 rfl
  exact ⟨.mk x0 x1 x2 x3 x4, by rw [aA.aN]; exact r0, .mk _ w0 w1 w2 w3 w4⟩
termination_by n => n
decreasing_by all_goals omega
theorem aYU : ∀ {n : Nat} {xs : List aD}, s4 Tryz.prog n 140 xs → ∃ x : aP, xs = x.c ∧ x.wf
 |0, _, h => h.elim
 |n + 1, xs, h => by
  simp only [s4, Tryz.underlying140] at h
  obtain ⟨hl, hf⟩ := h
  rw [aLX] at hl
  have f0 : s4 Tryz.prog n 9 ((xs.drop 0).take (Tryz.prog.cellsOf 9)) := hf 0 _ rfl
  rw [a32] at f0
  obtain ⟨x0, e0, w0⟩ := (aYR Tryz.underlying9 f0)
  have f1 : s4 Tryz.prog n 2 ((xs.drop 1).take (Tryz.prog.cellsOf 2)) := hf 1 _ rfl
  rw [xS] at f1
  obtain ⟨x1, e1, w1⟩ := (pO Tryz.underlying2 f1)
  have f2 : s4 Tryz.prog n 138 ((xs.drop 2).take (Tryz.prog.cellsOf 138)) := hf 2 _ rfl
  rw [aLW] at f2
  obtain ⟨x2, e2, w2⟩ := (s3 (c := aA.c) (w := (fun x => x.wf)) Tryz.underlying138 aEZ f2 (fun m y hm hy => (aP9 hy)))
  have r3 : xs.drop 3 = [] := List.drop_eq_nil_of_le (by omega)
  have r2 := kR e2 r3 rfl
  have r1 := kR e1 r2 rfl
  have r0 := kR e0 r1 rfl
  exact ⟨⟨x0, x1, x2⟩, r0, ⟨w1, w2⟩⟩
theorem a33 : ∀ {n : Nat} {xs : List aD}, s4 Tryz.prog n 24 xs → ∃ x : aC, xs = x.c ∧ x.wf
 |0, _, h => h.elim
 |n + 1, xs, h => by
  simp only [s4, Tryz.underlying24] at h
  obtain ⟨hl, hf⟩ := h
  rw [aYS] at hl
  have f0 : s4 Tryz.prog n 22 ((xs.drop 0).take (Tryz.prog.cellsOf 22)) := hf 0 _ rfl
  rw [aYT] at f0
  obtain ⟨x0, e0, w0⟩ := (s3 (c := aP.c) (w := (fun x => x.wf)) Tryz.underlying22 aLX f0 (fun m y hm hy => (aYU hy)))
  have r1 : xs.drop 1 = [] := List.drop_eq_nil_of_le (by omega)
  have r0 := kR e0 r1 rfl
  exact ⟨⟨x0⟩, r0, w0⟩
def a9J : List TypeId := [2, 5, 9, 22, 24, 25, 27, 45, 138, 140, 219]
theorem aYV : aQM Tryz.prog a9J = true := by kernel_rfl
end Go.Hl

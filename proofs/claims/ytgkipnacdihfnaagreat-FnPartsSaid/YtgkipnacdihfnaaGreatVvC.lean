/-
  Contracts of functions and laws of the layer over the walk.
-/
import Derived.Test.YtgkipnacdihfnaaGreatVvB
namespace Go.Hl
set_option maxRecDepth 100000
open Go.Proofs
set_option linter.unusedVariables false
set_option linter.unusedSimpArgs false
theorem a9P (m : Nat) (es : List (List aD)) (x : aC) : lV m es x.c = x.c := by rw [aC.aU]; rfl
theorem aYF (m sz k : Nat) (x : aC) : fZ m sz k x.c = true := by rw [aC.aU]; rfl
theorem aKR.aU7 {P : Program} {N : Nat} {c : Code} {Q : Exit → bL → aB → Prop} {τ : bL} {h : aB} {t : Tag (c, Q)} (n : Nat) {es : List (List aD)} (hh : h n = none) (hb : τ.all (fun p => fY n 1 es.length p.2) = true)
  (x : aKR P N c Q (τ.map fun p => (p.1, p.2.fE n es)) (aR h n .gone) ()) : aKR P N c Q τ (aR h n (.row 1 (es.map (List.map .v)))) t := by
 have y := pN.r5 (c := c) (Q := Q) (τ := τ) (N := N) (P := P) (h := aR h n (.row 1 (es.map (List.map .v)))) n (sz := 1) (es := es.map (List.map .v)) (aG _ _ _) (by simpa using hb)
 rw [aK, lZ] at y
 exact y x
theorem aH.aYG {P : Program} {f : FuncId} {h : aB} {K : aD → aB → Prop} {t : Tag K} {nb m k len : Nat} {x : aD} {es : List (List aD)} (hx : x.fE m es = x) (hx2 : fY m 1 es.length x = true) (hne : ¬ nb = m) (hl : len = es.length) (hm : h m = none) (a : iH P f [.op nb k 0 0, x, .sl 1 es false] (aR h m .gone) K) :
  aH P f [.op nb k 0 0, x, .os m 1 0 len] (aR h m (.row 1 (es.map (List.map .v)))) K t := by
 subst hl
 refine aH.aU7 m (aG _ _ _) (by simp [fZ, fY, hx2, hne]) ?_
 rw [aK, lZ]
 have h1 : lV m es [.op nb k 0 0, x, .os m 1 0 es.length] = [.op nb k 0 0, x, .sl 1 es false] := by
  simp only [lV, aD.fE, hx, if_neg hne, if_true, List.drop_zero, List.take_length]
 rw [h1]
 exact a
theorem aH.aS7 {P : Program} {f : FuncId} {h : aB} {K : aD → aB → Prop} {t : Tag K} {nb m k len : Nat} {e : aC} {es : List (List aD)} (hne : ¬ nb = m) (hl : len = es.length) (hm : h m = none) (a : iH P f [.op nb k 0 0, .agg e.c, .sl 1 es false] (aR h m .gone) K) :
  aH P f [.op nb k 0 0, .agg e.c, .os m 1 0 len] (aR h m (.row 1 (es.map (List.map .v)))) K t := by
 subst hl
 refine aH.aU7 m (aG _ _ _) (by simp [fZ, fY, aYF, hne]) ?_
 rw [aK, lZ]
 have h1 : lV m es [.op nb k 0 0, .agg e.c, .os m 1 0 es.length] = [.op nb k 0 0, .agg e.c, .sl 1 es false] := by
  simp only [lV, aD.fE, a9P, if_neg hne, if_true, List.drop_zero, List.take_length]
 rw [h1]
 exact a
theorem tL {sz : Nat} {env : List (List Int)} {s : List Int} (he : ∀ x ∈ env, bN sz x) (hs : bN sz s) : ∀ x ∈ env ++ [s], bN sz x := fun x hx => by
 rcases List.mem_append.1 hx with hx | hx
 ·exact he x hx
 ·rw [List.mem_singleton.1 hx]; exact hs
@[go_sem] def a2H : List Nat := [0, 2]
@[go_sem] def bG0 : List Nat := []
@[go_sem] def bG1 : Marks := fun _ => ([], .nil, [])
theorem aLI (l : List (List Int)) (hl : l.length ≤ 1048576) : fL Tryz.prog 148 [c7 l] (.sl 1 (l.map fun s => [ints s]) true) := by
 refine fT 9 a2H bG0 bG1 mix Tryz.func148 rfl (by kernel_rfl) (by simp) fun h => ?_
 simp -dsimp -implicitDefEqProofs only [go_sem, ↓reduceIte, Tryz.f148]
 repeat' (with_reducible first | intro _ | refine And.intro ?_ ?_)
 all_goals try omega
 rw [List.take_of_length_le (by rw [List.length_map]; exact Nat.le_refl _)]
theorem jD : jA 0 := by unfold jA; simp
theorem aQ4 {p : aE} {sz n : Nat} (hsz : 1 ≤ sz ∧ sz ≤ 1048576) (h : aB) (nb st : Nat) (c : Int) (e : aC) (env : List (List Int)) (hb : h nb = some (dG p sz st c)) (hst : st ≤ 3000) (hs : ¬ c = 0 ∨ st = 3000) :
  iH Tryz.prog 118 [.op nb 4 0 0, .agg e.c, c7 env] h (EvQ h nb p sz st c (iY p sz (n + 1) st e env)) := by
 rw [aC.aU]
 have hb' := hb
 unfold dG at hb'
 refine j4 210 nU v8 v9 mix Tryz.func118 rfl (by kernel_rfl) (by simp) ?_
 simp -dsimp -implicitDefEqProofs only [go_sem, ↓reduceIte, Tryz.f118, hb']
 refine ⟨fun hc => ?_, fun hc => ?_⟩
 ·refine aH.fG (lX _ nb _ _ _ 0 sz hb' hsz) ?_
  rintro r h' ⟨rfl, rfl⟩
  simp -dsimp -implicitDefEqProofs only [go_sem, ↓reduceIte, Tryz.f118]
  have hc' : ¬ c = 0 := by simpa using hc
  exact ⟨_, _, bI _ _, _, st, c, rfl, (rQ hb).symm, eX jD, Nat.le_refl _, hst, by rw [iA _ hc']; exact eO _ _ hc'⟩
 ·have hc0 : c = 0 := by simpa using hc
  subst hc0
  have h3 : st = 3000 := by rcases hs with hs | hs; exact absurd rfl hs; exact hs
  subst h3
  try simp -dsimp -implicitDefEqProofs only [go_sem, ↓reduceIte, Tryz.f118, hb']
  refine ⟨fun _ => ?_, fun q => absurd q (by simp)⟩
  refine aH.fG (lX _ nb _ _ _ 0 sz (aG _ _ _) hsz) ?_
  rintro r h' ⟨rfl, rfl⟩
  simp -dsimp -implicitDefEqProofs only [go_sem, ↓reduceIte, Tryz.f118]
  refine ⟨_, _, bI _ _, _, 3000, 7, rfl, rfl, eX jD, Nat.le_refl _, hst, ?_⟩
  rw [cU, iY, if_pos rfl]
  exact eO _ _ (by decide)
theorem a2I {p : aE} (hp : p.ok) {sz n : Nat} (hsz : 1 ≤ sz ∧ sz ≤ 1048576) (hv : nV p sz n) (h : aB) (nb st : Nat) (e : aC) (env : List (List Int)) (funcs : Int) (hb : h nb = some (dG p sz st 0)) (hst : st < 3000) (hn : 3001 ≤ n + 1 + st)
  (hok : e.ok p funcs env.length) (fN : 0 ≤ funcs) (hf : funcs ≤ p.aI.length) (henv : ∀ s ∈ env, bN sz s) (hel : env.length ≤ 412 + st) (hk : e.aP = 1) :
  iH Tryz.prog 118 [.op nb 4 0 0, .agg e.c, c7 env] h (EvQ h nb p sz st 0 (iY p sz (n + 1) st e env)) := by
 rw [aC.aU]
 have hb' := hb
 unfold dG at hb'
 have e3 : ((st : Int) = 3000) = False := eq_false (by omega)
 have ew : IntKind.i64.wrap ((st : Int) + 1) = ((st + 1 : Nat) : Int) := by rw [IntWalk.i64_in _ (by omega)]; rfl
 have hnode := (aC.dB _ _ _ _).1 hok
 have h3 : ¬ st = 3000 := by omega
 have hnum : jA e.bC := ((dO (by omega)).1 hnode.1).2.2.2.1 hk
 refine j4 210 nU v8 v9 mix Tryz.func118 rfl (by kernel_rfl) (by simp) ?_
 simp -dsimp -implicitDefEqProofs only [go_sem, ↓reduceIte, Tryz.f118, hb', e3, ew, hk]
 refine aH.fG (lX _ nb _ _ _ e.bC sz (aG _ _ _) hsz) ?_
 rintro r h' ⟨rfl, rfl⟩
 simp -dsimp -implicitDefEqProofs only [go_sem, ↓reduceIte, Tryz.f118]
 refine ⟨_, _, bI _ _, _, st + 1, 0, rfl, rfl, eX hnum, Nat.le_succ _, hst, ?_⟩
 rw [cU, aO0 h3 hk]
 exact lB _ _
theorem a2J {p : aE} (hp : p.ok) {sz n : Nat} (hsz : 1 ≤ sz ∧ sz ≤ 1048576) (hv : nV p sz n) (h : aB) (nb st : Nat) (e : aC) (env : List (List Int)) (funcs : Int) (hb : h nb = some (dG p sz st 0)) (hst : st < 3000) (hn : 3001 ≤ n + 1 + st)
  (hok : e.ok p funcs env.length) (fN : 0 ≤ funcs) (hf : funcs ≤ p.aI.length) (henv : ∀ s ∈ env, bN sz s) (hel : env.length ≤ 412 + st) (hk : e.aP = 2) :
  iH Tryz.prog 118 [.op nb 4 0 0, .agg e.c, c7 env] h (EvQ h nb p sz st 0 (iY p sz (n + 1) st e env)) := by
 rw [aC.aU]
 have hb' := hb
 unfold dG at hb'
 have e3 : ((st : Int) = 3000) = False := eq_false (by omega)
 have ew : IntKind.i64.wrap ((st : Int) + 1) = ((st + 1 : Nat) : Int) := by rw [IntWalk.i64_in _ (by omega)]; rfl
 have hnode := (aC.dB _ _ _ _).1 hok
 have h3 : ¬ st = 3000 := by omega
 have hnum := ((dO (by omega)).1 hnode.1).2.2.2.2.1 hk
 have hlt : e.bC.toNat < env.length := by omega
 refine j4 210 nU v8 v9 mix Tryz.func118 rfl (by kernel_rfl) (by simp) ?_
 simp -dsimp -implicitDefEqProofs only [go_sem, ↓reduceIte, Tryz.f118, hb', e3, ew, hk, iP hlt]
 refine ⟨hnum.1, by omega, _, _, bI _ _, _, st + 1, 0, rfl, rfl, iV henv hlt, Nat.le_succ _, hst, ?_⟩
 rw [cU, aO1 h3 hk]
 exact lB _ _
theorem a2K {p : aE} (hp : p.ok) {sz n : Nat} (hsz : 1 ≤ sz ∧ sz ≤ 1048576) (hv : nV p sz n) (h : aB) (nb st : Nat) (e : aC) (env : List (List Int)) (funcs : Int) (hb : h nb = some (dG p sz st 0)) (hst : st < 3000) (hn : 3001 ≤ n + 1 + st)
  (hok : e.ok p funcs env.length) (fN : 0 ≤ funcs) (hf : funcs ≤ p.aI.length) (henv : ∀ s ∈ env, bN sz s) (hel : env.length ≤ 412 + st) (hk : e.aP = 8) :
  iH Tryz.prog 118 [.op nb 4 0 0, .agg e.c, c7 env] h (EvQ h nb p sz st 0 (iY p sz (n + 1) st e env)) := by
 rw [aC.aU]
 have hb' := hb
 unfold dG at hb'
 have e3 : ((st : Int) = 3000) = False := eq_false (by omega)
 have ew : IntKind.i64.wrap ((st : Int) + 1) = ((st + 1 : Nat) : Int) := by rw [IntWalk.i64_in _ (by omega)]; rfl
 have hnode := (aC.dB _ _ _ _).1 hok
 have h3 : ¬ st = 3000 := by omega
 have hlen := dT hok (by omega)
 rw [hk, show dR 8 = 3 from rfl] at hlen
 have g0 : e.aN[Int.toNat 0]? = some (e.nN 0) := aC.gR (by omega)
 have g1 : e.aN[Int.toNat 1]? = some (e.nN 1) := aC.gR (by omega)
 have g2 : e.aN[Int.toNat 2]? = some (e.nN 2) := aC.gR (by omega)
 have o0 := aC.eP hok (i := 0) (by omega)
 have o1 := aC.eP hok (i := 1) (by omega)
 have o2 := aC.eP hok (i := 2) (by omega)
 rw [hJ (by omega)] at o0 o1 o2
 refine j4 210 nU v8 v9 mix Tryz.func118 rfl (by kernel_rfl) (by simp) ?_
 simp -dsimp -implicitDefEqProofs only [go_sem, ↓reduceIte, Tryz.f118, hb', e3, ew, hk, g0, aC.ld5]
 refine ⟨by omega, ?_⟩
 refine aH.fG (hv (aR h nb (dG p sz (st + 1) 0)) nb (st + 1) 0 (e.nN 0) env funcs (aG _ _ _) (by omega) (by omega) o0 fN hf henv (by omega)) ?_
 rintro r h' ⟨s1, t1, c1, rfl, rfl, mY, a1, a2, a3⟩
 have gs : s1[Int.toNat 0]? = some (s1.getD 0 0) := dS (by rw [mY.1]; omega)
 simp -dsimp -implicitDefEqProofs only [go_sem, ↓reduceIte, Tryz.f118, gs, g1, g2, aC.ld5]
 refine ⟨by rw [mY.1]; omega, fun hz => ⟨by omega, ?_⟩, fun hz => ⟨by omega, ?_⟩⟩
 ·rw [aK]
  refine aH.fG (hv (aR h nb (dG p sz t1 c1)) nb t1 c1 (e.nN 1) env funcs (aG _ _ _) (by omega) (by omega) o1 fN hf henv (by omega)) ?_
  rintro r h' ⟨s2, t2, c2, rfl, rfl, rC, b1, b2, b3⟩
  simp -dsimp -implicitDefEqProofs only [go_sem, ↓reduceIte, Tryz.f118]
  refine ⟨_, _, bI _ _, s2, t2, c2, rfl, by rw [aK], rC, by omega, b2, ?_⟩
  rw [aHM h3 hk]
  refine a3.dP ?_
  rw [if_pos hz]
  exact b3
 ·rw [aK]
  refine aH.fG (hv (aR h nb (dG p sz t1 c1)) nb t1 c1 (e.nN 2) env funcs (aG _ _ _) (by omega) (by omega) o2 fN hf henv (by omega)) ?_
  rintro r h' ⟨s2, t2, c2, rfl, rfl, rC, b1, b2, b3⟩
  simp -dsimp -implicitDefEqProofs only [go_sem, ↓reduceIte, Tryz.f118]
  refine ⟨_, _, bI _ _, s2, t2, c2, rfl, by rw [aK], rC, by omega, b2, ?_⟩
  rw [aHM h3 hk]
  refine a3.dP ?_
  rw [if_neg hz]
  exact b3
theorem a2L {p : aE} (hp : p.ok) {sz n : Nat} (hsz : 1 ≤ sz ∧ sz ≤ 1048576) (hv : nV p sz n) (h : aB) (nb st : Nat) (e : aC) (env : List (List Int)) (funcs : Int) (hb : h nb = some (dG p sz st 0)) (hst : st < 3000) (hn : 3001 ≤ n + 1 + st)
  (hok : e.ok p funcs env.length) (fN : 0 ≤ funcs) (hf : funcs ≤ p.aI.length) (henv : ∀ s ∈ env, bN sz s) (hel : env.length ≤ 412 + st) (hk : e.aP = 9) :
  iH Tryz.prog 118 [.op nb 4 0 0, .agg e.c, c7 env] h (EvQ h nb p sz st 0 (iY p sz (n + 1) st e env)) := by
 rw [aC.aU]
 have hb' := hb
 unfold dG at hb'
 have e3 : ((st : Int) = 3000) = False := eq_false (by omega)
 have ew : IntKind.i64.wrap ((st : Int) + 1) = ((st + 1 : Nat) : Int) := by rw [IntWalk.i64_in _ (by omega)]; rfl
 have hnode := (aC.dB _ _ _ _).1 hok
 have h3 : ¬ st = 3000 := by omega
 have hlen := dT hok (by omega)
 rw [hk, show dR 9 = 2 from rfl] at hlen
 have g0 : e.aN[Int.toNat 0]? = some (e.nN 0) := aC.gR (by omega)
 have g1 : e.aN[Int.toNat 1]? = some (e.nN 1) := aC.gR (by omega)
 have o0 := aC.eP hok (i := 0) (by omega)
 have o1 := aC.eP hok (i := 1) (by omega)
 rw [hJ (by omega)] at o0
 rw [hk, show iX 9 1 (env.length : Int) = env.length + 1 from rfl] at o1
 refine j4 210 nU v8 v9 mix Tryz.func118 rfl (by kernel_rfl) (by simp) ?_
 simp -dsimp -implicitDefEqProofs only [go_sem, ↓reduceIte, Tryz.f118, hb', e3, ew, hk, g0, g1, aC.ld5]
 refine ⟨by omega, by omega, ?_⟩
 first | refine aH.mk (aLI env (by omega)) ?_ | refine aF.mk (aLI env (by omega)) ?_ | refine aH.bS (aLI env (by omega)) ?_ | refine aF.mk (bM.eQ (aLI env (by omega))) ?_
 simp -dsimp -implicitDefEqProofs only [go_sem, ↓reduceIte, Tryz.f118]
 refine aH.fG (hv (aR h nb (dG p sz (st + 1) 0)) nb (st + 1) 0 (e.nN 0) env funcs (aG _ _ _) (by omega) (by omega) o0 fN hf henv (by omega)) ?_
 rintro r h' ⟨s1, t1, c1, rfl, rfl, mY, a1, a2, a3⟩
 simp -dsimp -implicitDefEqProofs only [go_sem, ↓reduceIte, Tryz.f118]
 refine ⟨Nat.zero_lt_one, Nat.zero_lt_one, Nat.zero_lt_one, by omega, by omega, ?_⟩
 intro m jE
 have fU : ¬ m = nb := by first | exact jE.1 | exact jE | exact jE.2.1 | exact jE.2 | exact jE.2.2.1 | exact jE.2.2 | exact jE.2.2.2.1 | exact jE.2.2.2 | exact jE.2.2.2.2.1 | exact jE.2.2.2.2 | exact jE.2.2.2.2.2.1 | exact jE.2.2.2.2.2 | exact jE.2.2.2.2.2.2.1 | exact jE.2.2.2.2.2.2 | exact jE.2.2.2.2.2.2.2.1 | exact jE.2.2.2.2.2.2.2 | exact jE.2.2.2.2.2.2.2.2.1 | exact jE.2.2.2.2.2.2.2.2 | exact jE.2.2.2.2.2.2.2.2.2.1 | exact jE.2.2.2.2.2.2.2.2.2 | exact jE.2.2.2.2.2.2.2.2.2.2.1 | exact jE.2.2.2.2.2.2.2.2.2.2 | exact jE.2.2.2.2.2.2.2.2.2.2.2.1 | exact jE.2.2.2.2.2.2.2.2.2.2.2 | exact jE.2.2.2.2.2.2.2.2.2.2.2.2.1 | exact jE.2.2.2.2.2.2.2.2.2.2.2.2 | exact jE.2.2.2.2.2.2.2.2.2.2.2.2.2.1 | exact jE.2.2.2.2.2.2.2.2.2.2.2.2.2
 have iF : (m = nb) = False := eq_false fU
 have iG : (nb = m) = False := eq_false (Ne.symm fU)
 have gC : ¬ nb = m := Ne.symm fU
 have z_m : h m = none := by first | exact jE.1 | exact jE | exact jE.2.1 | exact jE.2 | exact jE.2.2.1 | exact jE.2.2 | exact jE.2.2.2.1 | exact jE.2.2.2 | exact jE.2.2.2.2.1 | exact jE.2.2.2.2 | exact jE.2.2.2.2.2.1 | exact jE.2.2.2.2.2 | exact jE.2.2.2.2.2.2.1 | exact jE.2.2.2.2.2.2 | exact jE.2.2.2.2.2.2.2.1 | exact jE.2.2.2.2.2.2.2 | exact jE.2.2.2.2.2.2.2.2.1 | exact jE.2.2.2.2.2.2.2.2 | exact jE.2.2.2.2.2.2.2.2.2.1 | exact jE.2.2.2.2.2.2.2.2.2 | exact jE.2.2.2.2.2.2.2.2.2.2.1 | exact jE.2.2.2.2.2.2.2.2.2.2 | exact jE.2.2.2.2.2.2.2.2.2.2.2.1 | exact jE.2.2.2.2.2.2.2.2.2.2.2 | exact jE.2.2.2.2.2.2.2.2.2.2.2.2.1 | exact jE.2.2.2.2.2.2.2.2.2.2.2.2 | exact jE.2.2.2.2.2.2.2.2.2.2.2.2.2.1 | exact jE.2.2.2.2.2.2.2.2.2.2.2.2.2
 rw [aK]
 have hrow : env.map (fun s => [ints s]) ++ [[aD.sl 1 (s1.map fun n => [I n]) false]] = (env ++ [s1]).map fun s => [ints s] := by rw [List.map_append]; rfl
 rw [hrow]
 refine aH.aS7 gC (by rw [List.length_map, List.length_append]; rfl) (by rw [aA _ _ _ _ fU]; exact z_m) ?_
 refine iH.mono (hv (aR (aR h nb (dG p sz t1 c1)) m .gone) nb t1 c1 (e.nN 1) (env ++ [s1]) funcs (by rw [aA _ _ _ _ gC, aG]) (by omega) (by omega) (by rw [List.length_append]; exact o1) fN hf (tL henv mY) (by rw [List.length_append]; show env.length + 1 ≤ _; omega)) ?_
 rintro r h' ⟨s2, t2, c2, rfl, rfl, rC, b1, b2, b3⟩
 simp -dsimp -implicitDefEqProofs only [go_sem, ↓reduceIte, Tryz.f118]
 refine ⟨_, aR h nb (dG p sz t2 c2), cM (j7 (by repeat' (first | exact iM _ _ | refine j8 (by simp only [c6, ↓reduceIte, eq_self, if_true, iG, iF]) ?_ | refine gB (by first | exact .inr (by assumption) | exact .inl (by simp)) ?_))), s2, t2, c2, rfl, rfl, rC, by omega, b2, ?_⟩
 rw [aO2 h3 hk]
 exact a3.dP b3
theorem aYH {p : aE} (hp : p.ok) {sz n : Nat} (hsz : 1 ≤ sz ∧ sz ≤ 1048576) (hv : nV p sz n) (h : aB) (nb st : Nat) (e : aC) (env : List (List Int)) (funcs : Int) (hb : h nb = some (dG p sz st 0)) (hst : st < 3000) (hn : 3001 ≤ n + 1 + st)
  (hok : e.ok p funcs env.length) (fN : 0 ≤ funcs) (hf : funcs ≤ p.aI.length) (henv : ∀ s ∈ env, bN sz s) (hel : env.length ≤ 412 + st) (hk : e.aP = 10) :
  iH Tryz.prog 118 [.op nb 4 0 0, .agg e.c, c7 env] h (EvQ h nb p sz st 0 (iY p sz (n + 1) st e env)) := by
 rw [aC.aU]
 have hb' := hb
 unfold dG at hb'
 have e3 : ((st : Int) = 3000) = False := eq_false (by omega)
 have ew : IntKind.i64.wrap ((st : Int) + 1) = ((st + 1 : Nat) : Int) := by rw [IntWalk.i64_in _ (by omega)]; rfl
 have hnode := (aC.dB _ _ _ _).1 hok
 have h3 : ¬ st = 3000 := by omega
 obtain ⟨f, F⟩ := m6 hp hok hf (.inl hk)
 have hkl : e.aN.length ≤ 1048576 := by have := F.kids; have := F.params; omega
 refine j4 210 nU v8 v9 mix Tryz.func118 rfl (by kernel_rfl) (by simp) ?_
 simp -dsimp -implicitDefEqProofs only [go_sem, ↓reduceIte, Tryz.f118, hb', e3, ew, hk]
 refine aH.fG (xC hv (aR h nb (dG p sz (st + 1) 0)) nb (st + 1) 0 e.aN env funcs (aG _ _ _) (by omega) (by omega) hkl (eY hok (by omega)) fN hf henv (by omega)) ?_
 rintro r h' ⟨vs, t1, c1, rfl, rfl, hvl, hvs, a1, a2, a3⟩
 simp -dsimp -implicitDefEqProofs only [go_sem, ↓reduceIte, Tryz.f118, dG]
 refine ⟨fun hc => ?_, fun hc => ?_⟩
 ·have hc' : ¬ c1 = 0 := by simpa using hc
  refine aH.fG (lX _ nb _ _ _ 0 sz (aG _ _ _) hsz) ?_
  rintro r h' ⟨rfl, rfl⟩
  simp -dsimp -implicitDefEqProofs only [go_sem, ↓reduceIte, Tryz.f118]
  refine ⟨_, aR h nb (dG p sz t1 c1), cM (by rw [aK]; exact aB.le_refl _), _, t1, c1, rfl, rfl, eX jD, by omega, a2, ?_⟩
  rw [aD1 h3 hk]
  exact a3.dP (by rw [iA _ hc']; exact eO _ _ hc')
 ·have hc' : c1 = 0 := by simpa using hc
  subst hc'
  try simp -dsimp -implicitDefEqProofs only [go_sem, ↓reduceIte, Tryz.f118, hk, F.get, F.out, aT.aU, aC.ld5, aK]
  have f1 := F.lo
  have f2 := F.hi
  have f3 := F.pk
  have f4 := F.pk2
  have f5 := F.kids
  have f6 := F.params
  refine ⟨f1, f2, f3, by omega, ?_⟩
  refine aH.fG (hv (aR h nb (dG p sz t1 0)) nb t1 0 (p.out e.bC e.cR) vs e.bC (aG _ _ _) (by omega) (by omega) (by rw [hvl, f5]; exact F.oks _ (List.mem_of_getElem? F.out)) f1 (by omega) hvs (by omega)) ?_
  rintro r h' ⟨s2, t2, c2, rfl, rfl, rC, b1, b2, b3⟩
  simp -dsimp -implicitDefEqProofs only [go_sem, ↓reduceIte, Tryz.f118]
  refine ⟨_, aR h nb (dG p sz t2 c2), cM (by rw [aK]; exact aB.le_refl _), s2, t2, c2, rfl, rfl, rC, by omega, b2, ?_⟩
  rw [aD1 h3 hk]
  exact a3.dP b3
theorem a2M {p : aE} (hp : p.ok) {sz n : Nat} (hsz : 1 ≤ sz ∧ sz ≤ 1048576) (hv : nV p sz n) (h : aB) (nb st : Nat) (e : aC) (env : List (List Int)) (funcs : Int) (hb : h nb = some (dG p sz st 0)) (hst : st < 3000) (hn : 3001 ≤ n + 1 + st)
  (hok : e.ok p funcs env.length) (fN : 0 ≤ funcs) (hf : funcs ≤ p.aI.length) (henv : ∀ s ∈ env, bN sz s) (hel : env.length ≤ 412 + st) (hk : e.aP = 7) :
  iH Tryz.prog 118 [.op nb 4 0 0, .agg e.c, c7 env] h (EvQ h nb p sz st 0 (iY p sz (n + 1) st e env)) := by
 rw [aC.aU]
 have hb' := hb
 unfold dG at hb'
 have e3 : ((st : Int) = 3000) = False := eq_false (by omega)
 have ew : IntKind.i64.wrap ((st : Int) + 1) = ((st + 1 : Nat) : Int) := by rw [IntWalk.i64_in _ (by omega)]; rfl
 have hnode := (aC.dB _ _ _ _).1 hok
 have h3 : ¬ st = 3000 := by omega
 have hlen := dT hok (by omega)
 rw [hk, show dR 7 = 1 from rfl] at hlen
 have hkl : e.aN.length ≤ 1048576 := by omega
 refine j4 210 nU v8 v9 mix Tryz.func118 rfl (by kernel_rfl) (by simp) ?_
 simp -dsimp -implicitDefEqProofs only [go_sem, ↓reduceIte, Tryz.f118, hb', e3, ew, hk]
 refine aH.fG (xC hv (aR h nb (dG p sz (st + 1) 0)) nb (st + 1) 0 e.aN env funcs (aG _ _ _) (by omega) (by omega) hkl (eY hok (by omega)) fN hf henv (by omega)) ?_
 rintro r h' ⟨vs, t1, c1, rfl, rfl, hvl, hvs, a1, a2, a3⟩
 have uY := iV hvs (i := 0) (by omega)
 simp -dsimp -implicitDefEqProofs only [go_sem, ↓reduceIte, Tryz.f118, dG]
 refine ⟨fun hc => ?_, fun hc => ?_⟩
 ·have hc' : ¬ c1 = 0 := by simpa using hc
  refine aH.fG (lX _ nb _ _ _ 0 sz (aG _ _ _) hsz) ?_
  rintro r h' ⟨rfl, rfl⟩
  simp -dsimp -implicitDefEqProofs only [go_sem, ↓reduceIte, Tryz.f118]
  refine ⟨_, aR h nb (dG p sz t1 c1), cM (by rw [aK]; exact aB.le_refl _), _, t1, c1, rfl, rfl, eX jD, by omega, a2, ?_⟩
  rw [oU h3 (by omega)]
  exact a3.dP (by rw [iA _ hc']; exact eO _ _ hc')
 have hc' : c1 = 0 := by simpa using hc
 subst hc'
 have g0 : vs[Int.toNat 0]? = some (vs.getD 0 []) := iP (by omega)
 try simp -dsimp -implicitDefEqProofs only [go_sem, ↓reduceIte, Tryz.f118, hk, aK, g0]
 refine ⟨by omega, ?_⟩
 refine aH.mk (scaled (vs.getD 0 []) 1000002 (by unfold jA; omega) (by rw [uY.1]; omega) uY.2) ?_
 simp -dsimp -implicitDefEqProofs only [go_sem, ↓reduceIte, Tryz.f118]
 refine ⟨_, aR h nb (dG p sz t1 0), cM (by exact aB.le_refl _), _, t1, 0, rfl, rfl, fS _ uY, by omega, a2, ?_⟩
 rw [oU h3 (by omega)]
 refine a3.dP ?_
 rw [cU, hk]
 exact lB _ _
theorem a2N {p : aE} (hp : p.ok) {sz n : Nat} (hsz : 1 ≤ sz ∧ sz ≤ 1048576) (hv : nV p sz n) (h : aB) (nb st : Nat) (e : aC) (env : List (List Int)) (funcs : Int) (hb : h nb = some (dG p sz st 0)) (hst : st < 3000) (hn : 3001 ≤ n + 1 + st)
  (hok : e.ok p funcs env.length) (fN : 0 ≤ funcs) (hf : funcs ≤ p.aI.length) (henv : ∀ s ∈ env, bN sz s) (hel : env.length ≤ 412 + st) (hk : e.aP = 3) :
  iH Tryz.prog 118 [.op nb 4 0 0, .agg e.c, c7 env] h (EvQ h nb p sz st 0 (iY p sz (n + 1) st e env)) := by
 rw [aC.aU]
 have hb' := hb
 unfold dG at hb'
 have e3 : ((st : Int) = 3000) = False := eq_false (by omega)
 have ew : IntKind.i64.wrap ((st : Int) + 1) = ((st + 1 : Nat) : Int) := by rw [IntWalk.i64_in _ (by omega)]; rfl
 have hnode := (aC.dB _ _ _ _).1 hok
 have h3 : ¬ st = 3000 := by omega
 have hlen := dT hok (by omega)
 rw [hk, show dR 3 = 2 from rfl] at hlen
 have hkl : e.aN.length ≤ 1048576 := by omega
 refine j4 210 nU v8 v9 mix Tryz.func118 rfl (by kernel_rfl) (by simp) ?_
 simp -dsimp -implicitDefEqProofs only [go_sem, ↓reduceIte, Tryz.f118, hb', e3, ew, hk]
 refine aH.fG (xC hv (aR h nb (dG p sz (st + 1) 0)) nb (st + 1) 0 e.aN env funcs (aG _ _ _) (by omega) (by omega) hkl (eY hok (by omega)) fN hf henv (by omega)) ?_
 rintro r h' ⟨vs, t1, c1, rfl, rfl, hvl, hvs, a1, a2, a3⟩
 have uY := iV hvs (i := 0) (by omega)
 simp -dsimp -implicitDefEqProofs only [go_sem, ↓reduceIte, Tryz.f118, dG]
 refine ⟨fun hc => ?_, fun hc => ?_⟩
 ·have hc' : ¬ c1 = 0 := by simpa using hc
  refine aH.fG (lX _ nb _ _ _ 0 sz (aG _ _ _) hsz) ?_
  rintro r h' ⟨rfl, rfl⟩
  simp -dsimp -implicitDefEqProofs only [go_sem, ↓reduceIte, Tryz.f118]
  refine ⟨_, aR h nb (dG p sz t1 c1), cM (by rw [aK]; exact aB.le_refl _), _, t1, c1, rfl, rfl, eX jD, by omega, a2, ?_⟩
  rw [oU h3 (by omega)]
  exact a3.dP (by rw [iA _ hc']; exact eO _ _ hc')
 have hc' : c1 = 0 := by simpa using hc
 subst hc'
 have g0 : vs[Int.toNat 0]? = some (vs.getD 0 []) := iP (by omega)
 have g1 : vs[Int.toNat 1]? = some (vs.getD 1 []) := iP (by omega)
 have hv1 := iV hvs (i := 1) (by omega)
 try simp -dsimp -implicitDefEqProofs only [go_sem, ↓reduceIte, Tryz.f118, hk, aK, g0, g1]
 refine ⟨by omega, by omega, ?_⟩
 refine aH.mk (a9O (vs.getD 0 []) (vs.getD 1 []) (by rw [uY.1, hv1.1]) (by rw [uY.1]; omega) uY.2 hv1.2) ?_
 simp -dsimp -implicitDefEqProofs only [go_sem, ↓reduceIte, Tryz.f118]
 refine ⟨_, aR h nb (dG p sz t1 0), cM (by exact aB.le_refl _), _, t1, 0, rfl, rfl, q0 uY hv1, by omega, a2, ?_⟩
 rw [oU h3 (by omega)]
 refine a3.dP ?_
 rw [cU, hk]
 exact lB _ _
theorem a2O {p : aE} (hp : p.ok) {sz n : Nat} (hsz : 1 ≤ sz ∧ sz ≤ 1048576) (hv : nV p sz n) (h : aB) (nb st : Nat) (e : aC) (env : List (List Int)) (funcs : Int) (hb : h nb = some (dG p sz st 0)) (hst : st < 3000) (hn : 3001 ≤ n + 1 + st)
  (hok : e.ok p funcs env.length) (fN : 0 ≤ funcs) (hf : funcs ≤ p.aI.length) (henv : ∀ s ∈ env, bN sz s) (hel : env.length ≤ 412 + st) (hk : e.aP = 4) :
  iH Tryz.prog 118 [.op nb 4 0 0, .agg e.c, c7 env] h (EvQ h nb p sz st 0 (iY p sz (n + 1) st e env)) := by
 rw [aC.aU]
 have hb' := hb
 unfold dG at hb'
 have e3 : ((st : Int) = 3000) = False := eq_false (by omega)
 have ew : IntKind.i64.wrap ((st : Int) + 1) = ((st + 1 : Nat) : Int) := by rw [IntWalk.i64_in _ (by omega)]; rfl
 have hnode := (aC.dB _ _ _ _).1 hok
 have h3 : ¬ st = 3000 := by omega
 have hlen := dT hok (by omega)
 rw [hk, show dR 4 = 2 from rfl] at hlen
 have hkl : e.aN.length ≤ 1048576 := by omega
 refine j4 210 nU v8 v9 mix Tryz.func118 rfl (by kernel_rfl) (by simp) ?_
 simp -dsimp -implicitDefEqProofs only [go_sem, ↓reduceIte, Tryz.f118, hb', e3, ew, hk]
 refine aH.fG (xC hv (aR h nb (dG p sz (st + 1) 0)) nb (st + 1) 0 e.aN env funcs (aG _ _ _) (by omega) (by omega) hkl (eY hok (by omega)) fN hf henv (by omega)) ?_
 rintro r h' ⟨vs, t1, c1, rfl, rfl, hvl, hvs, a1, a2, a3⟩
 have uY := iV hvs (i := 0) (by omega)
 simp -dsimp -implicitDefEqProofs only [go_sem, ↓reduceIte, Tryz.f118, dG]
 refine ⟨fun hc => ?_, fun hc => ?_⟩
 ·have hc' : ¬ c1 = 0 := by simpa using hc
  refine aH.fG (lX _ nb _ _ _ 0 sz (aG _ _ _) hsz) ?_
  rintro r h' ⟨rfl, rfl⟩
  simp -dsimp -implicitDefEqProofs only [go_sem, ↓reduceIte, Tryz.f118]
  refine ⟨_, aR h nb (dG p sz t1 c1), cM (by rw [aK]; exact aB.le_refl _), _, t1, c1, rfl, rfl, eX jD, by omega, a2, ?_⟩
  rw [oU h3 (by omega)]
  exact a3.dP (by rw [iA _ hc']; exact eO _ _ hc')
 have hc' : c1 = 0 := by simpa using hc
 subst hc'
 have g0 : vs[Int.toNat 0]? = some (vs.getD 0 []) := iP (by omega)
 have g1 : vs[Int.toNat 1]? = some (vs.getD 1 []) := iP (by omega)
 have hv1 := iV hvs (i := 1) (by omega)
 try simp -dsimp -implicitDefEqProofs only [go_sem, ↓reduceIte, Tryz.f118, hk, aK, g0, g1]
 refine ⟨by omega, by omega, ?_⟩
 refine aH.mk (reduced (vs.getD 0 []) (vs.getD 1 []) (by rw [uY.1, hv1.1]) (by rw [uY.1]; omega) uY.2 hv1.2) ?_
 simp -dsimp -implicitDefEqProofs only [go_sem, ↓reduceIte, Tryz.f118]
 refine ⟨_, aR h nb (dG p sz t1 0), cM (by exact aB.le_refl _), _, t1, 0, rfl, rfl, zM uY hv1, by omega, a2, ?_⟩
 rw [oU h3 (by omega)]
 refine a3.dP ?_
 rw [cU, hk]
 exact lB _ _
theorem a2P {p : aE} (hp : p.ok) {sz n : Nat} (hsz : 1 ≤ sz ∧ sz ≤ 1048576) (hv : nV p sz n) (h : aB) (nb st : Nat) (e : aC) (env : List (List Int)) (funcs : Int) (hb : h nb = some (dG p sz st 0)) (hst : st < 3000) (hn : 3001 ≤ n + 1 + st)
  (hok : e.ok p funcs env.length) (fN : 0 ≤ funcs) (hf : funcs ≤ p.aI.length) (henv : ∀ s ∈ env, bN sz s) (hel : env.length ≤ 412 + st) (hk : e.aP = 5) :
  iH Tryz.prog 118 [.op nb 4 0 0, .agg e.c, c7 env] h (EvQ h nb p sz st 0 (iY p sz (n + 1) st e env)) := by
 rw [aC.aU]
 have hb' := hb
 unfold dG at hb'
 have e3 : ((st : Int) = 3000) = False := eq_false (by omega)
 have ew : IntKind.i64.wrap ((st : Int) + 1) = ((st + 1 : Nat) : Int) := by rw [IntWalk.i64_in _ (by omega)]; rfl
 have hnode := (aC.dB _ _ _ _).1 hok
 have h3 : ¬ st = 3000 := by omega
 have hlen := dT hok (by omega)
 rw [hk, show dR 5 = 2 from rfl] at hlen
 have hkl : e.aN.length ≤ 1048576 := by omega
 refine j4 210 nU v8 v9 mix Tryz.func118 rfl (by kernel_rfl) (by simp) ?_
 simp -dsimp -implicitDefEqProofs only [go_sem, ↓reduceIte, Tryz.f118, hb', e3, ew, hk]
 refine aH.fG (xC hv (aR h nb (dG p sz (st + 1) 0)) nb (st + 1) 0 e.aN env funcs (aG _ _ _) (by omega) (by omega) hkl (eY hok (by omega)) fN hf henv (by omega)) ?_
 rintro r h' ⟨vs, t1, c1, rfl, rfl, hvl, hvs, a1, a2, a3⟩
 have uY := iV hvs (i := 0) (by omega)
 simp -dsimp -implicitDefEqProofs only [go_sem, ↓reduceIte, Tryz.f118, dG]
 refine ⟨fun hc => ?_, fun hc => ?_⟩
 ·have hc' : ¬ c1 = 0 := by simpa using hc
  refine aH.fG (lX _ nb _ _ _ 0 sz (aG _ _ _) hsz) ?_
  rintro r h' ⟨rfl, rfl⟩
  simp -dsimp -implicitDefEqProofs only [go_sem, ↓reduceIte, Tryz.f118]
  refine ⟨_, aR h nb (dG p sz t1 c1), cM (by rw [aK]; exact aB.le_refl _), _, t1, c1, rfl, rfl, eX jD, by omega, a2, ?_⟩
  rw [oU h3 (by omega)]
  exact a3.dP (by rw [iA _ hc']; exact eO _ _ hc')
 have hc' : c1 = 0 := by simpa using hc
 subst hc'
 have g0 : vs[Int.toNat 0]? = some (vs.getD 0 []) := iP (by omega)
 have g1 : vs[Int.toNat 1]? = some (vs.getD 1 []) := iP (by omega)
 have hv1 := iV hvs (i := 1) (by omega)
 try simp -dsimp -implicitDefEqProofs only [go_sem, ↓reduceIte, Tryz.f118, hk, aK, g0, g1]
 refine ⟨by omega, by omega, ?_⟩
 refine aH.mk (product (vs.getD 0 []) (vs.getD 1 []) (by rw [uY.1, hv1.1]) (by rw [uY.1]; omega) uY.2 hv1.2) ?_
 simp -dsimp -implicitDefEqProofs only [go_sem, ↓reduceIte, Tryz.f118]
 refine ⟨_, aR h nb (dG p sz t1 0), cM (by exact aB.le_refl _), _, t1, 0, rfl, rfl, hH _ uY, by omega, a2, ?_⟩
 rw [oU h3 (by omega)]
 refine a3.dP ?_
 rw [cU, hk]
 exact lB _ _
theorem a2Q {p : aE} (hp : p.ok) {sz n : Nat} (hsz : 1 ≤ sz ∧ sz ≤ 1048576) (hv : nV p sz n) (h : aB) (nb st : Nat) (e : aC) (env : List (List Int)) (funcs : Int) (hb : h nb = some (dG p sz st 0)) (hst : st < 3000) (hn : 3001 ≤ n + 1 + st)
  (hok : e.ok p funcs env.length) (fN : 0 ≤ funcs) (hf : funcs ≤ p.aI.length) (henv : ∀ s ∈ env, bN sz s) (hel : env.length ≤ 412 + st) (hk : e.aP = 6) :
  iH Tryz.prog 118 [.op nb 4 0 0, .agg e.c, c7 env] h (EvQ h nb p sz st 0 (iY p sz (n + 1) st e env)) := by
 rw [aC.aU]
 have hb' := hb
 unfold dG at hb'
 have e3 : ((st : Int) = 3000) = False := eq_false (by omega)
 have ew : IntKind.i64.wrap ((st : Int) + 1) = ((st + 1 : Nat) : Int) := by rw [IntWalk.i64_in _ (by omega)]; rfl
 have hnode := (aC.dB _ _ _ _).1 hok
 have h3 : ¬ st = 3000 := by omega
 have hlen := dT hok (by omega)
 rw [hk, show dR 6 = 2 from rfl] at hlen
 have hkl : e.aN.length ≤ 1048576 := by omega
 refine j4 210 nU v8 v9 mix Tryz.func118 rfl (by kernel_rfl) (by simp) ?_
 simp -dsimp -implicitDefEqProofs only [go_sem, ↓reduceIte, Tryz.f118, hb', e3, ew, hk]
 refine aH.fG (xC hv (aR h nb (dG p sz (st + 1) 0)) nb (st + 1) 0 e.aN env funcs (aG _ _ _) (by omega) (by omega) hkl (eY hok (by omega)) fN hf henv (by omega)) ?_
 rintro r h' ⟨vs, t1, c1, rfl, rfl, hvl, hvs, a1, a2, a3⟩
 have uY := iV hvs (i := 0) (by omega)
 simp -dsimp -implicitDefEqProofs only [go_sem, ↓reduceIte, Tryz.f118, dG]
 refine ⟨fun hc => ?_, fun hc => ?_⟩
 ·have hc' : ¬ c1 = 0 := by simpa using hc
  refine aH.fG (lX _ nb _ _ _ 0 sz (aG _ _ _) hsz) ?_
  rintro r h' ⟨rfl, rfl⟩
  simp -dsimp -implicitDefEqProofs only [go_sem, ↓reduceIte, Tryz.f118]
  refine ⟨_, aR h nb (dG p sz t1 c1), cM (by rw [aK]; exact aB.le_refl _), _, t1, c1, rfl, rfl, eX jD, by omega, a2, ?_⟩
  rw [oU h3 (by omega)]
  exact a3.dP (by rw [iA _ hc']; exact eO _ _ hc')
 have hc' : c1 = 0 := by simpa using hc
 subst hc'
 have g0 : vs[Int.toNat 0]? = some (vs.getD 0 []) := iP (by omega)
 have g1 : vs[Int.toNat 1]? = some (vs.getD 1 []) := iP (by omega)
 have hv1 := iV hvs (i := 1) (by omega)
 have gs : (vs.getD 1 [])[Int.toNat 0]? = some ((vs.getD 1 []).getD 0 0) := dS (by rw [hv1.1]; omega)
 try simp -dsimp -implicitDefEqProofs only [go_sem, ↓reduceIte, Tryz.f118, hk, aK, g0, g1, gs]
 refine ⟨by omega, by rw [hv1.1]; omega, fun hz => ?_, fun hz => ?_⟩
 ·refine aH.fG (lX _ nb _ _ _ 0 sz (aG _ _ _) hsz) ?_
  rintro r h' ⟨rfl, rfl⟩
  simp -dsimp -implicitDefEqProofs only [go_sem, ↓reduceIte, Tryz.f118]
  refine ⟨_, aR h nb (dG p sz t1 6), cM (by exact aB.le_refl _), _, t1, 6, rfl, rfl, eX jD, by omega, a2, ?_⟩
  rw [oU h3 (by omega)]
  refine a3.dP ?_
  rw [cU, hk]
  have : opE 6 vs t1 = .error 6 := by rw [opE, if_neg (by decide), if_neg (by decide), if_neg (by decide), if_neg (by decide), if_pos hz]
  rw [this]
  exact eO _ _ (by decide)
 ·try simp -dsimp -implicitDefEqProofs only [go_sem, ↓reduceIte, Tryz.f118, hk, aK, g0, g1, gs]
  refine ⟨by omega, by omega, ?_⟩
  refine aH.mk (quotient (vs.getD 0 []) (vs.getD 1 []) (by rw [uY.1, hv1.1]) (by rw [uY.1]; omega) (by rw [uY.1]; omega) uY.2 hv1.2) ?_
  simp -dsimp -implicitDefEqProofs only [go_sem, ↓reduceIte, Tryz.f118]
  refine ⟨_, aR h nb (dG p sz t1 0), cM (by exact aB.le_refl _), _, t1, 0, rfl, rfl, pR _ uY, by omega, a2, ?_⟩
  rw [oU h3 (by omega)]
  refine a3.dP ?_
  rw [cU, hk]
  have : opE 6 vs t1 = .ok (lA (vs.getD 0 []) (vs.getD 1 []), t1) := by rw [opE, if_neg (by decide), if_neg (by decide), if_neg (by decide), if_neg (by decide), if_neg hz]
  rw [this]
  exact lB _ _
theorem aYI {p : aE} (hp : p.ok) {sz n : Nat} (hsz : 1 ≤ sz ∧ sz ≤ 1048576) (hv : nV p sz n) (h : aB) (nb st : Nat) (e : aC) (env : List (List Int)) (funcs : Int) (hb : h nb = some (dG p sz st 0)) (hst : st < 3000) (hn : 3001 ≤ n + 1 + st)
  (hok : e.ok p funcs env.length) (fN : 0 ≤ funcs) (hf : funcs ≤ p.aI.length) (henv : ∀ s ∈ env, bN sz s) (hel : env.length ≤ 412 + st) (hk : e.aP = 11) :
  iH Tryz.prog 118 [.op nb 4 0 0, .agg e.c, c7 env] h (EvQ h nb p sz st 0 (iY p sz (n + 1) st e env)) := by
 rw [aC.aU]
 have hb' := hb
 unfold dG at hb'
 have e3 : ((st : Int) = 3000) = False := eq_false (by omega)
 have ew : IntKind.i64.wrap ((st : Int) + 1) = ((st + 1 : Nat) : Int) := by rw [IntWalk.i64_in _ (by omega)]; rfl
 have hnode := (aC.dB _ _ _ _).1 hok
 have h3 : ¬ st = 3000 := by omega
 obtain ⟨f, F⟩ := m6 hp hok hf (.inr hk)
 have hkl : e.aN.length ≤ 1048576 := by have := F.kids; have := F.params; omega
 have f1 := F.lo
 have f2 := F.hi
 have f3 := F.pk
 have f4 := F.pk2
 have f5 := F.kids
 have f6 := F.params
 have f7 := F.loop hk
 have f8 := F.outs
 refine j4 210 nU v8 v9 mix Tryz.func118 rfl (by kernel_rfl) (by simp) ?_
 simp -dsimp -implicitDefEqProofs only [go_sem, ↓reduceIte, Tryz.f118, hb', e3, ew, hk]
 refine aH.fG (xC hv (aR h nb (dG p sz (st + 1) 0)) nb (st + 1) 0 e.aN env funcs (aG _ _ _) (by omega) (by omega) hkl (eY hok (by omega)) fN hf henv (by omega)) ?_
 rintro r h' ⟨vs, t1, c1, rfl, rfl, hvl, hvs, a1, a2, a3⟩
 simp -dsimp -implicitDefEqProofs only [go_sem, ↓reduceIte, Tryz.f118, dG]
 refine ⟨fun hc => ?_, fun hc => ?_⟩
 ·have hc' : ¬ c1 = 0 := by simpa using hc
  refine aH.fG (lX _ nb _ _ _ 0 sz (aG _ _ _) hsz) ?_
  rintro r h' ⟨rfl, rfl⟩
  simp -dsimp -implicitDefEqProofs only [go_sem, ↓reduceIte, Tryz.f118]
  refine ⟨_, aR h nb (dG p sz t1 c1), cM (by rw [aK]; exact aB.le_refl _), _, t1, c1, rfl, rfl, eX jD, by omega, a2, ?_⟩
  rw [aD2 h3 hk]
  exact a3.dP (by rw [iA _ hc']; exact eO _ _ hc')
 have hc' : c1 = 0 := by simpa using hc
 subst hc'
 try simp -dsimp -implicitDefEqProofs only [go_sem, ↓reduceIte, Tryz.f118, hk, aK]
 have hiter : ∀ (k : Nat) (us : List (List Int)) (t : Nat) (c : Int), jF (pQ (fun vs t => lS (fun t e => iY p sz n t e vs) (p.outs e.bC) t) k vs t1) us t c → k ≤ e.cD.toNat → (¬ c = 0 ∨ k = e.cD.toNat) → jF (oT 0 (iY p sz (n + 1) st e env)) (us.getD e.cR.toNat []) t c := fun k us t c ho hk1 hor => by
  rw [aD2 h3 hk]
  refine a3.dP ?_
  rw [cU]
  refine jF.then (v := us) (t := t) (c := c) ?_ (gO _ _ _)
  rcases hor with hc | rfl
  ·have := ho.err hc
   rw [aJK _ k hk1 this]
   exact eO _ _ hc
  ·exact ho
 refine cS (keep := nU) (ib := v8) (mk := v9) mix (by kernel_rfl) (fun x : Nat × List (List Int) × Nat × Int => [(0, .op nb 4 0 0), (4, .ip 5 [[I 11, I e.bC, I e.cR, I e.cD, eZ 5 aC.c e.aN]] 0 0), (7, c7 x.2.1), (8, I x.1)]) (fun x => aR h nb (dG p sz x.2.2.1 x.2.2.2)) (fun x => x.1 ≤ e.cD.toNat ∧ x.2.1.length = f.aQ.length ∧ (∀ s ∈ x.2.1, bN sz s) ∧ t1 ≤ x.2.2.1 ∧ x.2.2.1 ≤ 3000 ∧ jF (pQ (fun vs t => lS (fun t e => iY p sz n t e vs) (p.outs e.bC) t) x.1 vs t1) x.2.1 x.2.2.1 x.2.2.2) (fun x => e.cD.toNat - x.1) (0, vs, t1, 0) ⟨by simp [cV, bZ], aB.le_refl _, Nat.zero_le _, by simp only; omega, hvs, Nat.le_refl _, a2, lB _ _⟩ ?_
 rintro ⟨k, us, t, c⟩ ⟨hk1, hul, hus, ht0, ht, ho⟩
 simp only at hk1 hul hus ht0 ht ho ⊢
 have gp : us[e.cR.toNat]? = some (us.getD e.cR.toNat []) := iP (by omega)
 simp -dsimp -implicitDefEqProofs only [go_sem, ↓reduceIte, Tryz.f118, dG, F.get, aT.aU, gp]
 refine ⟨fun hlt => ⟨fun hc => ⟨f1, f2, ?_⟩, fun hc => ?_⟩, fun hge => ?_⟩
 ·subst hc
  refine aH.fG (xC hv (aR h nb (dG p sz t 0)) nb t 0 f.aQ us e.bC (aG _ _ _) ht (by omega) (by omega) (by rw [hul, f7.2.2]; exact F.oks) f1 (by omega) hus (by omega)) ?_
  rintro r h' ⟨l2, t2, c2, rfl, rfl, hl2, rC, b1, b2, b3⟩
  simp -dsimp -implicitDefEqProofs only [go_sem, ↓reduceIte, Tryz.f118]
  refine ⟨(k + 1, l2, t2, c2), ⟨rfl, by rw [IntWalk.i64_in _ (by omega)]; rfl⟩, by simp only [aK]; exact aB.le_refl _, ⟨by omega, hl2, rC, by simp only; omega, b2, ?_⟩, by simp only; omega⟩
  simp only
  rw [xA]
  refine ho.then ?_
  rw [F.eq]
  exact b3
 ·exact ⟨f3, by omega, _, _, bI _ _, us.getD e.cR.toNat [], t, c, rfl, rfl, iV hus (by omega), by omega, ht, hiter k us t c ho hk1 (.inl hc)⟩
 ·exact ⟨f3, by omega, _, _, bI _ _, us.getD e.cR.toNat [], t, c, rfl, rfl, iV hus (by omega), by omega, ht, hiter k us t c ho hk1 (.inr (by omega))⟩
open Go.Proofs
set_option linter.unusedVariables false
set_option linter.unusedSimpArgs false
theorem value {p : aE} (hp : p.ok) {sz : Nat} (hsz : 1 ≤ sz ∧ sz ≤ 1048576) : ∀ n, nV p sz n
 |0 => fun h nb st c e env funcs hb hst hn => by omega
 |n + 1 => fun h nb st c e env funcs hb hst hn hok fN hf henv hel => by
  have hv := value hp hsz n
  by_cases hs : ¬ c = 0 ∨ st = 3000
  ·exact aQ4 hsz h nb st c e env hb hst hs
  have hc : c = 0 := Classical.byContradiction fun q => hs (.inl q)
  have h3 : st < 3000 := by
   rcases Nat.lt_or_ge st 3000 with h | h
   ·exact h
   ·exact absurd (.inr (by omega)) hs
  subst hc
  rcases rA ((aC.dB _ _ _ _).1 hok).1 with hk | hk | hk | hk | hk | hk | hk | hk | hk | hk | hk
  ·exact a2I hp hsz hv h nb st e env funcs hb h3 hn hok fN hf henv hel hk
  ·exact a2J hp hsz hv h nb st e env funcs hb h3 hn hok fN hf henv hel hk
  ·exact a2N hp hsz hv h nb st e env funcs hb h3 hn hok fN hf henv hel hk
  ·exact a2O hp hsz hv h nb st e env funcs hb h3 hn hok fN hf henv hel hk
  ·exact a2P hp hsz hv h nb st e env funcs hb h3 hn hok fN hf henv hel hk
  ·exact a2Q hp hsz hv h nb st e env funcs hb h3 hn hok fN hf henv hel hk
  ·exact a2M hp hsz hv h nb st e env funcs hb h3 hn hok fN hf henv hel hk
  ·exact a2K hp hsz hv h nb st e env funcs hb h3 hn hok fN hf henv hel hk
  ·exact a2L hp hsz hv h nb st e env funcs hb h3 hn hok fN hf henv hel hk
  ·exact aYH hp hsz hv h nb st e env funcs hb h3 hn hok fN hf henv hel hk
  ·exact aYI hp hsz hv h nb st e env funcs hb h3 hn hok fN hf henv hel hk
set_option maxRecDepth 100000
open Go.Proofs
set_option linter.unusedVariables false
set_option linter.unusedSimpArgs false
@[go_sem] def a2S : List Nat := [0, 1, 4]
@[go_sem] def bG3 : List Nat := []
@[go_sem] def bG4 : Marks := fun _ => ([], .nil, [])
theorem cI (a b : Int) (ha : jA a) (hb : jA b) : fL Tryz.prog 158 [I a, I b] (I (a * b % 1000003)) := by
 refine fT 11 a2S bG3 bG4 mix Tryz.func158 rfl (by kernel_rfl) (by simp) fun h => ?_
 simp -dsimp -implicitDefEqProofs only [go_sem, ↓reduceIte, Tryz.f158]
 first | refine aH.mk (dF a) ?_ | refine aF.mk (dF a) ?_ | refine aH.bS (dF a) ?_ | refine aF.mk (bM.eQ (dF a)) ?_
 simp -dsimp -implicitDefEqProofs only [go_sem, ↓reduceIte, Tryz.f158]
 first | refine aH.mk (dF b) ?_ | refine aF.mk (dF b) ?_ | refine aH.bS (dF b) ?_ | refine aF.mk (bM.eQ (dF b)) ?_
 simp -dsimp -implicitDefEqProofs only [go_sem, ↓reduceIte, Tryz.f158]
 have h1 := num_mul ha hb
 have h2 := ha
 have h3 := hb
 unfold jA at h2 h3
 rw [Int.emod_eq_of_lt h2.1 (by omega), Int.emod_eq_of_lt h3.1 (by omega), aQ2 h1.1 (by omega)]
@[go_sem] def aS8 : List Nat := [0, 1, 4, 5, 6, 8, 12, 15]
@[go_sem] def a6P : List Nat := []
@[go_sem] def a6Q : Marks := fun _ => ([], .nil, [])
theorem zP (a n : Int) (hn : 0 ≤ n) (hn2 : n ≤ 4294967296) : fL Tryz.prog 162 [I a, I n] (I (pwN (a % 1000003) n.toNat)) := by
 refine fT 25 aS8 a6P a6Q mix Tryz.func162 rfl (by kernel_rfl) (by simp) fun h => ?_
 simp -dsimp -implicitDefEqProofs only [go_sem, ↓reduceIte, Tryz.f162]
 refine ⟨fun q => absurd q (by omega), fun _ => ?_⟩
 first | refine aH.mk (dF a) ?_ | refine aF.mk (dF a) ?_ | refine aH.bS (dF a) ?_ | refine aF.mk (bM.eQ (dF a)) ?_
 simp -dsimp -implicitDefEqProofs only [go_sem, ↓reduceIte, Tryz.f162]
 generalize hT : pwN (a % 1000003) n.toNat = T
 refine oY (keep := aS8) (ib := a6P) (mk := a6Q) mix (by kernel_rfl) (fun x : Int × Int × Int => [(1, I x.2.2), (5, I x.1), (6, I x.2.1)]) (fun x => (0 ≤ x.1 ∧ x.1 < 1000003) ∧ (0 ≤ x.2.1 ∧ x.2.1 < 1000003) ∧ (0 ≤ x.2.2 ∧ x.2.2 ≤ 4294967296) ∧ x.1 * x.2.1 ^ x.2.2.toNat % 1000003 = T) (fun x => x.2.2.toNat) (1, a % 1000003, n) ⟨by simp [cV, bZ], ⟨by simp, by simp⟩, aOX _, ⟨hn, hn2⟩, by rw [Int.one_mul]; exact hT⟩ ?_
 rintro ⟨x, b, m⟩ ⟨hx, hb, hm, hp⟩
 simp only at hx hb hm hp ⊢
 have nx : jA x := by unfold jA; omega
 have nb : jA b := by unfold jA; omega
 simp -dsimp -implicitDefEqProofs only [go_sem, ↓reduceIte, Tryz.f162]
 rw [Int.tmod_eq_emod_of_nonneg hm.1]
 refine ⟨fun hg => ⟨fun ho => ?_, fun ho => ?_⟩, fun hg => ?_⟩
 ·first | refine aH.mk (cI x b nx nb) ?_ | refine aF.mk (cI x b nx nb) ?_ | refine aH.bS (cI x b nx nb) ?_ | refine aF.mk (bM.eQ (cI x b nx nb)) ?_
  simp -dsimp -implicitDefEqProofs only [go_sem, ↓reduceIte, Tryz.f162]
  first | refine aH.mk (cI b b nb nb) ?_ | refine aF.mk (cI b b nb nb) ?_ | refine aH.bS (cI b b nb nb) ?_ | refine aF.mk (bM.eQ (cI b b nb nb)) ?_
  simp -dsimp -implicitDefEqProofs only [go_sem, ↓reduceIte, Tryz.f162]
  rw [Int.tdiv_eq_ediv_of_nonneg hm.1, IntWalk.i64_in (m / 2) (by omega)]
  exact ⟨(x * b % 1000003, b * b % 1000003, m / 2), ⟨rfl, rfl, rfl⟩, ⟨aOX _, aOX _, (show 0 ≤ m / 2 ∧ m / 2 ≤ 4294967296 by omega), aX5 hm.1 ho hp⟩, by simp only; omega⟩
 ·first | refine aH.mk (cI b b nb nb) ?_ | refine aF.mk (cI b b nb nb) ?_ | refine aH.bS (cI b b nb nb) ?_ | refine aF.mk (bM.eQ (cI b b nb nb)) ?_
  simp -dsimp -implicitDefEqProofs only [go_sem, ↓reduceIte, Tryz.f162]
  rw [Int.tdiv_eq_ediv_of_nonneg hm.1, IntWalk.i64_in (m / 2) (by omega)]
  exact ⟨(x, b * b % 1000003, m / 2), ⟨rfl, rfl, rfl⟩, ⟨hx, aOX _, (show 0 ≤ m / 2 ∧ m / 2 ≤ 4294967296 by omega), aS0 hm.1 ho hp⟩, by simp only; omega⟩
 ·have : m.toNat = 0 := by omega
  rw [this, aSZ x b hx] at hp
  exact hp
@[go_sem] def a2T : List Nat := [0, 2]
@[go_sem] def bG5 : List Nat := []
@[go_sem] def bG6 : Marks := fun _ => ([], .nil, [])
theorem aLJ (a : Int) : fL Tryz.prog 159 [I a] (I (o5 a)) := by
 refine fT 5 a2T bG5 bG6 mix Tryz.func159 rfl (by kernel_rfl) (by simp) fun h => ?_
 simp -dsimp -implicitDefEqProofs only [go_sem, ↓reduceIte, Tryz.f159]
 first | refine aH.mk (zP a 1000001 (by decide) (by decide)) ?_ | refine aF.mk (zP a 1000001 (by decide) (by decide)) ?_ | refine aH.bS (zP a 1000001 (by decide) (by decide)) ?_ | refine aF.mk (bM.eQ (zP a 1000001 (by decide) (by decide))) ?_
 simp -dsimp -implicitDefEqProofs only [go_sem, ↓reduceIte, Tryz.f159]
 rfl
@[go_sem] def a2U : List Nat := [0, 1, 4]
@[go_sem] def bG7 : List Nat := []
@[go_sem] def bG8 : Marks := fun _ => ([], .nil, [])
theorem aCH (a b : Int) (ha : jA a) (hb : jA b) : fL Tryz.prog 160 [I a, I b] (I ((a - b) % 1000003)) := by
 unfold jA at ha hb
 refine fT 9 a2U bG7 bG8 mix Tryz.func160 rfl (by kernel_rfl) (by simp) fun h => ?_
 simp -dsimp -implicitDefEqProofs only [go_sem, ↓reduceIte, Tryz.f160]
 rw [IntWalk.i64_in _ (by omega)]
 first | refine aH.mk (dF (a - b)) ?_ | refine aF.mk (dF (a - b)) ?_ | refine aH.bS (dF (a - b)) ?_ | refine aF.mk (bM.eQ (dF (a - b))) ?_
 simp -dsimp -implicitDefEqProofs only [go_sem, ↓reduceIte, Tryz.f160]
@[go_sem] def aLK : List Nat := [0, 1, 4, 5, 9]
@[go_sem] def aYJ : List Nat := []
@[go_sem] def aYK : Marks := fun _ => ([], .nil, [])
theorem mM (n : Int) (sz : Nat) (hs : sz ≤ 1048576) : fL Tryz.prog 135 [I n, I sz] (ints (lP n sz)) := by
 rcases Nat.eq_zero_or_pos sz with rfl | hp
 ·refine rP 14 aLK aYJ aYK mix Tryz.func135 rfl (by kernel_rfl) (by simp) fun h => ?_
  simp -dsimp -implicitDefEqProofs only [go_sem, ↓reduceIte, Tryz.f135]
  refine ⟨Nat.zero_lt_one, by omega, by omega, fun m hm => ⟨fun q => absurd q (by omega), fun _ => ?_⟩⟩
  exact fH [] hm (aB.le_refl _) rfl
 ·have e2 := aLG (x := [aD.int .i64 0]) hp
  refine rP 14 aLK aYJ aYK mix Tryz.func135 rfl (by kernel_rfl) (by simp) fun h => ?_
  simp -dsimp -implicitDefEqProofs only [go_sem, ↓reduceIte, Tryz.f135, Int.toNat_natCast, e2]
  refine ⟨Nat.zero_lt_one, Nat.le_refl _, by omega, by omega, fun m hm => ⟨fun _ => ⟨by omega, ?_⟩, fun q => absurd q (by omega)⟩⟩
  rw [aK, show Int.toNat 0 = 0 from rfl, aHO]
  exact fH _ hm (aB.le_refl _) (aA2 n sz).symm
@[go_sem] def aS9 : List Nat := [0, 1, 4, 5, 6, 11]
@[go_sem] def a6R : List Nat := [7, 21]
@[go_sem] def a6S : Marks := fun _ => ([], .nil, [])
theorem rT (a : List Int) (m : Int) (hm : jA m) (hl : a.length ≤ 1048576) (ha : eD a) : fL Tryz.prog 136 [ints a, I m] (ints (lY a m)) := by
 have hc := tK a m
 refine rP 24 aS9 a6R a6S mix Tryz.func136 rfl (by kernel_rfl) (by simp) fun h => ?_
 simp -dsimp -implicitDefEqProofs only [go_sem, ↓reduceIte, Tryz.f136]
 refine ⟨Nat.zero_lt_one, ?_⟩
 refine cS (keep := aS9) (ib := a6R) (mk := a6S) mix (by kernel_rfl) (fun x : Nat × Option Nat => [(0, ints a), (1, I m), (5, jC 1 ((lY a m).take x.1).length x.2), (6, I x.1)]) (fun x => cK h (.row 1 ((((lY a m).take x.1).map fun n => [I n]).map (List.map .v))) x.2) (fun x => x.1 ≤ a.length ∧ fK h ((lY a m).take x.1) x.2) (fun x => a.length - x.1) (0, none) ⟨by simp [cV, bZ, jC], by simp only [aO]; exact aB.le_refl _, Nat.zero_le _, by simp [fK]⟩ ?_
 rintro ⟨k, o⟩ ⟨hk, hos⟩
 simp only at hk hos ⊢
 rcases Nat.lt_or_ge k a.length with hlt | hge
 ·have ea : a[k]? = some a[k] := List.getElem?_eq_getElem hlt
  have hy : (lY a m).take (k + 1) = (lY a m).take k ++ [(lY a m)[k]'(by omega)] := List.take_succ_eq_append_getElem (by omega)
  have hv : (lY a m)[k]'(by omega) = a[k] * m % 1000003 := by simp [lY]
  have hlk : ((lY a m).take k).length = k := by rw [List.length_take]; omega
  rw [hv] at hy
  cases o with
  |none =>
   rw [bD] at hos
   rw [hos] at hy ⊢
   simp -dsimp -implicitDefEqProofs only [go_sem, ↓reduceIte, Tryz.f136, bO, aO, hlt, ea]
   intro _
   first | refine aH.mk (cI a[k] m (ha _ (List.getElem_mem hlt)) hm) ?_ | refine aF.mk (cI a[k] m (ha _ (List.getElem_mem hlt)) hm) ?_ | refine aH.bS (cI a[k] m (ha _ (List.getElem_mem hlt)) hm) ?_ | refine aF.mk (bM.eQ (cI a[k] m (ha _ (List.getElem_mem hlt)) hm)) ?_
   simp -dsimp -implicitDefEqProofs only [go_sem, ↓reduceIte, Tryz.f136]
   repeat' (with_reducible first | intro _ | refine And.intro ?_ ?_)
   all_goals try (first | omega | decide)
   rename_i b hb
   refine ⟨(k + 1, some b), ?_⟩
   simp only [hy]
   refine ⟨⟨rfl, ?_⟩, aB.le_refl _, ⟨by omega, hb⟩, by omega⟩
   rw [IntWalk.i64_in _ (by omega)]; rfl
  |some n =>
   rw [aV] at hos
   simp -dsimp -implicitDefEqProofs only [go_sem, ↓reduceIte, Tryz.f136, aX, aJ, hlt, ea]
   intro _
   first | refine aH.mk (cI a[k] m (ha _ (List.getElem_mem hlt)) hm) ?_ | refine aF.mk (cI a[k] m (ha _ (List.getElem_mem hlt)) hm) ?_ | refine aH.bS (cI a[k] m (ha _ (List.getElem_mem hlt)) hm) ?_ | refine aF.mk (bM.eQ (cI a[k] m (ha _ (List.getElem_mem hlt)) hm)) ?_
   simp -dsimp -implicitDefEqProofs only [go_sem, ↓reduceIte, Tryz.f136]
   repeat' (with_reducible first | intro _ | refine And.intro ?_ ?_)
   all_goals try (first | omega | decide | exact Nat.le_refl _)
   rename_i b hb
   refine ⟨(k + 1, some b), ?_⟩
   simp only [hy, aJ, aX, aV]
   refine ⟨⟨by rw [List.length_append]; rfl, ?_⟩, ?_, ⟨by omega, hb.2⟩, by omega⟩
   ·rw [IntWalk.i64_in _ (by omega)]; rfl
   ·rw [← fI]; exact kU hos
 ·have hk' : k = a.length := by omega
  subst hk'
  rw [List.take_of_length_le (by omega)] at hos ⊢
  cases o with
  |none =>
   rw [bD] at hos
   simp -dsimp -implicitDefEqProofs only [go_sem, ↓reduceIte, Tryz.f136, bO, aO, Nat.lt_irrefl, Int.lt_irrefl]
   intro _
   rw [hos]
   exact Shift.of (Sub.loose _ _ _) (aB.le_refl _)
  |some n =>
   rw [aV] at hos
   simp -dsimp -implicitDefEqProofs only [go_sem, ↓reduceIte, Tryz.f136, aX, aJ, Nat.lt_irrefl, Int.lt_irrefl]
   intro _
   exact fH _ hos (aB.le_refl _) rfl
@[go_sem] def aTA : List Nat := [0, 1, 4, 5, 6, 11]
@[go_sem] def a6T : List Nat := [7, 24]
@[go_sem] def a6U : Marks := fun id => match id with | 5 => ([11], (.op 0 (.op 1 (.op 2 (.op 3 (.op 4 (.op 5 (.op 6 (.op 7 (.op 8 (.op 9 (.op 10 (.op 11 (.op 12 .nil))))))))))))), []) | _ => ([], .nil, [])
theorem y7 (a b : List Int) (hab : b.length = a.length) (hl : a.length ≤ 1048576) (ha : eD a) (hb : eD b) : fL Tryz.prog 139 [ints a, ints b] (ints (j5 a b)) := by
 have hc := nM hab
 refine rP 27 aTA a6T a6U mix Tryz.func139 rfl (by kernel_rfl) (by simp) fun h => ?_
 simp -dsimp -implicitDefEqProofs only [go_sem, ↓reduceIte, Tryz.f139]
 refine ⟨Nat.zero_lt_one, ?_⟩
 refine cS (keep := aTA) (ib := a6T) (mk := a6U) mix (by kernel_rfl) (fun x : Nat × Option Nat => [(0, ints a), (1, ints b), (5, jC 1 ((j5 a b).take x.1).length x.2), (6, I x.1)]) (fun x => cK h (.row 1 ((((j5 a b).take x.1).map fun n => [I n]).map (List.map .v))) x.2) (fun x => x.1 ≤ a.length ∧ fK h ((j5 a b).take x.1) x.2) (fun x => a.length - x.1) (0, none) ⟨by simp [cV, bZ, jC], by simp only [aO]; exact aB.le_refl _, Nat.zero_le _, by simp [fK]⟩ ?_
 rintro ⟨k, o⟩ ⟨hk, hos⟩
 simp only at hk hos ⊢
 rcases Nat.lt_or_ge k a.length with hlt | hge
 ·have ea : a[k]? = some a[k] := List.getElem?_eq_getElem hlt
  have eb : b[k]? = some (b[k]'(by omega)) := List.getElem?_eq_getElem (by omega)
  have hy : (j5 a b).take (k + 1) = (j5 a b).take k ++ [(j5 a b)[k]'(by omega)] := List.take_succ_eq_append_getElem (by omega)
  have hv : (j5 a b)[k]'(by omega) = (a[k] + b[k]'(by omega)) % 1000003 := by simp [j5]
  have hlk : ((j5 a b).take k).length = k := by rw [List.length_take]; omega
  rw [hv] at hy
  cases o with
  |none =>
   rw [bD] at hos
   rw [hos] at hy ⊢
   simp -dsimp -implicitDefEqProofs only [go_sem, ↓reduceIte, Tryz.f139, bO, aO, hlt, ea, eb]
   intro _
   refine ⟨by omega, ?_⟩
   first | refine aH.mk (eC a[k] (b[k]'(by omega))) ?_ | refine aF.mk (eC a[k] (b[k]'(by omega))) ?_ | refine aH.bS (eC a[k] (b[k]'(by omega))) ?_ | refine aF.mk (bM.eQ (eC a[k] (b[k]'(by omega)))) ?_
   simp -dsimp -implicitDefEqProofs only [go_sem, ↓reduceIte, Tryz.f139]
   repeat' (with_reducible first | intro _ | refine And.intro ?_ ?_)
   all_goals try (first | omega | decide)
   rename_i b hb
   refine ⟨(k + 1, some b), ?_⟩
   simp only [hy]
   refine ⟨⟨rfl, ?_⟩, aB.le_refl _, ⟨by omega, hb⟩, by omega⟩
   rw [IntWalk.i64_in _ (by omega)]; rfl
  |some n =>
   rw [aV] at hos
   simp -dsimp -implicitDefEqProofs only [go_sem, ↓reduceIte, Tryz.f139, aX, aJ, hlt, ea, eb]
   intro _
   refine ⟨by omega, ?_⟩
   first | refine aH.mk (eC a[k] (b[k]'(by omega))) ?_ | refine aF.mk (eC a[k] (b[k]'(by omega))) ?_ | refine aH.bS (eC a[k] (b[k]'(by omega))) ?_ | refine aF.mk (bM.eQ (eC a[k] (b[k]'(by omega)))) ?_
   simp -dsimp -implicitDefEqProofs only [go_sem, ↓reduceIte, Tryz.f139]
   repeat' (with_reducible first | intro _ | refine And.intro ?_ ?_)
   all_goals try (first | omega | decide | exact Nat.le_refl _)
   rename_i b hb
   refine ⟨(k + 1, some b), ?_⟩
   simp only [hy, aJ, aX, aV]
   refine ⟨⟨by rw [List.length_append]; rfl, ?_⟩, ?_, ⟨by omega, hb.2⟩, by omega⟩
   ·rw [IntWalk.i64_in _ (by omega)]; rfl
   ·rw [← fI]; exact kU hos
 ·have hk' : k = a.length := by omega
  subst hk'
  rw [List.take_of_length_le (by omega)] at hos ⊢
  cases o with
  |none =>
   rw [bD] at hos
   simp -dsimp -implicitDefEqProofs only [go_sem, ↓reduceIte, Tryz.f139, bO, aO, Nat.lt_irrefl, Int.lt_irrefl]
   intro _
   rw [hos]
   exact Shift.of (Sub.loose _ _ _) (aB.le_refl _)
  |some n =>
   rw [aV] at hos
   simp -dsimp -implicitDefEqProofs only [go_sem, ↓reduceIte, Tryz.f139, aX, aJ, Nat.lt_irrefl, Int.lt_irrefl]
   intro _
   exact fH _ hos (aB.le_refl _) rfl
@[go_sem] def a2V : List Nat := [0, 1, 4]
@[go_sem] def bG9 : List Nat := []
@[go_sem] def bHA : Marks := fun _ => ([], .nil, [])
theorem aLL (a b : List Int) (hab : b.length = a.length) (hl : a.length ≤ 1048576) (ha : eD a) (hb : eD b) : fL Tryz.prog 140 [ints a, ints b] (ints (aLC a b)) := by
 refine fT 9 a2V bG9 bHA mix Tryz.func140 rfl (by kernel_rfl) (by simp) fun h => ?_
 simp -dsimp -implicitDefEqProofs only [go_sem, ↓reduceIte, Tryz.f140]
 first | refine aH.mk (rT b 1000002 (by unfold jA; omega) (by omega) hb) ?_ | refine aF.mk (rT b 1000002 (by unfold jA; omega) (by omega) hb) ?_ | refine aH.bS (rT b 1000002 (by unfold jA; omega) (by omega) hb) ?_ | refine aF.mk (bM.eQ (rT b 1000002 (by unfold jA; omega) (by omega) hb)) ?_
 simp -dsimp -implicitDefEqProofs only [go_sem, ↓reduceIte, Tryz.f140]
 first | refine aH.mk (y7 a (lY b 1000002) (by rw [tK]; exact hab) hl ha (fS _ ⟨rfl, hb⟩).2) ?_ | refine aF.mk (y7 a (lY b 1000002) (by rw [tK]; exact hab) hl ha (fS _ ⟨rfl, hb⟩).2) ?_ | refine aH.bS (y7 a (lY b 1000002) (by rw [tK]; exact hab) hl ha (fS _ ⟨rfl, hb⟩).2) ?_ | refine aF.mk (bM.eQ (y7 a (lY b 1000002) (by rw [tK]; exact hab) hl ha (fS _ ⟨rfl, hb⟩).2)) ?_
 simp -dsimp -implicitDefEqProofs only [go_sem, ↓reduceIte, Tryz.f140]
 rfl
@[go_sem] def aFQ : List Nat := [0, 1, 4, 5, 6, 7, 8, 13, 18]
@[go_sem] def aTB : List Nat := [9, 36]
@[go_sem] def aTC : Marks := fun id => match id with | 9 => ([], (.op 0 (.op 1 (.op 2 (.op 3 (.op 4 (.op 5 (.op 6 (.op 7 (.op 8 (.op 9 (.op 10 (.op 11 (.op 12 (.op 13 .nil)))))))))))))), []) | _ => ([], .nil, [])
theorem aLM (a b : List Int) (hab : b.length = a.length) (hl : a.length ≤ 1048576) (ha : eD a) (hb : eD b) : fL Tryz.prog 141 [ints a, ints b] (ints (mulL a b)) := by
 have hc := aOZ a b
 refine rP 39 aFQ aTB aTC mix Tryz.func141 rfl (by kernel_rfl) (by simp) fun h => ?_
 simp -dsimp -implicitDefEqProofs only [go_sem, ↓reduceIte, Tryz.f141]
 refine ⟨Nat.zero_lt_one, ?_⟩
 refine cS (keep := aFQ) (ib := aTB) (mk := aTC) mix (by kernel_rfl) (fun x : Nat × Option Nat => [(0, ints a), (1, ints b), (5, jC 1 ((mulL a b).take x.1).length x.2), (6, I x.1)]) (fun x => cK h (.row 1 ((((mulL a b).take x.1).map fun n => [I n]).map (List.map .v))) x.2) (fun x => x.1 ≤ a.length ∧ fK h ((mulL a b).take x.1) x.2) (fun x => a.length - x.1) (0, none) ⟨by simp [cV, bZ, jC], by simp only [aO]; exact aB.le_refl _, Nat.zero_le _, by simp [fK]⟩ ?_
 rintro ⟨k, o⟩ ⟨hk, hos⟩
 simp only at hk hos ⊢
 rcases Nat.lt_or_ge k a.length with hlt | hge
 ·have hy : (mulL a b).take (k + 1) = (mulL a b).take k ++ [(mulL a b)[k]'(by omega)] := List.take_succ_eq_append_getElem (by omega)
  have hv : (mulL a b)[k]'(by omega) = cvS a b k (k + 1) := by simp [mulL]
  have hlk : ((mulL a b).take k).length = k := by rw [List.length_take]; omega
  rw [hv] at hy
  cases o with
  |none =>
   rw [bD] at hos
   rw [hos] at hy ⊢
   simp -dsimp -implicitDefEqProofs only [go_sem, ↓reduceIte, Tryz.f141, bO, aO, hlt]
   intro _
   refine oY (keep := aFQ) (ib := aTB) (mk := aTC) mix (by kernel_rfl) (fun i : Nat => [(0, ints a), (1, ints b), (5, .sl 1 [] true), (6, I k), (7, I (cvS a b k i)), (8, I i)]) (fun i => i ≤ k + 1) (fun i => k + 1 - i) 0 ⟨by simp [cV, bZ, cvS], Nat.zero_le _⟩ ?_
   intro i hi
   rcases Nat.lt_or_ge i (k + 1) with kJ | aE6
   ·have ea := dS (l := a) (i := i) (by omega)
    have eb := dS (l := b) (i := k - i) (by omega)
    have ew : IntKind.i64.wrap ((k : Int) - (i : Int)) = ((k - i : Nat) : Int) := by rw [IntWalk.i64_in _ (by omega)]; omega
    simp -dsimp -implicitDefEqProofs only [go_sem, ↓reduceIte, Tryz.f141, ea, eb, ew]
    refine ⟨fun _ => ⟨by omega, by omega, ?_⟩, fun q => absurd (by omega) q⟩
    first | refine aH.mk (cI (a.getD i 0) (b.getD (k - i) 0) (ha.get i) (hb.get (k - i))) ?_ | refine aF.mk (cI (a.getD i 0) (b.getD (k - i) 0) (ha.get i) (hb.get (k - i))) ?_ | refine aH.bS (cI (a.getD i 0) (b.getD (k - i) 0) (ha.get i) (hb.get (k - i))) ?_ | refine aF.mk (bM.eQ (cI (a.getD i 0) (b.getD (k - i) 0) (ha.get i) (hb.get (k - i)))) ?_
    simp -dsimp -implicitDefEqProofs only [go_sem, ↓reduceIte, Tryz.f141]
    first | refine aH.mk (eC (cvS a b k i) (a.getD i 0 * b.getD (k - i) 0 % 1000003)) ?_ | refine aF.mk (eC (cvS a b k i) (a.getD i 0 * b.getD (k - i) 0 % 1000003)) ?_ | refine aH.bS (eC (cvS a b k i) (a.getD i 0 * b.getD (k - i) 0 % 1000003)) ?_ | refine aF.mk (bM.eQ (eC (cvS a b k i) (a.getD i 0 * b.getD (k - i) 0 % 1000003))) ?_
    simp -dsimp -implicitDefEqProofs only [go_sem, ↓reduceIte, Tryz.f141]
    refine ⟨i + 1, ⟨?_, by rw [IntWalk.i64_in _ (by omega)]; rfl⟩, by omega, by omega⟩
    rw [cvS]
    omega
   ·have hi' : i = k + 1 := by omega
    subst hi'
    simp -dsimp -implicitDefEqProofs only [go_sem, ↓reduceIte, Tryz.f141, hlt]
    refine ⟨fun q => absurd q (by omega), fun _ => ?_⟩
    repeat' (with_reducible first | intro _ | refine And.intro ?_ ?_)
    all_goals try (first | omega | decide)
    rename_i b hb
    refine ⟨(k + 1, some b), ?_⟩
    simp only [hy]
    refine ⟨⟨rfl, ?_⟩, aB.le_refl _, ⟨by omega, hb⟩, by omega⟩
    rw [IntWalk.i64_in _ (by omega)]; rfl
  |some n =>
   rw [aV] at hos
   simp -dsimp -implicitDefEqProofs only [go_sem, ↓reduceIte, Tryz.f141, aX, aJ, hlt]
   intro _
   refine oY (keep := aFQ) (ib := aTB) (mk := aTC) mix (by kernel_rfl) (fun i : Nat => [(0, ints a), (1, ints b), (5, .os n 1 0 ((mulL a b).take k).length), (6, I k), (7, I (cvS a b k i)), (8, I i)]) (fun i => i ≤ k + 1) (fun i => k + 1 - i) 0 ⟨by simp [cV, bZ, cvS], Nat.zero_le _⟩ ?_
   intro i hi
   rcases Nat.lt_or_ge i (k + 1) with kJ | aE6
   ·have ea := dS (l := a) (i := i) (by omega)
    have eb := dS (l := b) (i := k - i) (by omega)
    have ew : IntKind.i64.wrap ((k : Int) - (i : Int)) = ((k - i : Nat) : Int) := by rw [IntWalk.i64_in _ (by omega)]; omega
    simp -dsimp -implicitDefEqProofs only [go_sem, ↓reduceIte, Tryz.f141, ea, eb, ew]
    refine ⟨fun _ => ⟨by omega, by omega, ?_⟩, fun q => absurd (by omega) q⟩
    first | refine aH.mk (cI (a.getD i 0) (b.getD (k - i) 0) (ha.get i) (hb.get (k - i))) ?_ | refine aF.mk (cI (a.getD i 0) (b.getD (k - i) 0) (ha.get i) (hb.get (k - i))) ?_ | refine aH.bS (cI (a.getD i 0) (b.getD (k - i) 0) (ha.get i) (hb.get (k - i))) ?_ | refine aF.mk (bM.eQ (cI (a.getD i 0) (b.getD (k - i) 0) (ha.get i) (hb.get (k - i)))) ?_
    simp -dsimp -implicitDefEqProofs only [go_sem, ↓reduceIte, Tryz.f141]
    first | refine aH.mk (eC (cvS a b k i) (a.getD i 0 * b.getD (k - i) 0 % 1000003)) ?_ | refine aF.mk (eC (cvS a b k i) (a.getD i 0 * b.getD (k - i) 0 % 1000003)) ?_ | refine aH.bS (eC (cvS a b k i) (a.getD i 0 * b.getD (k - i) 0 % 1000003)) ?_ | refine aF.mk (bM.eQ (eC (cvS a b k i) (a.getD i 0 * b.getD (k - i) 0 % 1000003))) ?_
    simp -dsimp -implicitDefEqProofs only [go_sem, ↓reduceIte, Tryz.f141]
    refine ⟨i + 1, ⟨?_, by rw [IntWalk.i64_in _ (by omega)]; rfl⟩, by omega, by omega⟩
    rw [cvS]
    omega
   ·have hi' : i = k + 1 := by omega
    subst hi'
    simp -dsimp -implicitDefEqProofs only [go_sem, ↓reduceIte, Tryz.f141, hlt]
    refine ⟨fun q => absurd q (by omega), fun _ => ?_⟩
    repeat' (with_reducible first | intro _ | refine And.intro ?_ ?_)
    all_goals try (first | omega | decide | exact Nat.le_refl _)
    rename_i b hb
    refine ⟨(k + 1, some b), ?_⟩
    simp only [hy, aJ, aX, aV]
    refine ⟨⟨by rw [List.length_append]; rfl, ?_⟩, ?_, ⟨by omega, hb.2⟩, by omega⟩
    ·rw [IntWalk.i64_in _ (by omega)]; rfl
    ·rw [← fI]; exact kU hos
 ·have hk' : k = a.length := by omega
  subst hk'
  rw [List.take_of_length_le (by omega)] at hos ⊢
  cases o with
  |none =>
   rw [bD] at hos
   simp -dsimp -implicitDefEqProofs only [go_sem, ↓reduceIte, Tryz.f141, bO, aO, Nat.lt_irrefl, Int.lt_irrefl]
   intro _
   rw [hos]
   exact Shift.of (Sub.loose _ _ _) (aB.le_refl _)
  |some n =>
   rw [aV] at hos
   simp -dsimp -implicitDefEqProofs only [go_sem, ↓reduceIte, Tryz.f141, aX, aJ, Nat.lt_irrefl, Int.lt_irrefl]
   intro _
   exact fH _ hos (aB.le_refl _) rfl
@[go_sem] def aFR : List Nat := [0, 1, 4, 5, 6, 7, 8, 9, 18, 27]
@[go_sem] def aTD : List Nat := [10, 47]
@[go_sem] def aTE : Marks := fun id => match id with | 10 => ([4], (.op 0 (.op 1 (.op 2 (.op 3 (.op 5 (.op 6 (.op 7 (.op 8 (.op 9 (.op 10 (.op 4 (.op 11 (.op 12 (.op 13 .nil)))))))))))))), []) | _ => ([], .nil, [])
theorem a9Q (a b : List Int) (hab : b.length = a.length) (hl : a.length ≤ 1048576) (h0 : 0 < a.length) (ha : eD a) (hb : eD b) : fL Tryz.prog 142 [ints a, ints b] (ints (lA a b)) := by
 have hc := vZ a b
 have e0 : b[Int.toNat 0]? = some (b.getD 0 0) := dS (l := b) (i := 0) (by omega)
 refine rP 50 aFR aTD aTE mix Tryz.func142 rfl (by kernel_rfl) (by simp) fun h => ?_
 simp -dsimp -implicitDefEqProofs only [go_sem, ↓reduceIte, Tryz.f142, e0]
 refine ⟨Nat.zero_lt_one, by omega, ?_⟩
 first | refine aH.mk (aLJ (b.getD 0 0)) ?_ | refine aF.mk (aLJ (b.getD 0 0)) ?_ | refine aH.bS (aLJ (b.getD 0 0)) ?_ | refine aF.mk (bM.eQ (aLJ (b.getD 0 0))) ?_
 simp -dsimp -implicitDefEqProofs only [go_sem, ↓reduceIte, Tryz.f142]
 refine cS (keep := aFR) (ib := aTD) (mk := aTE) mix (by kernel_rfl) (fun x : Nat × Option Nat => [(0, ints a), (1, ints b), (6, I (o5 (b.getD 0 0))), (5, jC 1 ((lA a b).take x.1).length x.2), (7, I x.1)]) (fun x => cK h (.row 1 ((((lA a b).take x.1).map fun n => [I n]).map (List.map .v))) x.2) (fun x => x.1 ≤ a.length ∧ fK h ((lA a b).take x.1) x.2) (fun x => a.length - x.1) (0, none) ⟨by simp [cV, bZ, jC], by simp only [aO]; exact aB.le_refl _, Nat.zero_le _, by simp [fK]⟩ ?_
 rintro ⟨k, o⟩ ⟨hk, hos⟩
 simp only at hk hos ⊢
 rcases Nat.lt_or_ge k a.length with hlt | hge
 ·have hy : (lA a b).take (k + 1) = (lA a b).take k ++ [(lA a b)[k]'(by omega)] := List.take_succ_eq_append_getElem (by omega)
  have hv := aOY (a := a) (b := b) hlt
  have hlk : ((lA a b).take k).length = k := by rw [List.length_take]; omega
  have ek := dS hlt
  rw [hv] at hy
  cases o with
  |none =>
   rw [bD] at hos
   rw [hos] at hy ⊢
   have hk0 : k = 0 := by rw [hos] at hlk; exact hlk.symm
   subst hk0
   simp -dsimp -implicitDefEqProofs only [go_sem, ↓reduceIte, Tryz.f142, bO, aO, hlt, ek]
   intro _
   refine oY (keep := aFR) (ib := aTD) (mk := aTE) mix (by kernel_rfl) (fun _ : Unit => [(0, ints a), (1, ints b), (5, .sl 1 [] true), (6, I (o5 (b.getD 0 0))), (7, I (0 : Nat)), (8, I (a.getD 0 0)), (9, I (0 : Nat))]) (fun _ => True) (fun _ => 0) () ⟨by simp [cV, bZ], trivial⟩ ?_
   intro _ _
   simp -dsimp -implicitDefEqProofs only [go_sem, ↓reduceIte, Tryz.f142, Nat.lt_irrefl, Int.lt_irrefl]
   try (refine ⟨fun q => absurd q (by omega), fun _ => ?_⟩)
   first | refine aH.mk (cI (a.getD 0 0) (o5 (b.getD 0 0)) (ha.get 0) (num_inv _)) ?_ | refine aF.mk (cI (a.getD 0 0) (o5 (b.getD 0 0)) (ha.get 0) (num_inv _)) ?_ | refine aH.bS (cI (a.getD 0 0) (o5 (b.getD 0 0)) (ha.get 0) (num_inv _)) ?_ | refine aF.mk (bM.eQ (cI (a.getD 0 0) (o5 (b.getD 0 0)) (ha.get 0) (num_inv _))) ?_
   simp -dsimp -implicitDefEqProofs only [go_sem, ↓reduceIte, Tryz.f142]
   repeat' (with_reducible first | intro _ | refine And.intro ?_ ?_)
   all_goals try (first | omega | decide)
   rename_i b hb
   refine ⟨(0 + 1, some b), ?_⟩
   simp only [hy]
   refine ⟨⟨rfl, ?_⟩, aB.le_refl _, ⟨by omega, hb⟩, by omega⟩
   rw [IntWalk.i64_in _ (by omega)]; rfl
  |some n =>
   rw [aV] at hos
   simp -dsimp -implicitDefEqProofs only [go_sem, ↓reduceIte, Tryz.f142, aX, aJ, hlt, ek]
   intro _
   have htk : (lA a b).take k = kM a b k := aD0 a b _ hk
   refine oY (keep := aFR) (ib := aTD) (mk := aTE) mix (by kernel_rfl) (fun i : Nat => [(0, ints a), (1, ints b), (5, .os n 1 0 ((lA a b).take k).length), (6, I (o5 (b.getD 0 0))), (7, I k), (8, I (dvS (kM a b k) b k (a.getD k 0) i)), (9, I i)]) (fun i => i ≤ k) (fun i => k - i) 0 ⟨by simp [cV, bZ, dvS], Nat.zero_le _⟩ ?_
   intro i hi
   rcases Nat.lt_or_ge i k with kJ | aE6
   ·have ei : ((lA a b).take k)[i]? = some ((kM a b k).getD i 0) := by rw [htk]; exact dS (by rw [o6]; exact kJ)
    have eb := dS (l := b) (i := k - i) (by omega)
    have ew : IntKind.i64.wrap ((k : Int) - (i : Int)) = ((k - i : Nat) : Int) := by rw [IntWalk.i64_in _ (by omega)]; omega
    simp -dsimp -implicitDefEqProofs only [go_sem, ↓reduceIte, Tryz.f142, kJ, ei, eb, ew]
    refine ⟨by omega, by omega, ?_⟩
    first | refine aH.mk (cI ((kM a b k).getD i 0) (b.getD (k - i) 0) ((tJ a b k).get i) (hb.get (k - i))) ?_ | refine aF.mk (cI ((kM a b k).getD i 0) (b.getD (k - i) 0) ((tJ a b k).get i) (hb.get (k - i))) ?_ | refine aH.bS (cI ((kM a b k).getD i 0) (b.getD (k - i) 0) ((tJ a b k).get i) (hb.get (k - i))) ?_ | refine aF.mk (bM.eQ (cI ((kM a b k).getD i 0) (b.getD (k - i) 0) ((tJ a b k).get i) (hb.get (k - i)))) ?_
    simp -dsimp -implicitDefEqProofs only [go_sem, ↓reduceIte, Tryz.f142]
    first | refine aH.mk (aCH (dvS (kM a b k) b k (a.getD k 0) i) ((kM a b k).getD i 0 * b.getD (k - i) 0 % 1000003) (xB _ _ _ (ha.get k) i) (mZ _)) ?_ | refine aF.mk (aCH (dvS (kM a b k) b k (a.getD k 0) i) ((kM a b k).getD i 0 * b.getD (k - i) 0 % 1000003) (xB _ _ _ (ha.get k) i) (mZ _)) ?_ | refine aH.bS (aCH (dvS (kM a b k) b k (a.getD k 0) i) ((kM a b k).getD i 0 * b.getD (k - i) 0 % 1000003) (xB _ _ _ (ha.get k) i) (mZ _)) ?_ | refine aF.mk (bM.eQ (aCH (dvS (kM a b k) b k (a.getD k 0) i) ((kM a b k).getD i 0 * b.getD (k - i) 0 % 1000003) (xB _ _ _ (ha.get k) i) (mZ _))) ?_
    simp -dsimp -implicitDefEqProofs only [go_sem, ↓reduceIte, Tryz.f142]
    refine ⟨i + 1, ⟨?_, by rw [IntWalk.i64_in _ (by omega)]; rfl⟩, by omega, by omega⟩
    rw [dvS]
    omega
   ·have hi' : i = k := by omega
    subst hi'
    simp -dsimp -implicitDefEqProofs only [go_sem, ↓reduceIte, Tryz.f142, Nat.lt_irrefl, Int.lt_irrefl]
    first | refine aH.mk (cI (dvS (kM a b i) b i (a.getD i 0) i) (o5 (b.getD 0 0)) (xB _ _ _ (ha.get i) i) (num_inv _)) ?_ | refine aF.mk (cI (dvS (kM a b i) b i (a.getD i 0) i) (o5 (b.getD 0 0)) (xB _ _ _ (ha.get i) i) (num_inv _)) ?_ | refine aH.bS (cI (dvS (kM a b i) b i (a.getD i 0) i) (o5 (b.getD 0 0)) (xB _ _ _ (ha.get i) i) (num_inv _)) ?_ | refine aF.mk (bM.eQ (cI (dvS (kM a b i) b i (a.getD i 0) i) (o5 (b.getD 0 0)) (xB _ _ _ (ha.get i) i) (num_inv _))) ?_
    simp -dsimp -implicitDefEqProofs only [go_sem, ↓reduceIte, Tryz.f142]
    repeat' (with_reducible first | intro _ | refine And.intro ?_ ?_)
    all_goals try (first | omega | decide | exact Nat.le_refl _)
    rename_i b hb
    refine ⟨(i + 1, some b), ?_⟩
    simp only [hy, aJ, aX, aV]
    refine ⟨⟨by rw [List.length_append]; rfl, ?_⟩, ?_, ⟨by omega, hb.2⟩, by omega⟩
    ·rw [IntWalk.i64_in _ (by omega)]; rfl
    ·rw [← fI]; exact kU hos
 ·have hk' : k = a.length := by omega
  subst hk'
  rw [List.take_of_length_le (by omega)] at hos ⊢
  cases o with
  |none =>
   rw [bD] at hos
   simp -dsimp -implicitDefEqProofs only [go_sem, ↓reduceIte, Tryz.f142, bO, aO, Nat.lt_irrefl, Int.lt_irrefl]
   intro _
   rw [hos]
   exact Shift.of (Sub.loose _ _ _) (aB.le_refl _)
  |some n =>
   rw [aV] at hos
   simp -dsimp -implicitDefEqProofs only [go_sem, ↓reduceIte, Tryz.f142, aX, aJ, Nat.lt_irrefl, Int.lt_irrefl]
   intro _
   exact fH _ hos (aB.le_refl _) rfl
theorem l3 {h h' : aB} {n : Nat} (l : List (List Int)) (h0 : h n = none) (hl : (aR h n (.row 1 ((l.map fun s => [ints s]).map (List.map .v)))).le h') {len : Nat} (e : len = l.length) : Shift (.os n 1 0 len) h' (eZ 1 (fun s => [ints s]) l) h :=
 zL (l.map fun s => [ints s]) h0 hl len (by rw [List.length_map]; exact e)
@[go_sem] def aTF : List Nat := [0, 1, 4, 5, 6, 11]
@[go_sem] def a6V : List Nat := [7, 19, 23]
@[go_sem] def a6W : Marks := fun _ => ([], .nil, [])
theorem aLN (env : List (List Int)) (s : List Int) (hl : env.length ≤ 1048576) : fL Tryz.prog 137 [eZ 1 (fun s => [ints s]) env, ints s] (eZ 1 (fun s => [ints s]) (env ++ [s])) := by
 refine rP 25 aTF a6V a6W mix Tryz.func137 rfl (by kernel_rfl) (by simp) fun h => ?_
 simp -dsimp -implicitDefEqProofs only [go_sem, ↓reduceIte, Tryz.f137]
 refine ⟨Nat.zero_lt_one, ?_⟩
 refine cS (keep := aTF) (ib := a6V) (mk := a6W) mix (by kernel_rfl) (fun x : Nat × Option Nat => [(0, eZ 1 (fun s => [ints s]) env), (1, ints s), (5, jC 1 (env.take x.1).length x.2), (6, I x.1)]) (fun x => cK h (.row 1 (((env.take x.1).map fun s => [ints s]).map (List.map .v))) x.2) (fun x => x.1 ≤ env.length ∧ fK h (env.take x.1) x.2) (fun x => env.length - x.1) (0, none) ⟨by simp [cV, bZ, jC], by simp only [aO]; exact aB.le_refl _, Nat.zero_le _, by simp [fK]⟩ ?_
 rintro ⟨k, o⟩ ⟨hk, hos⟩
 simp only at hk hos ⊢
 rcases Nat.lt_or_ge k env.length with hlt | hge
 ·have ea : env[k]? = some env[k] := List.getElem?_eq_getElem hlt
  have hy : env.take (k + 1) = env.take k ++ [env[k]] := List.take_succ_eq_append_getElem hlt
  have hlk : (env.take k).length = k := by rw [List.length_take]; omega
  cases o with
  |none =>
   rw [bD] at hos
   rw [hos] at hy ⊢
   simp -dsimp -implicitDefEqProofs only [go_sem, ↓reduceIte, Tryz.f137, bO, aO, hlt, ea]
   intro _
   repeat' (with_reducible first | intro _ | refine And.intro ?_ ?_)
   all_goals try (first | omega | decide)
   rename_i b hb
   refine ⟨(k + 1, some b), ?_⟩
   simp only [hy]
   refine ⟨⟨rfl, ?_⟩, aB.le_refl _, ⟨by omega, hb⟩, by omega⟩
   rw [IntWalk.i64_in _ (by omega)]; rfl
  |some n =>
   rw [aV] at hos
   simp -dsimp -implicitDefEqProofs only [go_sem, ↓reduceIte, Tryz.f137, aX, aJ, hlt, ea]
   intro _
   repeat' (with_reducible first | intro _ | refine And.intro ?_ ?_)
   all_goals try (first | omega | decide | exact Nat.le_refl _)
   rename_i b hb
   refine ⟨(k + 1, some b), ?_⟩
   simp only [hy, aJ, aX, aV]
   refine ⟨⟨by rw [List.length_append]; rfl, ?_⟩, ?_, ⟨by omega, hb.2⟩, by omega⟩
   ·rw [IntWalk.i64_in _ (by omega)]; rfl
   ·rw [← fI]; exact kU hos
 ·have hk' : k = env.length := by omega
  subst hk'
  rw [List.take_length] at hos ⊢
  cases o with
  |none =>
   rw [bD] at hos
   simp -dsimp -implicitDefEqProofs only [go_sem, ↓reduceIte, Tryz.f137, bO, aO, Nat.lt_irrefl, Int.lt_irrefl]
   subst hos
   exact fun _ => ⟨Nat.zero_lt_one, Nat.zero_lt_one, Nat.zero_lt_one, fun n hn => l3 [s] hn (aB.le_refl _) rfl⟩
  |some n =>
   rw [aV] at hos
   simp -dsimp -implicitDefEqProofs only [go_sem, ↓reduceIte, Tryz.f137, aX, aJ, Nat.lt_irrefl, Int.lt_irrefl]
   exact fun _ => ⟨Nat.zero_lt_one, Nat.zero_lt_one, Nat.zero_lt_one, Nat.le_refl _, by omega, by omega, fun m hm => l3 (env ++ [s]) hm.2 (by rw [← fI]; exact kU hos) (by rw [List.length_append]; rfl)⟩
set_option maxRecDepth 100000
open Go.Proofs
set_option linter.unusedVariables false
set_option linter.unusedSimpArgs false
def dX (p : aE) (sz st : Nat) (c : Int) : bP := .row 4 [[.v (.ip 1 [p.c] 0 0), .v (I sz), .v (I st), .v (I c)]]
def RnQ (h : aB) (nb : Nat) (p : aE) (sz st : Nat) (c : Int) (X : Out (List Int)) : aD → aB → Prop := fun r h' => ∃ s t c', r = ints s ∧ h' = aR h nb (dX p sz t c') ∧ bN sz s ∧ st ≤ t ∧ t ≤ 3000 ∧ jF (oT c X) s t c'
def bN8 (h : aB) (nb : Nat) (p : aE) (sz st : Nat) (c : Int) (n : Nat) (X : Out (List (List Int))) : aD → aB → Prop := fun r h' => ∃ l t c', r = c7 l ∧ h' = aR h nb (dX p sz t c') ∧ l.length = n ∧ (∀ s ∈ l, bN sz s) ∧ st ≤ t ∧ t ≤ 3000 ∧ jF (oT c X) l t c'
@[go_sem] def a2W : List Nat := [0, 1, 4, 9]
@[go_sem] def bHB : List Nat := []
@[go_sem] def bHC : Marks := fun _ => ([], .nil, [])
theorem aTG (h : aB) (nb : Nat) (p : aE) (sz st : Nat) (c d : Int) (hb : h nb = some (dX p sz st c)) (hsz : sz ≤ 1048576) : iH Tryz.prog 134 [.op nb 4 0 0, I d] h fun r h' => r = ints (lP 0 sz) ∧ h' = aR h nb (dX p sz st (if c = 0 then d else c)) := by
 have hb' := hb
 unfold dX at hb'
 refine aDS 19 a2W bHB bHC mix Tryz.func134 rfl (by kernel_rfl) (by simp) ?_
 simp -dsimp -implicitDefEqProofs only [go_sem, ↓reduceIte, Tryz.f134, hb']
 refine ⟨fun hc => ?_, fun hc => ?_⟩
 ·try simp -dsimp -implicitDefEqProofs only [go_sem, ↓reduceIte, Tryz.f134]
  first | refine aH.mk (mM 0 sz hsz) ?_ | refine aF.mk (mM 0 sz hsz) ?_ | refine aH.bS (mM 0 sz hsz) ?_ | refine aF.mk (bM.eQ (mM 0 sz hsz)) ?_
  simp -dsimp -implicitDefEqProofs only [go_sem, ↓reduceIte, Tryz.f134]
  exact ⟨_, by rw [if_pos hc]; exact aB.le_refl _, rfl⟩
 ·try simp -dsimp -implicitDefEqProofs only [go_sem, ↓reduceIte, Tryz.f134, hb']
  first | refine aH.mk (mM 0 sz hsz) ?_ | refine aF.mk (mM 0 sz hsz) ?_ | refine aH.bS (mM 0 sz hsz) ?_ | refine aF.mk (bM.eQ (mM 0 sz hsz)) ?_
  simp -dsimp -implicitDefEqProofs only [go_sem, ↓reduceIte, Tryz.f134]
  refine ⟨_, ?_, rfl⟩
  rw [if_neg hc, rQ hb]
  exact aB.le_refl _
@[go_sem] def pA : List Nat := [0, 1, 2, 6, 7, 8, 9, 14, 25, 38, 39, 50, 59, 70, 82, 99, 119, 142, 151, 160, 169]
@[go_sem] def xX : List Nat := []
@[go_sem] def xY : Marks := fun id => match id with | 8 => ([7, 8], (.op 0 (.op 1 (.op 2 (.op 3 (.op 4 (.op 5 (.op 6 (.op 7 (.op 8 (.op 9 .nil)))))))))), []) | 19 => ([8, 9], (.op 0 (.op 1 (.op 2 (.op 3 (.op 4 (.op 5 (.op 6 (.op 7 (.op 8 (.op 9 (.op 10 .nil))))))))))), []) | _ => ([], .nil, [])
def rU (p : aE) (sz n : Nat) : Prop := ∀ (h : aB) (nb st : Nat) (c : Int) (e : aC) (env : List (List Int)) (funcs : Int), h nb = some (dX p sz st c) → st ≤ 3000 → 3001 ≤ n + st → e.ok p funcs env.length → 0 ≤ funcs → funcs ≤ p.aI.length → (∀ s ∈ env, bN sz s) → env.length ≤ 412 + st →
 iH Tryz.prog 116 [.op nb 4 0 0, .ip 5 [e.c] 0 0, c7 env] h (RnQ h nb p sz st c (iY p sz n st e env))
theorem a9R {l : List aC} {k : Nat} {x : aC} (h : l[k]? = some x) (i : Nat) (hi : i = k) : Sub (.ip 5 (l.map aC.c) i 0) (.ip 5 [x.c] 0 0) := by
 subst hi
 exact Sub.ip (by rw [List.getElem?_map, h]; rfl) (by simp)
theorem rU.at {p : aE} {sz n : Nat} (hv : rU p sz n) {l : List aC} {i : Nat} {e : aC} (hi : l[i]? = some e) (h : aB) (nb st : Nat) (c : Int) (env : List (List Int)) (funcs : Int) (hb : h nb = some (dX p sz st c)) (hst : st ≤ 3000) (hn : 3001 ≤ n + st) (hok : e.ok p funcs env.length) (fN : 0 ≤ funcs) (hf : funcs ≤ p.aI.length) (henv : ∀ s ∈ env, bN sz s) (hel : env.length ≤ 412 + st) :
  iH Tryz.prog 116 [.op nb 4 0 0, .ip 5 (l.map aC.c) i 0, c7 env] h (RnQ h nb p sz st c (iY p sz n st e env)) :=
 iH.sub (.cons (.refl _) (.cons (a9R hi _ rfl) (.cons (.refl _) .nil))) (hv h nb st c e env funcs hb hst hn hok fN hf henv hel)
@[go_sem] def aYL : List Nat := [0, 1, 2, 6, 7, 8, 16]
@[go_sem] def bHD : List Nat := [9, 29]
@[go_sem] def bHE : Marks := fun _ => ([], .nil, [])
theorem aFS {p : aE} {sz n : Nat} (hv : rU p sz n) (h : aB) (nb st : Nat) (c : Int) (f : aT) (env : List (List Int)) (funcs : Int) (hb : h nb = some (dX p sz st c)) (hst : st ≤ 3000) (hn : 3001 ≤ n + st)
  (hl : f.aQ.length ≤ 1048576) (hok : ∀ e ∈ f.aQ, e.ok p funcs env.length) (fN : 0 ≤ funcs) (hf : funcs ≤ p.aI.length) (henv : ∀ s ∈ env, bN sz s) (hel : env.length ≤ 412 + st) :
  iH Tryz.prog 89 [.op nb 4 0 0, .ip 3 [f.c] 0 0, c7 env] h (bN8 h nb p sz st c f.aQ.length (lS (fun t e => iY p sz n t e env) f.aQ st)) := by
 rw [aT.aU]
 refine j4 32 aYL bHD bHE mix Tryz.func89 rfl (by kernel_rfl) (by simp) ?_
 simp -dsimp -implicitDefEqProofs only [go_sem, ↓reduceIte, Tryz.f89]
 refine ⟨Nat.zero_lt_one, ?_⟩
 refine cS (keep := aYL) (ib := bHD) (mk := bHE) mix (by kernel_rfl) (fun x : Nat × List (List Int) × Nat × Int × Option Nat => [(0, .op nb 4 0 0), (1, .ip 3 [[.str f.kE, I f.aW, eZ 5 aC.c f.aQ]] 0 0), (2, c7 env), (7, jC 1 x.2.1.length x.2.2.2.2), (8, I x.1)]) (fun x => cK (aR h nb (dX p sz x.2.2.1 x.2.2.2.1)) (.row 1 ((x.2.1.map fun s => [ints s]).map (List.map .v))) x.2.2.2.2) (fun x => x.1 ≤ f.aQ.length ∧ x.2.1.length = x.1 ∧ (∀ s ∈ x.2.1, bN sz s) ∧ st ≤ x.2.2.1 ∧ x.2.2.1 ≤ 3000 ∧ jF (oT c (lS (fun t e => iY p sz n t e env) (f.aQ.take x.1) st)) x.2.1 x.2.2.1 x.2.2.2.1 ∧ fK h x.2.1 x.2.2.2.2) (fun x => f.aQ.length - x.1) (0, [], st, c, none) ⟨by simp [cV, bZ, jC], by simp only [aO]; rw [rQ hb]; exact aB.le_refl _, Nat.zero_le _, rfl, by simp, Nat.le_refl _, hst, gO _ _ _, rfl⟩ ?_
 rintro ⟨k, vs, t, c', o⟩ ⟨hk, hvl, hvs, ht0, ht, ho, hos⟩
 simp only at hk hvl hvs ht0 ht ho hos ⊢
 rcases Nat.lt_or_ge k f.aQ.length with hlt | hge
 ·have ek : f.aQ[k]? = some f.aQ[k] := List.getElem?_eq_getElem hlt
  have hnext : ∀ (s : List Int) (t2 : Nat) (c2 : Int), jF (oT c' (iY p sz n t f.aQ[k] env)) s t2 c2 → jF (oT c (lS (fun t e => iY p sz n t e env) (f.aQ.take (k + 1)) st)) (vs ++ [s]) t2 c2 := fun s t2 c2 h3 => by
   rw [List.take_succ_eq_append_getElem hlt, vX]
   exact ho.dP (h3.dP (gO _ _ _))
  have hall : ∀ s, bN sz s → ∀ x ∈ vs ++ [s], bN sz x := fun s hs => tL hvs hs
  cases o with
  |none =>
   rw [bD] at hos
   subst hos
   simp -dsimp -implicitDefEqProofs only [go_sem, ↓reduceIte, Tryz.f89, bO, aO, hlt, ek]
   intro _
   refine aH.fG (hv.at ek (aR h nb (dX p sz t c')) nb t c' env funcs (aG _ _ _) ht (by omega) (hok _ (List.getElem_mem _)) fN hf henv (by omega)) ?_
   rintro r h' ⟨s, t2, c2, rfl, rfl, hs, h1, h2, h3⟩
   simp -dsimp -implicitDefEqProofs only [go_sem, ↓reduceIte, Tryz.f89]
   refine ⟨Nat.zero_lt_one, Nat.zero_lt_one, Nat.zero_lt_one, ?_⟩
   intro b aL
   have dC : ¬ b = nb := by first | exact aL.1 | exact aL | exact aL.2.1 | exact aL.2 | exact aL.2.2.1 | exact aL.2.2 | exact aL.2.2.2.1 | exact aL.2.2.2 | exact aL.2.2.2.2.1 | exact aL.2.2.2.2 | exact aL.2.2.2.2.2.1 | exact aL.2.2.2.2.2 | exact aL.2.2.2.2.2.2.1 | exact aL.2.2.2.2.2.2 | exact aL.2.2.2.2.2.2.2.1 | exact aL.2.2.2.2.2.2.2 | exact aL.2.2.2.2.2.2.2.2.1 | exact aL.2.2.2.2.2.2.2.2 | exact aL.2.2.2.2.2.2.2.2.2.1 | exact aL.2.2.2.2.2.2.2.2.2 | exact aL.2.2.2.2.2.2.2.2.2.2.1 | exact aL.2.2.2.2.2.2.2.2.2.2 | exact aL.2.2.2.2.2.2.2.2.2.2.2.1 | exact aL.2.2.2.2.2.2.2.2.2.2.2 | exact aL.2.2.2.2.2.2.2.2.2.2.2.2.1 | exact aL.2.2.2.2.2.2.2.2.2.2.2.2 | exact aL.2.2.2.2.2.2.2.2.2.2.2.2.2.1 | exact aL.2.2.2.2.2.2.2.2.2.2.2.2.2
   have eV : (b = nb) = False := eq_false dC
   have eW : (nb = b) = False := eq_false (Ne.symm dC)
   have jO : ¬ nb = b := Ne.symm dC
   have z_b : h b = none := by first | exact aL.1 | exact aL | exact aL.2.1 | exact aL.2 | exact aL.2.2.1 | exact aL.2.2 | exact aL.2.2.2.1 | exact aL.2.2.2 | exact aL.2.2.2.2.1 | exact aL.2.2.2.2 | exact aL.2.2.2.2.2.1 | exact aL.2.2.2.2.2 | exact aL.2.2.2.2.2.2.1 | exact aL.2.2.2.2.2.2 | exact aL.2.2.2.2.2.2.2.1 | exact aL.2.2.2.2.2.2.2 | exact aL.2.2.2.2.2.2.2.2.1 | exact aL.2.2.2.2.2.2.2.2 | exact aL.2.2.2.2.2.2.2.2.2.1 | exact aL.2.2.2.2.2.2.2.2.2 | exact aL.2.2.2.2.2.2.2.2.2.2.1 | exact aL.2.2.2.2.2.2.2.2.2.2 | exact aL.2.2.2.2.2.2.2.2.2.2.2.1 | exact aL.2.2.2.2.2.2.2.2.2.2.2 | exact aL.2.2.2.2.2.2.2.2.2.2.2.2.1 | exact aL.2.2.2.2.2.2.2.2.2.2.2.2 | exact aL.2.2.2.2.2.2.2.2.2.2.2.2.2.1 | exact aL.2.2.2.2.2.2.2.2.2.2.2.2.2
   refine ⟨(k + 1, [s], t2, c2, some b), ⟨rfl, by rw [IntWalk.i64_in _ (by omega)]; rfl⟩, (j7 (by repeat' (first | exact iM _ _ | refine j8 (by simp only [c6, ↓reduceIte, eq_self, if_true, eW, eV, List.map_cons, List.map_nil]) ?_ | refine gB (by first | exact .inr (by assumption) | exact .inl (by simp)) ?_))), ⟨by omega, by simp only [List.length_nil] at hvl; subst hvl; rfl, fun x hx => hall s hs x hx, Nat.le_trans ht0 h1, h2, hnext s t2 c2 h3, z_b⟩, by simp only; omega⟩
  |some m =>
   rw [aV] at hos
   have fU : ¬ m = nb := fun e => by rw [e, hb] at hos; cases hos
   have gC : ¬ nb = m := Ne.symm fU
   have iF : (m = nb) = False := eq_false fU
   have iG : (nb = m) = False := eq_false gC
   simp -dsimp -implicitDefEqProofs only [go_sem, ↓reduceIte, Tryz.f89, aX, aJ, hlt, ek]
   intro _
   refine aH.fG (hv.at ek (aR (aR h nb (dX p sz t c')) m (.row 1 ((vs.map fun s => [ints s]).map (List.map .v)))) nb t c' env funcs (by rw [aA _ _ _ _ gC, aG]) ht (by omega) (hok _ (List.getElem_mem _)) fN hf henv (by omega)) ?_
   rintro r h' ⟨s, t2, c2, rfl, rfl, hs, h1, h2, h3⟩
   simp -dsimp -implicitDefEqProofs only [go_sem, ↓reduceIte, Tryz.f89, aA, iF, iG]
   refine ⟨Nat.zero_lt_one, Nat.zero_lt_one, Nat.zero_lt_one, Nat.le_refl _, by omega, by omega, ?_⟩
   intro b aL
   have dC : ¬ b = nb := by first | exact aL.1 | exact aL | exact aL.2.1 | exact aL.2 | exact aL.2.2.1 | exact aL.2.2 | exact aL.2.2.2.1 | exact aL.2.2.2 | exact aL.2.2.2.2.1 | exact aL.2.2.2.2 | exact aL.2.2.2.2.2.1 | exact aL.2.2.2.2.2 | exact aL.2.2.2.2.2.2.1 | exact aL.2.2.2.2.2.2 | exact aL.2.2.2.2.2.2.2.1 | exact aL.2.2.2.2.2.2.2 | exact aL.2.2.2.2.2.2.2.2.1 | exact aL.2.2.2.2.2.2.2.2 | exact aL.2.2.2.2.2.2.2.2.2.1 | exact aL.2.2.2.2.2.2.2.2.2 | exact aL.2.2.2.2.2.2.2.2.2.2.1 | exact aL.2.2.2.2.2.2.2.2.2.2 | exact aL.2.2.2.2.2.2.2.2.2.2.2.1 | exact aL.2.2.2.2.2.2.2.2.2.2.2 | exact aL.2.2.2.2.2.2.2.2.2.2.2.2.1 | exact aL.2.2.2.2.2.2.2.2.2.2.2.2 | exact aL.2.2.2.2.2.2.2.2.2.2.2.2.2.1 | exact aL.2.2.2.2.2.2.2.2.2.2.2.2.2
   have eV : (b = nb) = False := eq_false dC
   have eW : (nb = b) = False := eq_false (Ne.symm dC)
   have jO : ¬ nb = b := Ne.symm dC
   have fJ : ¬ b = m := by first | exact aL.1 | exact aL | exact aL.2.1 | exact aL.2 | exact aL.2.2.1 | exact aL.2.2 | exact aL.2.2.2.1 | exact aL.2.2.2 | exact aL.2.2.2.2.1 | exact aL.2.2.2.2 | exact aL.2.2.2.2.2.1 | exact aL.2.2.2.2.2 | exact aL.2.2.2.2.2.2.1 | exact aL.2.2.2.2.2.2 | exact aL.2.2.2.2.2.2.2.1 | exact aL.2.2.2.2.2.2.2 | exact aL.2.2.2.2.2.2.2.2.1 | exact aL.2.2.2.2.2.2.2.2 | exact aL.2.2.2.2.2.2.2.2.2.1 | exact aL.2.2.2.2.2.2.2.2.2 | exact aL.2.2.2.2.2.2.2.2.2.2.1 | exact aL.2.2.2.2.2.2.2.2.2.2 | exact aL.2.2.2.2.2.2.2.2.2.2.2.1 | exact aL.2.2.2.2.2.2.2.2.2.2.2 | exact aL.2.2.2.2.2.2.2.2.2.2.2.2.1 | exact aL.2.2.2.2.2.2.2.2.2.2.2.2 | exact aL.2.2.2.2.2.2.2.2.2.2.2.2.2.1 | exact aL.2.2.2.2.2.2.2.2.2.2.2.2.2
   have kF : (b = m) = False := eq_false fJ
   have kG : (m = b) = False := eq_false (Ne.symm fJ)
   have lC : ¬ m = b := Ne.symm fJ
   have z_b : h b = none := by first | exact aL.1 | exact aL | exact aL.2.1 | exact aL.2 | exact aL.2.2.1 | exact aL.2.2 | exact aL.2.2.2.1 | exact aL.2.2.2 | exact aL.2.2.2.2.1 | exact aL.2.2.2.2 | exact aL.2.2.2.2.2.1 | exact aL.2.2.2.2.2 | exact aL.2.2.2.2.2.2.1 | exact aL.2.2.2.2.2.2 | exact aL.2.2.2.2.2.2.2.1 | exact aL.2.2.2.2.2.2.2 | exact aL.2.2.2.2.2.2.2.2.1 | exact aL.2.2.2.2.2.2.2.2 | exact aL.2.2.2.2.2.2.2.2.2.1 | exact aL.2.2.2.2.2.2.2.2.2 | exact aL.2.2.2.2.2.2.2.2.2.2.1 | exact aL.2.2.2.2.2.2.2.2.2.2 | exact aL.2.2.2.2.2.2.2.2.2.2.2.1 | exact aL.2.2.2.2.2.2.2.2.2.2.2 | exact aL.2.2.2.2.2.2.2.2.2.2.2.2.1 | exact aL.2.2.2.2.2.2.2.2.2.2.2.2 | exact aL.2.2.2.2.2.2.2.2.2.2.2.2.2.1 | exact aL.2.2.2.2.2.2.2.2.2.2.2.2.2
   refine ⟨(k + 1, vs ++ [s], t2, c2, some b), ⟨by rw [aX, List.length_append]; rfl, by rw [IntWalk.i64_in _ (by omega)]; rfl⟩, ?_, ⟨by omega, by rw [List.length_append, hvl]; rfl, hall s hs, Nat.le_trans ht0 h1, h2, hnext s t2 c2 h3, z_b⟩, by simp only; omega⟩
   simp only [aJ]
   rw [← fI ints]
   exact (j7 (by repeat' (first | exact iM _ _ | refine j8 (by simp only [c6, ↓reduceIte, eq_self, if_true, eW, iG, eV, kF, iF, kG]) ?_ | refine gB (by first | exact .inr (by assumption) | exact .inl (by simp)) ?_)))
 ·have hk' : k = f.aQ.length := by omega
  subst hk'
  rw [List.take_length] at ho
  cases o with
  |none =>
   rw [bD] at hos
   subst hos
   simp -dsimp -implicitDefEqProofs only [go_sem, ↓reduceIte, Tryz.f89, bO, aO, Nat.lt_irrefl, Int.lt_irrefl]
   intro _
   exact ⟨c7 [], _, Shift.of (Sub.loose _ _ _) (aB.le_refl _), [], t, c', rfl, rfl, hvl, hvs, ht0, ht, ho⟩
  |some m =>
   rw [aV] at hos
   simp -dsimp -implicitDefEqProofs only [go_sem, ↓reduceIte, Tryz.f89, aX, aJ, Nat.lt_irrefl, Int.lt_irrefl]
   intro _
   have hmn : ¬ m = nb := fun e => by rw [e, hb] at hos; cases hos
   exact ⟨c7 vs, _, zL (vs.map fun s => [ints s]) (h := aR h nb (dX p sz t c')) (by rw [aA _ _ _ _ hmn, hos]) (aB.le_refl _) _ (by rw [List.length_map]), vs, t, c', rfl, rfl, hvl, hvs, ht0, ht, ho⟩
set_option maxRecDepth 100000
open Go.Proofs
set_option linter.unusedVariables false
set_option linter.unusedSimpArgs false
@[go_sem] def aCI : List Nat := [0, 1, 2, 6, 7, 8, 9, 10, 18, 49, 67]
@[go_sem] def aO3 : List Nat := [11, 31]
@[go_sem] def aO4 : Marks := fun id => match id with | 6 => ([3], (.op 0 (.op 1 (.op 2 (.op 7 (.op 8 (.op 9 (.op 10 (.op 3 (.op 4 (.op 5 (.op 6 (.op 11 (.op 12 .nil))))))))))))), []) | 8 => ([11], (.op 0 (.op 1 (.op 2 (.op 3 (.op 4 (.op 5 (.op 6 (.op 7 (.op 8 (.op 9 (.op 10 (.op 11 (.op 12 .nil))))))))))))), []) | _ => ([], .nil, [])
theorem a2X {p : aE} (hp : p.ok) {sz n : Nat} (hv : rU p sz n) (h : aB) (nb st : Nat) (e : aC) (env : List (List Int)) (funcs : Int) (hb : h nb = some (dX p sz st 0)) (hst : st ≤ 3000) (hn : 3001 ≤ n + st) (hok : e.ok p funcs env.length) (fN : 0 ≤ funcs) (hf : funcs ≤ p.aI.length) (henv : ∀ s ∈ env, bN sz s) (hel : env.length ≤ 412 + st) (hk : e.aP = 10) :
  iH Tryz.prog 138 [.op nb 4 0 0, .ip 5 [e.c] 0 0, c7 env] h (RnQ h nb p sz st 0 ((lS (fun t e => iY p sz n t e env) e.aN st).andThen fun vs t => iY p sz n t (p.out e.bC e.cR) vs)) := by
 obtain ⟨f, F⟩ := m6 hp hok hf (.inl hk)
 have f1 := F.lo
 have f2 := F.hi
 have f3 := F.pk
 have f4 := F.pk2
 have f5 := F.kids
 have f6 := F.params
 have f8 := F.outs
 have f9 := F.loop
 have hkok := eY hok (by omega)
 rw [aC.aU]
 refine j4 81 aCI aO3 aO4 mix Tryz.func138 rfl (by kernel_rfl) (by simp) ?_
 simp -dsimp -implicitDefEqProofs only [go_sem, ↓reduceIte, Tryz.f138]
 refine ⟨Nat.zero_lt_one, ?_⟩
 refine cS (keep := aCI) (ib := aO3) (mk := aO4) mix (by kernel_rfl) (fun x : Nat × List (List Int) × Nat × Int × Option Nat => [(0, .op nb 4 0 0), (1, .ip 5 [[I e.aP, I e.bC, I e.cR, I e.cD, eZ 5 aC.c e.aN]] 0 0), (2, c7 env), (7, jC 1 x.2.1.length x.2.2.2.2), (8, I x.1)]) (fun x => cK (aR h nb (dX p sz x.2.2.1 x.2.2.2.1)) (.row 1 ((x.2.1.map fun s => [ints s]).map (List.map .v))) x.2.2.2.2) (fun x => x.1 ≤ e.aN.length ∧ x.2.1.length = x.1 ∧ (∀ s ∈ x.2.1, bN sz s) ∧ st ≤ x.2.2.1 ∧ x.2.2.1 ≤ 3000 ∧ jF (oT 0 (lS (fun t e => iY p sz n t e env) (e.aN.take x.1) st)) x.2.1 x.2.2.1 x.2.2.2.1 ∧ fK h x.2.1 x.2.2.2.2) (fun x => e.aN.length - x.1) (0, [], st, 0, none) ⟨by simp [cV, bZ, jC], by simp only [aO]; rw [rQ hb]; exact aB.le_refl _, Nat.zero_le _, rfl, by simp, Nat.le_refl _, hst, gO _ _ _, rfl⟩ ?_
 rintro ⟨k, vs, t, c', o⟩ ⟨hk2, hvl, hvs, ht0, ht, ho, hos⟩
 simp only at hk2 hvl hvs ht0 ht ho hos ⊢
 rcases Nat.lt_or_ge k e.aN.length with hlt | hge
 ·have ek : e.aN[k]? = some e.aN[k] := List.getElem?_eq_getElem hlt
  have hnext : ∀ (s : List Int) (t2 : Nat) (c2 : Int), jF (oT c' (iY p sz n t e.aN[k] env)) s t2 c2 → jF (oT 0 (lS (fun t e => iY p sz n t e env) (e.aN.take (k + 1)) st)) (vs ++ [s]) t2 c2 := fun s t2 c2 h3 => by
   rw [List.take_succ_eq_append_getElem hlt, vX]
   exact ho.dP (h3.dP (gO _ _ _))
  have hall : ∀ s, bN sz s → ∀ x ∈ vs ++ [s], bN sz x := fun s hs => tL hvs hs
  cases o with
  |none =>
   rw [bD] at hos
   subst hos
   simp -dsimp -implicitDefEqProofs only [go_sem, ↓reduceIte, Tryz.f138, bO, aO, hlt, ek]
   intro _
   refine aH.fG (hv.at ek (aR h nb (dX p sz t c')) nb t c' env funcs (aG _ _ _) ht (by omega) (hkok _ (List.getElem_mem _)) fN hf henv (by omega)) ?_
   rintro r h' ⟨s, t2, c2, rfl, rfl, hs, h1, h2, h3⟩
   simp -dsimp -implicitDefEqProofs only [go_sem, ↓reduceIte, Tryz.f138]
   refine ⟨Nat.zero_lt_one, Nat.zero_lt_one, Nat.zero_lt_one, ?_⟩
   intro b aL
   have dC : ¬ b = nb := by first | exact aL.1 | exact aL | exact aL.2.1 | exact aL.2 | exact aL.2.2.1 | exact aL.2.2 | exact aL.2.2.2.1 | exact aL.2.2.2 | exact aL.2.2.2.2.1 | exact aL.2.2.2.2 | exact aL.2.2.2.2.2.1 | exact aL.2.2.2.2.2 | exact aL.2.2.2.2.2.2.1 | exact aL.2.2.2.2.2.2 | exact aL.2.2.2.2.2.2.2.1 | exact aL.2.2.2.2.2.2.2 | exact aL.2.2.2.2.2.2.2.2.1 | exact aL.2.2.2.2.2.2.2.2 | exact aL.2.2.2.2.2.2.2.2.2.1 | exact aL.2.2.2.2.2.2.2.2.2 | exact aL.2.2.2.2.2.2.2.2.2.2.1 | exact aL.2.2.2.2.2.2.2.2.2.2 | exact aL.2.2.2.2.2.2.2.2.2.2.2.1 | exact aL.2.2.2.2.2.2.2.2.2.2.2 | exact aL.2.2.2.2.2.2.2.2.2.2.2.2.1 | exact aL.2.2.2.2.2.2.2.2.2.2.2.2 | exact aL.2.2.2.2.2.2.2.2.2.2.2.2.2.1 | exact aL.2.2.2.2.2.2.2.2.2.2.2.2.2
   have eV : (b = nb) = False := eq_false dC
   have eW : (nb = b) = False := eq_false (Ne.symm dC)
   have jO : ¬ nb = b := Ne.symm dC
   have z_b : h b = none := by first | exact aL.1 | exact aL | exact aL.2.1 | exact aL.2 | exact aL.2.2.1 | exact aL.2.2 | exact aL.2.2.2.1 | exact aL.2.2.2 | exact aL.2.2.2.2.1 | exact aL.2.2.2.2 | exact aL.2.2.2.2.2.1 | exact aL.2.2.2.2.2 | exact aL.2.2.2.2.2.2.1 | exact aL.2.2.2.2.2.2 | exact aL.2.2.2.2.2.2.2.1 | exact aL.2.2.2.2.2.2.2 | exact aL.2.2.2.2.2.2.2.2.1 | exact aL.2.2.2.2.2.2.2.2 | exact aL.2.2.2.2.2.2.2.2.2.1 | exact aL.2.2.2.2.2.2.2.2.2 | exact aL.2.2.2.2.2.2.2.2.2.2.1 | exact aL.2.2.2.2.2.2.2.2.2.2 | exact aL.2.2.2.2.2.2.2.2.2.2.2.1 | exact aL.2.2.2.2.2.2.2.2.2.2.2 | exact aL.2.2.2.2.2.2.2.2.2.2.2.2.1 | exact aL.2.2.2.2.2.2.2.2.2.2.2.2 | exact aL.2.2.2.2.2.2.2.2.2.2.2.2.2.1 | exact aL.2.2.2.2.2.2.2.2.2.2.2.2.2
   refine ⟨(k + 1, [s], t2, c2, some b), ⟨rfl, by rw [IntWalk.i64_in _ (by omega)]; rfl⟩, (j7 (by repeat' (first | exact iM _ _ | refine j8 (by simp only [c6, ↓reduceIte, eq_self, if_true, eW, eV, List.map_cons, List.map_nil]) ?_ | refine gB (by first | exact .inr (by assumption) | exact .inl (by simp)) ?_))), ⟨by omega, by simp only [List.length_nil] at hvl; subst hvl; rfl, fun x hx => hall s hs x hx, Nat.le_trans ht0 h1, h2, hnext s t2 c2 h3, z_b⟩, by simp only; omega⟩
  |some m =>
   rw [aV] at hos
   have fU : ¬ m = nb := fun e => by rw [e, hb] at hos; cases hos
   have gC : ¬ nb = m := Ne.symm fU
   have iF : (m = nb) = False := eq_false fU
   have iG : (nb = m) = False := eq_false gC
   simp -dsimp -implicitDefEqProofs only [go_sem, ↓reduceIte, Tryz.f138, aX, aJ, hlt, ek]
   intro _
   refine aH.fG (hv.at ek (aR (aR h nb (dX p sz t c')) m (.row 1 ((vs.map fun s => [ints s]).map (List.map .v)))) nb t c' env funcs (by rw [aA _ _ _ _ gC, aG]) ht (by omega) (hkok _ (List.getElem_mem _)) fN hf henv (by omega)) ?_
   rintro r h' ⟨s, t2, c2, rfl, rfl, hs, h1, h2, h3⟩
   simp -dsimp -implicitDefEqProofs only [go_sem, ↓reduceIte, Tryz.f138, aA, iF, iG]
   refine ⟨Nat.zero_lt_one, Nat.zero_lt_one, Nat.zero_lt_one, Nat.le_refl _, by omega, by omega, ?_⟩
   intro b aL
   have dC : ¬ b = nb := by first | exact aL.1 | exact aL | exact aL.2.1 | exact aL.2 | exact aL.2.2.1 | exact aL.2.2 | exact aL.2.2.2.1 | exact aL.2.2.2 | exact aL.2.2.2.2.1 | exact aL.2.2.2.2 | exact aL.2.2.2.2.2.1 | exact aL.2.2.2.2.2 | exact aL.2.2.2.2.2.2.1 | exact aL.2.2.2.2.2.2 | exact aL.2.2.2.2.2.2.2.1 | exact aL.2.2.2.2.2.2.2 | exact aL.2.2.2.2.2.2.2.2.1 | exact aL.2.2.2.2.2.2.2.2 | exact aL.2.2.2.2.2.2.2.2.2.1 | exact aL.2.2.2.2.2.2.2.2.2 | exact aL.2.2.2.2.2.2.2.2.2.2.1 | exact aL.2.2.2.2.2.2.2.2.2.2 | exact aL.2.2.2.2.2.2.2.2.2.2.2.1 | exact aL.2.2.2.2.2.2.2.2.2.2.2 | exact aL.2.2.2.2.2.2.2.2.2.2.2.2.1 | exact aL.2.2.2.2.2.2.2.2.2.2.2.2 | exact aL.2.2.2.2.2.2.2.2.2.2.2.2.2.1 | exact aL.2.2.2.2.2.2.2.2.2.2.2.2.2
   have eV : (b = nb) = False := eq_false dC
   have eW : (nb = b) = False := eq_false (Ne.symm dC)
   have jO : ¬ nb = b := Ne.symm dC
   have fJ : ¬ b = m := by first | exact aL.1 | exact aL | exact aL.2.1 | exact aL.2 | exact aL.2.2.1 | exact aL.2.2 | exact aL.2.2.2.1 | exact aL.2.2.2 | exact aL.2.2.2.2.1 | exact aL.2.2.2.2 | exact aL.2.2.2.2.2.1 | exact aL.2.2.2.2.2 | exact aL.2.2.2.2.2.2.1 | exact aL.2.2.2.2.2.2 | exact aL.2.2.2.2.2.2.2.1 | exact aL.2.2.2.2.2.2.2 | exact aL.2.2.2.2.2.2.2.2.1 | exact aL.2.2.2.2.2.2.2.2 | exact aL.2.2.2.2.2.2.2.2.2.1 | exact aL.2.2.2.2.2.2.2.2.2 | exact aL.2.2.2.2.2.2.2.2.2.2.1 | exact aL.2.2.2.2.2.2.2.2.2.2 | exact aL.2.2.2.2.2.2.2.2.2.2.2.1 | exact aL.2.2.2.2.2.2.2.2.2.2.2 | exact aL.2.2.2.2.2.2.2.2.2.2.2.2.1 | exact aL.2.2.2.2.2.2.2.2.2.2.2.2 | exact aL.2.2.2.2.2.2.2.2.2.2.2.2.2.1 | exact aL.2.2.2.2.2.2.2.2.2.2.2.2.2
   have kF : (b = m) = False := eq_false fJ
   have kG : (m = b) = False := eq_false (Ne.symm fJ)
   have lC : ¬ m = b := Ne.symm fJ
   have z_b : h b = none := by first | exact aL.1 | exact aL | exact aL.2.1 | exact aL.2 | exact aL.2.2.1 | exact aL.2.2 | exact aL.2.2.2.1 | exact aL.2.2.2 | exact aL.2.2.2.2.1 | exact aL.2.2.2.2 | exact aL.2.2.2.2.2.1 | exact aL.2.2.2.2.2 | exact aL.2.2.2.2.2.2.1 | exact aL.2.2.2.2.2.2 | exact aL.2.2.2.2.2.2.2.1 | exact aL.2.2.2.2.2.2.2 | exact aL.2.2.2.2.2.2.2.2.1 | exact aL.2.2.2.2.2.2.2.2 | exact aL.2.2.2.2.2.2.2.2.2.1 | exact aL.2.2.2.2.2.2.2.2.2 | exact aL.2.2.2.2.2.2.2.2.2.2.1 | exact aL.2.2.2.2.2.2.2.2.2.2 | exact aL.2.2.2.2.2.2.2.2.2.2.2.1 | exact aL.2.2.2.2.2.2.2.2.2.2.2 | exact aL.2.2.2.2.2.2.2.2.2.2.2.2.1 | exact aL.2.2.2.2.2.2.2.2.2.2.2.2 | exact aL.2.2.2.2.2.2.2.2.2.2.2.2.2.1 | exact aL.2.2.2.2.2.2.2.2.2.2.2.2.2
   refine ⟨(k + 1, vs ++ [s], t2, c2, some b), ⟨by rw [aX, List.length_append]; rfl, by rw [IntWalk.i64_in _ (by omega)]; rfl⟩, ?_, ⟨by omega, by rw [List.length_append, hvl]; rfl, hall s hs, Nat.le_trans ht0 h1, h2, hnext s t2 c2 h3, z_b⟩, by simp only; omega⟩
   simp only [aJ]
   rw [← fI ints]
   exact (j7 (by repeat' (first | exact iM _ _ | refine j8 (by simp only [c6, ↓reduceIte, eq_self, if_true, eW, iG, eV, kF, iF, kG]) ?_ | refine gB (by first | exact .inr (by assumption) | exact .inl (by simp)) ?_)))
 have hk' : k = e.aN.length := by omega
 subst hk'
 rw [List.take_length] at ho
 have gp : vs[e.cR.toNat]? = some (vs.getD e.cR.toNat []) ∨ e.aP = 10 := by
  by_cases h10 : e.aP = 10
  ·exact .inr h10
  ·exact .inl (iP (by have := f9 (by omega); omega))
 cases o with
 |none =>
  rw [bD] at hos
  subst hos
  simp -dsimp -implicitDefEqProofs only [go_sem, ↓reduceIte, Tryz.f138, bO, aO, Nat.lt_irrefl, Int.lt_irrefl, dX, hk, F.get, F.out, aT.aU, aE.aU]
  intro _
  refine ⟨f1, f2, f3, by omega, ?_⟩
  refine aH.fG (iH.sub (.cons (.refl _) (.cons (.refl _) (.cons (Sub.loose _ _ _) .nil))) (hv.at F.out (aR h nb (dX p sz t c')) nb t c' [] e.bC (aG _ _ _) ht (by omega) (by rw [hvl, f5]; exact F.oks _ (List.mem_of_getElem? F.out)) f1 (by omega) (by simp) (by simp))) ?_
  rintro r h' ⟨s, t2, c2, rfl, rfl, hs, b1, b2, b3⟩
  simp -dsimp -implicitDefEqProofs only [go_sem, ↓reduceIte, Tryz.f138]
  refine ⟨_, aR h nb (dX p sz t2 c2), cM (by rw [aK]; exact aB.le_refl _), s, t2, c2, rfl, rfl, hs, by omega, b2, ?_⟩
  exact ho.dP b3
 |some m =>
  rw [aV] at hos
  have fU : ¬ m = nb := fun e => by rw [e, hb] at hos; cases hos
  have gC : ¬ nb = m := Ne.symm fU
  have iF : (m = nb) = False := eq_false fU
  have iG : (nb = m) = False := eq_false gC
  simp -dsimp -implicitDefEqProofs only [go_sem, ↓reduceIte, Tryz.f138, aX, aJ, Nat.lt_irrefl, Int.lt_irrefl, dX, aA, iF, iG, hk, F.get, F.out, aT.aU, aE.aU]
  intro _
  refine ⟨f1, f2, f3, by omega, ?_⟩
  refine aH.aYG rfl rfl gC (by rw [List.length_map]) (by rw [aA _ _ _ _ fU]; exact hos) ?_
  refine iH.mono (hv.at F.out (aR (aR h nb (dX p sz t c')) m .gone) nb t c' vs e.bC (by rw [aA _ _ _ _ gC, aG]) ht (by omega) (by rw [hvl, f5]; exact F.oks _ (List.mem_of_getElem? F.out)) f1 (by omega) hvs (by omega)) ?_
  rintro r h' ⟨s, t2, c2, rfl, rfl, hs, b1, b2, b3⟩
  simp -dsimp -implicitDefEqProofs only [go_sem, ↓reduceIte, Tryz.f138]
  refine ⟨_, aR h nb (dX p sz t2 c2), cM (j7 (by repeat' (first | exact iM _ _ | refine j8 (by simp only [c6, ↓reduceIte, eq_self, if_true, iG, iF]) ?_ | refine gB (by first | exact .inr (by assumption) | exact .inl (by simp)) ?_))), s, t2, c2, rfl, rfl, hs, by omega, b2, ?_⟩
  exact ho.dP b3
theorem a2Y {p : aE} (hp : p.ok) {sz n : Nat} (hv : rU p sz n) (h : aB) (nb st : Nat) (e : aC) (env : List (List Int)) (funcs : Int) (hb : h nb = some (dX p sz st 0)) (hst : st ≤ 3000) (hn : 3001 ≤ n + st) (hok : e.ok p funcs env.length) (fN : 0 ≤ funcs) (hf : funcs ≤ p.aI.length) (henv : ∀ s ∈ env, bN sz s) (hel : env.length ≤ 412 + st) (hk : e.aP = 11) :
  iH Tryz.prog 138 [.op nb 4 0 0, .ip 5 [e.c] 0 0, c7 env] h (RnQ h nb p sz st 0 ((lS (fun t e => iY p sz n t e env) e.aN st).andThen fun vs t => (pQ (fun vs t => lS (fun t e => iY p sz n t e vs) (p.outs e.bC) t) e.cD.toNat vs t).andThen fun vs t => .ok (vs.getD e.cR.toNat [], t))) := by
 obtain ⟨f, F⟩ := m6 hp hok hf (.inr hk)
 have f1 := F.lo
 have f2 := F.hi
 have f3 := F.pk
 have f4 := F.pk2
 have f5 := F.kids
 have f6 := F.params
 have f8 := F.outs
 have f9 := F.loop
 have hkok := eY hok (by omega)
 rw [aC.aU]
 refine j4 81 aCI aO3 aO4 mix Tryz.func138 rfl (by kernel_rfl) (by simp) ?_
 simp -dsimp -implicitDefEqProofs only [go_sem, ↓reduceIte, Tryz.f138]
 refine ⟨Nat.zero_lt_one, ?_⟩
 refine cS (keep := aCI) (ib := aO3) (mk := aO4) mix (by kernel_rfl) (fun x : Nat × List (List Int) × Nat × Int × Option Nat => [(0, .op nb 4 0 0), (1, .ip 5 [[I e.aP, I e.bC, I e.cR, I e.cD, eZ 5 aC.c e.aN]] 0 0), (2, c7 env), (7, jC 1 x.2.1.length x.2.2.2.2), (8, I x.1)]) (fun x => cK (aR h nb (dX p sz x.2.2.1 x.2.2.2.1)) (.row 1 ((x.2.1.map fun s => [ints s]).map (List.map .v))) x.2.2.2.2) (fun x => x.1 ≤ e.aN.length ∧ x.2.1.length = x.1 ∧ (∀ s ∈ x.2.1, bN sz s) ∧ st ≤ x.2.2.1 ∧ x.2.2.1 ≤ 3000 ∧ jF (oT 0 (lS (fun t e => iY p sz n t e env) (e.aN.take x.1) st)) x.2.1 x.2.2.1 x.2.2.2.1 ∧ fK h x.2.1 x.2.2.2.2) (fun x => e.aN.length - x.1) (0, [], st, 0, none) ⟨by simp [cV, bZ, jC], by simp only [aO]; rw [rQ hb]; exact aB.le_refl _, Nat.zero_le _, rfl, by simp, Nat.le_refl _, hst, gO _ _ _, rfl⟩ ?_
 rintro ⟨k, vs, t, c', o⟩ ⟨hk2, hvl, hvs, ht0, ht, ho, hos⟩
 simp only at hk2 hvl hvs ht0 ht ho hos ⊢
 rcases Nat.lt_or_ge k e.aN.length with hlt | hge
 ·have ek : e.aN[k]? = some e.aN[k] := List.getElem?_eq_getElem hlt
  have hnext : ∀ (s : List Int) (t2 : Nat) (c2 : Int), jF (oT c' (iY p sz n t e.aN[k] env)) s t2 c2 → jF (oT 0 (lS (fun t e => iY p sz n t e env) (e.aN.take (k + 1)) st)) (vs ++ [s]) t2 c2 := fun s t2 c2 h3 => by
   rw [List.take_succ_eq_append_getElem hlt, vX]
   exact ho.dP (h3.dP (gO _ _ _))
  have hall : ∀ s, bN sz s → ∀ x ∈ vs ++ [s], bN sz x := fun s hs => tL hvs hs
  cases o with
  |none =>
   rw [bD] at hos
   subst hos
   simp -dsimp -implicitDefEqProofs only [go_sem, ↓reduceIte, Tryz.f138, bO, aO, hlt, ek]
   intro _
   refine aH.fG (hv.at ek (aR h nb (dX p sz t c')) nb t c' env funcs (aG _ _ _) ht (by omega) (hkok _ (List.getElem_mem _)) fN hf henv (by omega)) ?_
   rintro r h' ⟨s, t2, c2, rfl, rfl, hs, h1, h2, h3⟩
   simp -dsimp -implicitDefEqProofs only [go_sem, ↓reduceIte, Tryz.f138]
   refine ⟨Nat.zero_lt_one, Nat.zero_lt_one, Nat.zero_lt_one, ?_⟩
   intro b aL
   have dC : ¬ b = nb := by first | exact aL.1 | exact aL | exact aL.2.1 | exact aL.2 | exact aL.2.2.1 | exact aL.2.2 | exact aL.2.2.2.1 | exact aL.2.2.2 | exact aL.2.2.2.2.1 | exact aL.2.2.2.2 | exact aL.2.2.2.2.2.1 | exact aL.2.2.2.2.2 | exact aL.2.2.2.2.2.2.1 | exact aL.2.2.2.2.2.2 | exact aL.2.2.2.2.2.2.2.1 | exact aL.2.2.2.2.2.2.2 | exact aL.2.2.2.2.2.2.2.2.1 | exact aL.2.2.2.2.2.2.2.2 | exact aL.2.2.2.2.2.2.2.2.2.1 | exact aL.2.2.2.2.2.2.2.2.2 | exact aL.2.2.2.2.2.2.2.2.2.2.1 | exact aL.2.2.2.2.2.2.2.2.2.2 | exact aL.2.2.2.2.2.2.2.2.2.2.2.1 | exact aL.2.2.2.2.2.2.2.2.2.2.2 | exact aL.2.2.2.2.2.2.2.2.2.2.2.2.1 | exact aL.2.2.2.2.2.2.2.2.2.2.2.2 | exact aL.2.2.2.2.2.2.2.2.2.2.2.2.2.1 | exact aL.2.2.2.2.2.2.2.2.2.2.2.2.2
   have eV : (b = nb) = False := eq_false dC
   have eW : (nb = b) = False := eq_false (Ne.symm dC)
   have jO : ¬ nb = b := Ne.symm dC
   have z_b : h b = none := by first | exact aL.1 | exact aL | exact aL.2.1 | exact aL.2 | exact aL.2.2.1 | exact aL.2.2 | exact aL.2.2.2.1 | exact aL.2.2.2 | exact aL.2.2.2.2.1 | exact aL.2.2.2.2 | exact aL.2.2.2.2.2.1 | exact aL.2.2.2.2.2 | exact aL.2.2.2.2.2.2.1 | exact aL.2.2.2.2.2.2 | exact aL.2.2.2.2.2.2.2.1 | exact aL.2.2.2.2.2.2.2 | exact aL.2.2.2.2.2.2.2.2.1 | exact aL.2.2.2.2.2.2.2.2 | exact aL.2.2.2.2.2.2.2.2.2.1 | exact aL.2.2.2.2.2.2.2.2.2 | exact aL.2.2.2.2.2.2.2.2.2.2.1 | exact aL.2.2.2.2.2.2.2.2.2.2 | exact aL.2.2.2.2.2.2.2.2.2.2.2.1 | exact aL.2.2.2.2.2.2.2.2.2.2.2 | exact aL.2.2.2.2.2.2.2.2.2.2.2.2.1 | exact aL.2.2.2.2.2.2.2.2.2.2.2.2 | exact aL.2.2.2.2.2.2.2.2.2.2.2.2.2.1 | exact aL.2.2.2.2.2.2.2.2.2.2.2.2.2
   refine ⟨(k + 1, [s], t2, c2, some b), ⟨rfl, by rw [IntWalk.i64_in _ (by omega)]; rfl⟩, (j7 (by repeat' (first | exact iM _ _ | refine j8 (by simp only [c6, ↓reduceIte, eq_self, if_true, eW, eV, List.map_cons, List.map_nil]) ?_ | refine gB (by first | exact .inr (by assumption) | exact .inl (by simp)) ?_))), ⟨by omega, by simp only [List.length_nil] at hvl; subst hvl; rfl, fun x hx => hall s hs x hx, Nat.le_trans ht0 h1, h2, hnext s t2 c2 h3, z_b⟩, by simp only; omega⟩
  |some m =>
   rw [aV] at hos
   have fU : ¬ m = nb := fun e => by rw [e, hb] at hos; cases hos
   have gC : ¬ nb = m := Ne.symm fU
   have iF : (m = nb) = False := eq_false fU
   have iG : (nb = m) = False := eq_false gC
   simp -dsimp -implicitDefEqProofs only [go_sem, ↓reduceIte, Tryz.f138, aX, aJ, hlt, ek]
   intro _
   refine aH.fG (hv.at ek (aR (aR h nb (dX p sz t c')) m (.row 1 ((vs.map fun s => [ints s]).map (List.map .v)))) nb t c' env funcs (by rw [aA _ _ _ _ gC, aG]) ht (by omega) (hkok _ (List.getElem_mem _)) fN hf henv (by omega)) ?_
   rintro r h' ⟨s, t2, c2, rfl, rfl, hs, h1, h2, h3⟩
   simp -dsimp -implicitDefEqProofs only [go_sem, ↓reduceIte, Tryz.f138, aA, iF, iG]
   refine ⟨Nat.zero_lt_one, Nat.zero_lt_one, Nat.zero_lt_one, Nat.le_refl _, by omega, by omega, ?_⟩
   intro b aL
   have dC : ¬ b = nb := by first | exact aL.1 | exact aL | exact aL.2.1 | exact aL.2 | exact aL.2.2.1 | exact aL.2.2 | exact aL.2.2.2.1 | exact aL.2.2.2 | exact aL.2.2.2.2.1 | exact aL.2.2.2.2 | exact aL.2.2.2.2.2.1 | exact aL.2.2.2.2.2 | exact aL.2.2.2.2.2.2.1 | exact aL.2.2.2.2.2.2 | exact aL.2.2.2.2.2.2.2.1 | exact aL.2.2.2.2.2.2.2 | exact aL.2.2.2.2.2.2.2.2.1 | exact aL.2.2.2.2.2.2.2.2 | exact aL.2.2.2.2.2.2.2.2.2.1 | exact aL.2.2.2.2.2.2.2.2.2 | exact aL.2.2.2.2.2.2.2.2.2.2.1 | exact aL.2.2.2.2.2.2.2.2.2.2 | exact aL.2.2.2.2.2.2.2.2.2.2.2.1 | exact aL.2.2.2.2.2.2.2.2.2.2.2 | exact aL.2.2.2.2.2.2.2.2.2.2.2.2.1 | exact aL.2.2.2.2.2.2.2.2.2.2.2.2 | exact aL.2.2.2.2.2.2.2.2.2.2.2.2.2.1 | exact aL.2.2.2.2.2.2.2.2.2.2.2.2.2
   have eV : (b = nb) = False := eq_false dC
   have eW : (nb = b) = False := eq_false (Ne.symm dC)
   have jO : ¬ nb = b := Ne.symm dC
   have fJ : ¬ b = m := by first | exact aL.1 | exact aL | exact aL.2.1 | exact aL.2 | exact aL.2.2.1 | exact aL.2.2 | exact aL.2.2.2.1 | exact aL.2.2.2 | exact aL.2.2.2.2.1 | exact aL.2.2.2.2 | exact aL.2.2.2.2.2.1 | exact aL.2.2.2.2.2 | exact aL.2.2.2.2.2.2.1 | exact aL.2.2.2.2.2.2 | exact aL.2.2.2.2.2.2.2.1 | exact aL.2.2.2.2.2.2.2 | exact aL.2.2.2.2.2.2.2.2.1 | exact aL.2.2.2.2.2.2.2.2 | exact aL.2.2.2.2.2.2.2.2.2.1 | exact aL.2.2.2.2.2.2.2.2.2 | exact aL.2.2.2.2.2.2.2.2.2.2.1 | exact aL.2.2.2.2.2.2.2.2.2.2 | exact aL.2.2.2.2.2.2.2.2.2.2.2.1 | exact aL.2.2.2.2.2.2.2.2.2.2.2 | exact aL.2.2.2.2.2.2.2.2.2.2.2.2.1 | exact aL.2.2.2.2.2.2.2.2.2.2.2.2 | exact aL.2.2.2.2.2.2.2.2.2.2.2.2.2.1 | exact aL.2.2.2.2.2.2.2.2.2.2.2.2.2
   have kF : (b = m) = False := eq_false fJ
   have kG : (m = b) = False := eq_false (Ne.symm fJ)
   have lC : ¬ m = b := Ne.symm fJ
   have z_b : h b = none := by first | exact aL.1 | exact aL | exact aL.2.1 | exact aL.2 | exact aL.2.2.1 | exact aL.2.2 | exact aL.2.2.2.1 | exact aL.2.2.2 | exact aL.2.2.2.2.1 | exact aL.2.2.2.2 | exact aL.2.2.2.2.2.1 | exact aL.2.2.2.2.2 | exact aL.2.2.2.2.2.2.1 | exact aL.2.2.2.2.2.2 | exact aL.2.2.2.2.2.2.2.1 | exact aL.2.2.2.2.2.2.2 | exact aL.2.2.2.2.2.2.2.2.1 | exact aL.2.2.2.2.2.2.2.2 | exact aL.2.2.2.2.2.2.2.2.2.1 | exact aL.2.2.2.2.2.2.2.2.2 | exact aL.2.2.2.2.2.2.2.2.2.2.1 | exact aL.2.2.2.2.2.2.2.2.2.2 | exact aL.2.2.2.2.2.2.2.2.2.2.2.1 | exact aL.2.2.2.2.2.2.2.2.2.2.2 | exact aL.2.2.2.2.2.2.2.2.2.2.2.2.1 | exact aL.2.2.2.2.2.2.2.2.2.2.2.2 | exact aL.2.2.2.2.2.2.2.2.2.2.2.2.2.1 | exact aL.2.2.2.2.2.2.2.2.2.2.2.2.2
   refine ⟨(k + 1, vs ++ [s], t2, c2, some b), ⟨by rw [aX, List.length_append]; rfl, by rw [IntWalk.i64_in _ (by omega)]; rfl⟩, ?_, ⟨by omega, by rw [List.length_append, hvl]; rfl, hall s hs, Nat.le_trans ht0 h1, h2, hnext s t2 c2 h3, z_b⟩, by simp only; omega⟩
   simp only [aJ]
   rw [← fI ints]
   exact (j7 (by repeat' (first | exact iM _ _ | refine j8 (by simp only [c6, ↓reduceIte, eq_self, if_true, eW, iG, eV, kF, iF, kG]) ?_ | refine gB (by first | exact .inr (by assumption) | exact .inl (by simp)) ?_)))
 have hk' : k = e.aN.length := by omega
 subst hk'
 rw [List.take_length] at ho
 have gp : vs[e.cR.toNat]? = some (vs.getD e.cR.toNat []) ∨ e.aP = 10 := by
  by_cases h10 : e.aP = 10
  ·exact .inr h10
  ·exact .inl (iP (by have := f9 (by omega); omega))
 have gp' : vs[e.cR.toNat]? = some (vs.getD e.cR.toNat []) := gp.resolve_right (by omega)
 have g9 := f9 hk
 cases o with
 |none =>
  exfalso
  rw [bD] at hos
  rw [hos] at hvl
  simp at hvl
  omega
 |some m =>
  rw [aV] at hos
  have fU : ¬ m = nb := fun e => by rw [e, hb] at hos; cases hos
  have gC : ¬ nb = m := Ne.symm fU
  have iF : (m = nb) = False := eq_false fU
  have iG : (nb = m) = False := eq_false gC
  simp -dsimp -implicitDefEqProofs only [go_sem, ↓reduceIte, Tryz.f138, aX, aJ, Nat.lt_irrefl, Int.lt_irrefl, dX, aA, iF, iG, hk, F.get, F.out, aT.aU, aE.aU]
  intro _
  refine ⟨f1, f2, ?_⟩
  refine aKR.aU7 m (by rw [aA _ _ _ _ fU]; exact hos) (by simp [fY, iF, iG]) ?_
  refine cS (keep := aCI) (ib := aO3) (mk := aO4) mix (by kernel_rfl) (fun x : Nat × List (List Int) × Nat × Int => [(0, .op nb 4 0 0), (1, .ip 5 [[I 11, I e.bC, I e.cR, I e.cD, eZ 5 aC.c e.aN]] 0 0), (7, c7 x.2.1), (9, .ip 3 (p.aI.map aT.c) e.bC.toNat 0), (10, I x.1)]) (fun x => aR h nb (dX p sz x.2.2.1 x.2.2.2)) (fun x => x.1 ≤ e.cD.toNat ∧ x.2.1.length = f.aQ.length ∧ (∀ s ∈ x.2.1, bN sz s) ∧ t ≤ x.2.2.1 ∧ x.2.2.1 ≤ 3000 ∧ jF (oT c' (pQ (fun vs t => lS (fun t e => iY p sz n t e vs) (p.outs e.bC) t) x.1 vs t)) x.2.1 x.2.2.1 x.2.2.2) (fun x => e.cD.toNat - x.1) (0, vs, t, c') ⟨by simp [cV, bZ, aD.fE, iF, iG, List.take_of_length_le], (j7 (by repeat' (first | exact iM _ _ | refine j8 (by simp only [c6, ↓reduceIte, eq_self, if_true, iF, iG, dX, aE.aU]) ?_ | refine gB (by first | exact .inr (by assumption) | exact .inl (by simp)) ?_))), Nat.zero_le _, by simp only; omega, hvs, Nat.le_refl _, ht, gO _ _ _⟩ ?_
  rintro ⟨k, us, u, d⟩ ⟨hk1, hul, hus, ht1, ht2, hd⟩
  simp only at hk1 hul hus ht1 ht2 hd ⊢
  have gu : us[e.cR.toNat]? = some (us.getD e.cR.toNat []) := iP (by omega)
  simp -dsimp -implicitDefEqProofs only [go_sem, ↓reduceIte, Tryz.f138, dX, gu]
  refine ⟨fun hlt => ?_, fun hge => ?_⟩
  ·refine aH.fG (iH.sub (.cons (.refl _) (.cons (Sub.ip (by rw [List.getElem?_map, F.get]; rfl) (by simp [aT.aU])) (.cons (.refl _) .nil))) (aFS hv (aR h nb (dX p sz u d)) nb u d f us e.bC (aG _ _ _) ht2 (by omega) (by omega) (by rw [hul, g9.2.2]; exact F.oks) f1 (by omega) hus (by omega))) ?_
   rintro r h' ⟨l2, t2, c2, rfl, rfl, hl2, rC, b1, b2, b3⟩
   simp -dsimp -implicitDefEqProofs only [go_sem, ↓reduceIte, Tryz.f138]
   refine ⟨(k + 1, l2, t2, c2), ⟨rfl, by rw [IntWalk.i64_in _ (by omega)]; rfl⟩, by simp only [aK]; exact aB.le_refl _, ⟨by omega, hl2, rC, by simp only; omega, b2, ?_⟩, by simp only; omega⟩
   simp only
   rw [xA]
   refine hd.dP ?_
   rw [F.eq]
   exact b3
  ·have hke : k = e.cD.toNat := by omega
   refine ⟨f3, by omega, _, _, bI _ _, us.getD e.cR.toNat [], u, d, rfl, rfl, iV hus (by omega), by omega, ht2, ?_⟩
   refine ho.dP ?_
   rw [← hke]
   exact hd.dP (gO _ _ _)
set_option maxRecDepth 100000
open Go.Proofs
set_option linter.unusedVariables false
set_option linter.unusedSimpArgs false
theorem aVE {p : aE} {sz n : Nat} (hsz : 1 ≤ sz ∧ sz ≤ 1048576) (h : aB) (nb st : Nat) (c : Int) (e : aC) (env : List (List Int)) (hb : h nb = some (dX p sz st c)) (hst : st ≤ 3000) (hs : ¬ c = 0 ∨ st = 3000) :
  iH Tryz.prog 116 [.op nb 4 0 0, .ip 5 [e.c] 0 0, c7 env] h (RnQ h nb p sz st c (iY p sz (n + 1) st e env)) := by
 rw [aC.aU]
 have hb' := hb
 unfold dX at hb'
 refine j4 186 pA xX xY mix Tryz.func116 rfl (by kernel_rfl) (by simp) ?_
 simp -dsimp -implicitDefEqProofs only [go_sem, ↓reduceIte, Tryz.f116, hb']
 refine ⟨fun hc => ?_, fun hc => ?_⟩
 ·have hc' : ¬ c = 0 := by simpa using hc
  refine aH.fG (aTG h nb p sz st c c hb hsz.2) ?_
  rintro r h' ⟨rfl, rfl⟩
  simp -dsimp -implicitDefEqProofs only [go_sem, ↓reduceIte, Tryz.f116]
  refine ⟨_, _, bI _ _, _, st, c, rfl, by rw [if_neg hc'], eX jD, Nat.le_refl _, hst, by rw [iA _ hc']; exact eO _ _ hc'⟩
 ·have hc0 : c = 0 := by simpa using hc
  subst hc0
  have h3 : st = 3000 := by rcases hs with hs | hs; exact absurd rfl hs; exact hs
  subst h3
  try simp -dsimp -implicitDefEqProofs only [go_sem, ↓reduceIte, Tryz.f116, hb']
  refine ⟨fun _ => ?_, fun q => absurd q (by simp)⟩
  refine aH.fG (aTG h nb p sz 3000 0 7 hb hsz.2) ?_
  rintro r h' ⟨rfl, rfl⟩
  simp -dsimp -implicitDefEqProofs only [go_sem, ↓reduceIte, Tryz.f116]
  refine ⟨_, _, bI _ _, _, 3000, 7, rfl, rfl, eX jD, Nat.le_refl _, hst, ?_⟩
  rw [cU, iY, if_pos rfl]
  exact eO _ _ (by decide)
theorem a9S {p : aE} (hp : p.ok) {sz n : Nat} (hsz : 1 ≤ sz ∧ sz ≤ 1048576) (hv : rU p sz n) (h : aB) (nb st : Nat) (e : aC) (env : List (List Int)) (funcs : Int) (hb : h nb = some (dX p sz st 0)) (hst : st < 3000) (hn : 3001 ≤ n + 1 + st)
  (hok : e.ok p funcs env.length) (fN : 0 ≤ funcs) (hf : funcs ≤ p.aI.length) (henv : ∀ s ∈ env, bN sz s) (hel : env.length ≤ 412 + st) (hk : e.aP = 1) :
  iH Tryz.prog 116 [.op nb 4 0 0, .ip 5 [e.c] 0 0, c7 env] h (RnQ h nb p sz st 0 (iY p sz (n + 1) st e env)) := by
 have hb' := hb
 unfold dX at hb'
 have e3 : ((st : Int) = 3000) = False := eq_false (by omega)
 have ew : IntKind.i64.wrap ((st : Int) + 1) = ((st + 1 : Nat) : Int) := by rw [IntWalk.i64_in _ (by omega)]; rfl
 have hnode := (aC.dB _ _ _ _).1 hok
 have h3 : ¬ st = 3000 := by omega
 have hnum : jA e.bC := ((dO (by omega)).1 hnode.1).2.2.2.1 hk
 rw [aC.aU]
 refine j4 186 pA xX xY mix Tryz.func116 rfl (by kernel_rfl) (by simp) ?_
 simp -dsimp -implicitDefEqProofs only [go_sem, ↓reduceIte, Tryz.f116, hb', e3, ew, hk]
 first | refine aH.mk (mM e.bC sz hsz.2) ?_ | refine aF.mk (mM e.bC sz hsz.2) ?_ | refine aH.bS (mM e.bC sz hsz.2) ?_ | refine aF.mk (bM.eQ (mM e.bC sz hsz.2)) ?_
 simp -dsimp -implicitDefEqProofs only [go_sem, ↓reduceIte, Tryz.f116]
 refine ⟨_, _, bI _ _, _, st + 1, 0, rfl, rfl, eX hnum, Nat.le_succ _, hst, ?_⟩
 rw [cU, aO0 h3 hk]
 exact lB _ _
theorem a9T {p : aE} (hp : p.ok) {sz n : Nat} (hsz : 1 ≤ sz ∧ sz ≤ 1048576) (hv : rU p sz n) (h : aB) (nb st : Nat) (e : aC) (env : List (List Int)) (funcs : Int) (hb : h nb = some (dX p sz st 0)) (hst : st < 3000) (hn : 3001 ≤ n + 1 + st)
  (hok : e.ok p funcs env.length) (fN : 0 ≤ funcs) (hf : funcs ≤ p.aI.length) (henv : ∀ s ∈ env, bN sz s) (hel : env.length ≤ 412 + st) (hk : e.aP = 2) :
  iH Tryz.prog 116 [.op nb 4 0 0, .ip 5 [e.c] 0 0, c7 env] h (RnQ h nb p sz st 0 (iY p sz (n + 1) st e env)) := by
 have hb' := hb
 unfold dX at hb'
 have e3 : ((st : Int) = 3000) = False := eq_false (by omega)
 have ew : IntKind.i64.wrap ((st : Int) + 1) = ((st + 1 : Nat) : Int) := by rw [IntWalk.i64_in _ (by omega)]; rfl
 have hnode := (aC.dB _ _ _ _).1 hok
 have h3 : ¬ st = 3000 := by omega
 have hnum := ((dO (by omega)).1 hnode.1).2.2.2.2.1 hk
 have hlt : e.bC.toNat < env.length := by omega
 rw [aC.aU]
 refine j4 186 pA xX xY mix Tryz.func116 rfl (by kernel_rfl) (by simp) ?_
 simp -dsimp -implicitDefEqProofs only [go_sem, ↓reduceIte, Tryz.f116, hb', e3, ew, hk, iP hlt]
 refine ⟨hnum.1, by omega, _, _, bI _ _, _, st + 1, 0, rfl, rfl, iV henv hlt, Nat.le_succ _, hst, ?_⟩
 rw [cU, aO1 h3 hk]
 exact lB _ _
theorem a9U {p : aE} (hp : p.ok) {sz n : Nat} (hsz : 1 ≤ sz ∧ sz ≤ 1048576) (hv : rU p sz n) (h : aB) (nb st : Nat) (e : aC) (env : List (List Int)) (funcs : Int) (hb : h nb = some (dX p sz st 0)) (hst : st < 3000) (hn : 3001 ≤ n + 1 + st)
  (hok : e.ok p funcs env.length) (fN : 0 ≤ funcs) (hf : funcs ≤ p.aI.length) (henv : ∀ s ∈ env, bN sz s) (hel : env.length ≤ 412 + st) (hk : e.aP = 8) :
  iH Tryz.prog 116 [.op nb 4 0 0, .ip 5 [e.c] 0 0, c7 env] h (RnQ h nb p sz st 0 (iY p sz (n + 1) st e env)) := by
 have hb' := hb
 unfold dX at hb'
 have e3 : ((st : Int) = 3000) = False := eq_false (by omega)
 have ew : IntKind.i64.wrap ((st : Int) + 1) = ((st + 1 : Nat) : Int) := by rw [IntWalk.i64_in _ (by omega)]; rfl
 have hnode := (aC.dB _ _ _ _).1 hok
 have h3 : ¬ st = 3000 := by omega
 have hlen := dT hok (by omega)
 rw [hk, show dR 8 = 3 from rfl] at hlen
 have g0 : e.aN[Int.toNat 0]? = some (e.nN 0) := aC.gR (by omega)
 have g1 : e.aN[Int.toNat 1]? = some (e.nN 1) := aC.gR (by omega)
 have g2 : e.aN[Int.toNat 2]? = some (e.nN 2) := aC.gR (by omega)
 have o0 := aC.eP hok (i := 0) (by omega)
 have o1 := aC.eP hok (i := 1) (by omega)
 have o2 := aC.eP hok (i := 2) (by omega)
 rw [hJ (by omega)] at o0 o1 o2
 rw [aC.aU]
 refine j4 186 pA xX xY mix Tryz.func116 rfl (by kernel_rfl) (by simp) ?_
 simp -dsimp -implicitDefEqProofs only [go_sem, ↓reduceIte, Tryz.f116, hb', e3, ew, hk, g0]
 refine ⟨by omega, ?_⟩
 refine aH.fG (hv.at g0 (aR h nb (dX p sz (st + 1) 0)) nb (st + 1) 0 env funcs (aG _ _ _) (by omega) (by omega) o0 fN hf henv (by omega)) ?_
 rintro r h' ⟨s1, t1, c1, rfl, rfl, mY, a1, a2, a3⟩
 have gs : s1[Int.toNat 0]? = some (s1.getD 0 0) := dS (by rw [mY.1]; omega)
 simp -dsimp -implicitDefEqProofs only [go_sem, ↓reduceIte, Tryz.f116, gs, g1, g2]
 refine ⟨by rw [mY.1]; omega, fun hz => ⟨by omega, ?_⟩, fun hz => ⟨by omega, ?_⟩⟩
 ·rw [aK]
  refine aH.fG (hv.at g1 (aR h nb (dX p sz t1 c1)) nb t1 c1 env funcs (aG _ _ _) (by omega) (by omega) o1 fN hf henv (by omega)) ?_
  rintro r h' ⟨s2, t2, c2, rfl, rfl, rC, b1, b2, b3⟩
  simp -dsimp -implicitDefEqProofs only [go_sem, ↓reduceIte, Tryz.f116]
  refine ⟨_, _, bI _ _, s2, t2, c2, rfl, by rw [aK], rC, by omega, b2, ?_⟩
  rw [aHM h3 hk]
  refine a3.dP ?_
  rw [if_pos hz]
  exact b3
 ·rw [aK]
  refine aH.fG (hv.at g2 (aR h nb (dX p sz t1 c1)) nb t1 c1 env funcs (aG _ _ _) (by omega) (by omega) o2 fN hf henv (by omega)) ?_
  rintro r h' ⟨s2, t2, c2, rfl, rfl, rC, b1, b2, b3⟩
  simp -dsimp -implicitDefEqProofs only [go_sem, ↓reduceIte, Tryz.f116]
  refine ⟨_, _, bI _ _, s2, t2, c2, rfl, by rw [aK], rC, by omega, b2, ?_⟩
  rw [aHM h3 hk]
  refine a3.dP ?_
  rw [if_neg hz]
  exact b3
theorem a9V {p : aE} (hp : p.ok) {sz n : Nat} (hsz : 1 ≤ sz ∧ sz ≤ 1048576) (hv : rU p sz n) (h : aB) (nb st : Nat) (e : aC) (env : List (List Int)) (funcs : Int) (hb : h nb = some (dX p sz st 0)) (hst : st < 3000) (hn : 3001 ≤ n + 1 + st)
  (hok : e.ok p funcs env.length) (fN : 0 ≤ funcs) (hf : funcs ≤ p.aI.length) (henv : ∀ s ∈ env, bN sz s) (hel : env.length ≤ 412 + st) (hk : e.aP = 9) :
  iH Tryz.prog 116 [.op nb 4 0 0, .ip 5 [e.c] 0 0, c7 env] h (RnQ h nb p sz st 0 (iY p sz (n + 1) st e env)) := by
 have hb' := hb
 unfold dX at hb'
 have e3 : ((st : Int) = 3000) = False := eq_false (by omega)
 have ew : IntKind.i64.wrap ((st : Int) + 1) = ((st + 1 : Nat) : Int) := by rw [IntWalk.i64_in _ (by omega)]; rfl
 have hnode := (aC.dB _ _ _ _).1 hok
 have h3 : ¬ st = 3000 := by omega
 have hlen := dT hok (by omega)
 rw [hk, show dR 9 = 2 from rfl] at hlen
 have g0 : e.aN[Int.toNat 0]? = some (e.nN 0) := aC.gR (by omega)
 have g1 : e.aN[Int.toNat 1]? = some (e.nN 1) := aC.gR (by omega)
 have o0 := aC.eP hok (i := 0) (by omega)
 have o1 := aC.eP hok (i := 1) (by omega)
 rw [hJ (by omega)] at o0
 rw [hk, show iX 9 1 (env.length : Int) = env.length + 1 from rfl] at o1
 rw [aC.aU]
 refine j4 186 pA xX xY mix Tryz.func116 rfl (by kernel_rfl) (by simp) ?_
 simp -dsimp -implicitDefEqProofs only [go_sem, ↓reduceIte, Tryz.f116, hb', e3, ew, hk, g0, g1]
 refine ⟨by omega, ?_⟩
 refine aH.fG (hv.at g0 (aR h nb (dX p sz (st + 1) 0)) nb (st + 1) 0 env funcs (aG _ _ _) (by omega) (by omega) o0 fN hf henv (by omega)) ?_
 rintro r h' ⟨s1, t1, c1, rfl, rfl, mY, a1, a2, a3⟩
 simp -dsimp -implicitDefEqProofs only [go_sem, ↓reduceIte, Tryz.f116, g0, g1]
 refine ⟨by omega, ?_⟩
 first | refine aH.mk (aLN env s1 (by omega)) ?_ | refine aF.mk (aLN env s1 (by omega)) ?_ | refine aH.bS (aLN env s1 (by omega)) ?_ | refine aF.mk (bM.eQ (aLN env s1 (by omega))) ?_
 simp -dsimp -implicitDefEqProofs only [go_sem, ↓reduceIte, Tryz.f116]
 rw [aK]
 refine aH.fG (hv.at g1 (aR h nb (dX p sz t1 c1)) nb t1 c1 (env ++ [s1]) funcs (aG _ _ _) (by omega) (by omega) (by rw [List.length_append]; exact o1) fN hf (tL henv mY) (by rw [List.length_append]; show env.length + 1 ≤ _; omega)) ?_
 rintro r h' ⟨s2, t2, c2, rfl, rfl, rC, b1, b2, b3⟩
 simp -dsimp -implicitDefEqProofs only [go_sem, ↓reduceIte, Tryz.f116]
 refine ⟨_, aR h nb (dX p sz t2 c2), cM (by rw [aK]; exact aB.le_refl _), s2, t2, c2, rfl, rfl, rC, by omega, b2, ?_⟩
 rw [aO2 h3 hk]
 exact a3.dP b3
theorem a2Z {p : aE} (hp : p.ok) {sz n : Nat} (hsz : 1 ≤ sz ∧ sz ≤ 1048576) (hv : rU p sz n) (h : aB) (nb st : Nat) (e : aC) (env : List (List Int)) (funcs : Int) (hb : h nb = some (dX p sz st 0)) (hst : st < 3000) (hn : 3001 ≤ n + 1 + st)
  (hok : e.ok p funcs env.length) (fN : 0 ≤ funcs) (hf : funcs ≤ p.aI.length) (henv : ∀ s ∈ env, bN sz s) (hel : env.length ≤ 412 + st) (hk : e.aP = 10) :
  iH Tryz.prog 116 [.op nb 4 0 0, .ip 5 [e.c] 0 0, c7 env] h (RnQ h nb p sz st 0 (iY p sz (n + 1) st e env)) := by
 have hb' := hb
 unfold dX at hb'
 have e3 : ((st : Int) = 3000) = False := eq_false (by omega)
 have ew : IntKind.i64.wrap ((st : Int) + 1) = ((st + 1 : Nat) : Int) := by rw [IntWalk.i64_in _ (by omega)]; rfl
 have hnode := (aC.dB _ _ _ _).1 hok
 have h3 : ¬ st = 3000 := by omega
 have hcl := a2X hp hv (aR h nb (dX p sz (st + 1) 0)) nb (st + 1) e env funcs (aG _ _ _) (by omega) (by omega) hok fN hf henv (by omega) hk
 rw [aC.aU, hk] at hcl
 rw [aC.aU]
 refine j4 186 pA xX xY mix Tryz.func116 rfl (by kernel_rfl) (by simp) ?_
 simp -dsimp -implicitDefEqProofs only [go_sem, ↓reduceIte, Tryz.f116, hb', e3, ew, hk]
 refine aH.fG hcl ?_
 rintro r h' ⟨s2, t2, c2, rfl, rfl, rC, b1, b2, b3⟩
 simp -dsimp -implicitDefEqProofs only [go_sem, ↓reduceIte, Tryz.f116]
 refine ⟨_, aR h nb (dX p sz t2 c2), cM (by rw [aK]; exact aB.le_refl _), s2, t2, c2, rfl, rfl, rC, by omega, b2, ?_⟩
 rw [aD1 h3 hk]
 exact b3
theorem a21 {p : aE} (hp : p.ok) {sz n : Nat} (hsz : 1 ≤ sz ∧ sz ≤ 1048576) (hv : rU p sz n) (h : aB) (nb st : Nat) (e : aC) (env : List (List Int)) (funcs : Int) (hb : h nb = some (dX p sz st 0)) (hst : st < 3000) (hn : 3001 ≤ n + 1 + st)
  (hok : e.ok p funcs env.length) (fN : 0 ≤ funcs) (hf : funcs ≤ p.aI.length) (henv : ∀ s ∈ env, bN sz s) (hel : env.length ≤ 412 + st) (hk : e.aP = 11) :
  iH Tryz.prog 116 [.op nb 4 0 0, .ip 5 [e.c] 0 0, c7 env] h (RnQ h nb p sz st 0 (iY p sz (n + 1) st e env)) := by
 have hb' := hb
 unfold dX at hb'
 have e3 : ((st : Int) = 3000) = False := eq_false (by omega)
 have ew : IntKind.i64.wrap ((st : Int) + 1) = ((st + 1 : Nat) : Int) := by rw [IntWalk.i64_in _ (by omega)]; rfl
 have hnode := (aC.dB _ _ _ _).1 hok
 have h3 : ¬ st = 3000 := by omega
 have hcl := a2Y hp hv (aR h nb (dX p sz (st + 1) 0)) nb (st + 1) e env funcs (aG _ _ _) (by omega) (by omega) hok fN hf henv (by omega) hk
 rw [aC.aU, hk] at hcl
 rw [aC.aU]
 refine j4 186 pA xX xY mix Tryz.func116 rfl (by kernel_rfl) (by simp) ?_
 simp -dsimp -implicitDefEqProofs only [go_sem, ↓reduceIte, Tryz.f116, hb', e3, ew, hk]
 refine aH.fG hcl ?_
 rintro r h' ⟨s2, t2, c2, rfl, rfl, rC, b1, b2, b3⟩
 simp -dsimp -implicitDefEqProofs only [go_sem, ↓reduceIte, Tryz.f116]
 refine ⟨_, aR h nb (dX p sz t2 c2), cM (by rw [aK]; exact aB.le_refl _), s2, t2, c2, rfl, rfl, rC, by omega, b2, ?_⟩
 rw [aD2 h3 hk]
 exact b3
end Go.Hl

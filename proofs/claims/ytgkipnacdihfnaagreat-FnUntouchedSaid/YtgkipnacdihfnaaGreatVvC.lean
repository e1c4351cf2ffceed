/-
  Contracts of functions and laws of the layer over the walk.
-/
import Derived.Test.YtgkipnacdihfnaaGreatVvB
namespace Go.Hl
set_option maxRecDepth 100000
open Go.Proofs
set_option linter.unusedVariables false
set_option linter.unusedSimpArgs false
theorem a8B (m : Nat) (es : List (List aD)) (x : aB) : lM m es x.c = x.c := by rw [aB.aR]; rfl
theorem aXO (m sz k : Nat) (x : aB) : gB m sz k x.c = true := by rw [aB.aR]; rfl
theorem aKE.aWN {P : Program} {N : Nat} {c : Code} {Q : Exit → bN → aA → Prop} {τ : bN} {h : aA} {t : Tag (c, Q)} (n : Nat) {es : List (List aD)} (hh : h n = none) (hb : τ.all (fun p => gA n 1 es.length p.2) = true)
  (x : aKE P N c Q (τ.map fun p => (p.1, p.2.fK n es)) (aT h n .gone) ()) : aKE P N c Q τ (aT h n (.row 1 (es.map (List.map .v)))) t := by
 have y := o9.rH (c := c) (Q := Q) (τ := τ) (N := N) (P := P) (h := aT h n (.row 1 (es.map (List.map .v)))) n (sz := 1) (es := es.map (List.map .v)) (aG _ _ _) (by simpa using hb)
 rw [aM, nH] at y
 exact y x
theorem aH.aEP {P : Program} {f : FuncId} {h : aA} {K : aD → aA → Prop} {t : Tag K} {nb m k len : Nat} {x : aD} {es : List (List aD)} (hx : x.fK m es = x) (hx2 : gA m 1 es.length x = true) (hne : ¬ nb = m) (hl : len = es.length) (hm : h m = none) (a : fF P f [.op nb k 0 0, x, .sl 1 es false] (aT h m .gone) K) :
  aH P f [.op nb k 0 0, x, .os m 1 0 len] (aT h m (.row 1 (es.map (List.map .v)))) K t := by
 subst hl
 refine aH.aWN m (aG _ _ _) (by simp [gB, gA, hx2, hne]) ?_
 rw [aM, nH]
 have h1 : lM m es [.op nb k 0 0, x, .os m 1 0 es.length] = [.op nb k 0 0, x, .sl 1 es false] := by
  simp only [lM, aD.fK, hx, if_neg hne, if_true, List.drop_zero, List.take_length]
 rw [h1]
 exact a
theorem aH.aSM {P : Program} {f : FuncId} {h : aA} {K : aD → aA → Prop} {t : Tag K} {nb m k len : Nat} {e : aB} {es : List (List aD)} (hne : ¬ nb = m) (hl : len = es.length) (hm : h m = none) (a : fF P f [.op nb k 0 0, .agg e.c, .sl 1 es false] (aT h m .gone) K) :
  aH P f [.op nb k 0 0, .agg e.c, .os m 1 0 len] (aT h m (.row 1 (es.map (List.map .v)))) K t := by
 subst hl
 refine aH.aWN m (aG _ _ _) (by simp [gB, gA, aXO, hne]) ?_
 rw [aM, nH]
 have h1 : lM m es [.op nb k 0 0, .agg e.c, .os m 1 0 es.length] = [.op nb k 0 0, .agg e.c, .sl 1 es false] := by
  simp only [lM, aD.fK, a8B, if_neg hne, if_true, List.drop_zero, List.take_length]
 rw [h1]
 exact a
theorem tE {sz : Nat} {env : List (List Int)} {s : List Int} (he : ∀ x ∈ env, cV sz x) (hs : cV sz s) : ∀ x ∈ env ++ [s], cV sz x := fun x hx => by
 rcases List.mem_append.1 hx with hx | hx
 ·exact he x hx
 ·rw [List.mem_singleton.1 hx]; exact hs
@[go_sem] def a1C : List Nat := [0, 2]
@[go_sem] def bEY : List Nat := []
@[go_sem] def bEZ : Marks := fun _ => ([], .nil, [])
theorem aK7 (l : List (List Int)) (hl : l.length ≤ 1048576) : gV Tryz.prog 148 [fE l] (.sl 1 (l.map fun s => [ints s]) true) := by
 refine gD 9 a1C bEY bEZ mix Tryz.func148 rfl (by kernel_rfl) (by simp) fun h => ?_
 simp -dsimp -implicitDefEqProofs only [go_sem, ↓reduceIte, Tryz.f148]
 repeat' (with_reducible first | intro _ | refine And.intro ?_ ?_)
 all_goals try omega
 rw [List.take_of_length_le (by rw [List.length_map]; exact Nat.le_refl _)]
theorem jT : kI 0 := by unfold kI; simp
theorem aQN {p : aE} {sz n : Nat} (hsz : 1 ≤ sz ∧ sz ≤ 1048576) (h : aA) (nb st : Nat) (c : Int) (e : aB) (env : List (List Int)) (hb : h nb = some (dO p sz st c)) (hst : st ≤ 3000) (hs : ¬ c = 0 ∨ st = 3000) :
  fF Tryz.prog 118 [.op nb 4 0 0, .agg e.c, fE env] h (EvQ h nb p sz st c (iU p sz (n + 1) st e env)) := by
 rw [aB.aR]
 have hb' := hb
 unfold dO at hb'
 refine gK 210 nO vM vN mix Tryz.func118 rfl (by kernel_rfl) (by simp) ?_
 simp -dsimp -implicitDefEqProofs only [go_sem, ↓reduceIte, Tryz.f118, hb']
 refine ⟨fun hc => ?_, fun hc => ?_⟩
 ·refine aH.eM (lQ _ nb _ _ _ 0 sz hb' hsz) ?_
  rintro r h' ⟨rfl, rfl⟩
  simp -dsimp -implicitDefEqProofs only [go_sem, ↓reduceIte, Tryz.f118]
  have hc' : ¬ c = 0 := by simpa using hc
  exact ⟨_, _, bD _ _, _, st, c, rfl, (qX hb).symm, e7 jT, Nat.le_refl _, hst, by rw [iG _ hc']; exact eX _ _ hc'⟩
 ·have hc0 : c = 0 := by simpa using hc
  subst hc0
  have h3 : st = 3000 := by rcases hs with hs | hs; exact absurd rfl hs; exact hs
  subst h3
  try simp -dsimp -implicitDefEqProofs only [go_sem, ↓reduceIte, Tryz.f118, hb']
  refine ⟨fun _ => ?_, fun q => absurd q (by simp)⟩
  refine aH.eM (lQ _ nb _ _ _ 0 sz (aG _ _ _) hsz) ?_
  rintro r h' ⟨rfl, rfl⟩
  simp -dsimp -implicitDefEqProofs only [go_sem, ↓reduceIte, Tryz.f118]
  refine ⟨_, _, bD _ _, _, 3000, 7, rfl, rfl, e7 jT, Nat.le_refl _, hst, ?_⟩
  rw [dC, iU, if_pos rfl]
  exact eX _ _ (by decide)
theorem a1D {p : aE} (hp : p.ok) {sz n : Nat} (hsz : 1 ≤ sz ∧ sz ≤ 1048576) (hv : nP p sz n) (h : aA) (nb st : Nat) (e : aB) (env : List (List Int)) (funcs : Int) (hb : h nb = some (dO p sz st 0)) (hst : st < 3000) (hn : 3001 ≤ n + 1 + st)
  (hok : e.ok p funcs env.length) (eH : 0 ≤ funcs) (hf : funcs ≤ p.aI.length) (henv : ∀ s ∈ env, cV sz s) (hel : env.length ≤ 412 + st) (hk : e.aO = 1) :
  fF Tryz.prog 118 [.op nb 4 0 0, .agg e.c, fE env] h (EvQ h nb p sz st 0 (iU p sz (n + 1) st e env)) := by
 rw [aB.aR]
 have hb' := hb
 unfold dO at hb'
 have e3 : ((st : Int) = 3000) = False := eq_false (by omega)
 have ew : IntKind.i64.wrap ((st : Int) + 1) = ((st + 1 : Nat) : Int) := by rw [IntWalk.i64_in _ (by omega)]; rfl
 have hnode := (aB.cR _ _ _ _).1 hok
 have h3 : ¬ st = 3000 := by omega
 have hnum : kI e.aX := ((dQ (by omega)).1 hnode.1).2.2.2.1 hk
 refine gK 210 nO vM vN mix Tryz.func118 rfl (by kernel_rfl) (by simp) ?_
 simp -dsimp -implicitDefEqProofs only [go_sem, ↓reduceIte, Tryz.f118, hb', e3, ew, hk]
 refine aH.eM (lQ _ nb _ _ _ e.aX sz (aG _ _ _) hsz) ?_
 rintro r h' ⟨rfl, rfl⟩
 simp -dsimp -implicitDefEqProofs only [go_sem, ↓reduceIte, Tryz.f118]
 refine ⟨_, _, bD _ _, _, st + 1, 0, rfl, rfl, e7 hnum, Nat.le_succ _, hst, ?_⟩
 rw [dC, aOP h3 hk]
 exact kR _ _
theorem a1E {p : aE} (hp : p.ok) {sz n : Nat} (hsz : 1 ≤ sz ∧ sz ≤ 1048576) (hv : nP p sz n) (h : aA) (nb st : Nat) (e : aB) (env : List (List Int)) (funcs : Int) (hb : h nb = some (dO p sz st 0)) (hst : st < 3000) (hn : 3001 ≤ n + 1 + st)
  (hok : e.ok p funcs env.length) (eH : 0 ≤ funcs) (hf : funcs ≤ p.aI.length) (henv : ∀ s ∈ env, cV sz s) (hel : env.length ≤ 412 + st) (hk : e.aO = 2) :
  fF Tryz.prog 118 [.op nb 4 0 0, .agg e.c, fE env] h (EvQ h nb p sz st 0 (iU p sz (n + 1) st e env)) := by
 rw [aB.aR]
 have hb' := hb
 unfold dO at hb'
 have e3 : ((st : Int) = 3000) = False := eq_false (by omega)
 have ew : IntKind.i64.wrap ((st : Int) + 1) = ((st + 1 : Nat) : Int) := by rw [IntWalk.i64_in _ (by omega)]; rfl
 have hnode := (aB.cR _ _ _ _).1 hok
 have h3 : ¬ st = 3000 := by omega
 have hnum := ((dQ (by omega)).1 hnode.1).2.2.2.2.1 hk
 have hlt : e.aX.toNat < env.length := by omega
 refine gK 210 nO vM vN mix Tryz.func118 rfl (by kernel_rfl) (by simp) ?_
 simp -dsimp -implicitDefEqProofs only [go_sem, ↓reduceIte, Tryz.f118, hb', e3, ew, hk, kS hlt]
 refine ⟨hnum.1, by omega, _, _, bD _ _, _, st + 1, 0, rfl, rfl, iS henv hlt, Nat.le_succ _, hst, ?_⟩
 rw [dC, aOQ h3 hk]
 exact kR _ _
theorem a1F {p : aE} (hp : p.ok) {sz n : Nat} (hsz : 1 ≤ sz ∧ sz ≤ 1048576) (hv : nP p sz n) (h : aA) (nb st : Nat) (e : aB) (env : List (List Int)) (funcs : Int) (hb : h nb = some (dO p sz st 0)) (hst : st < 3000) (hn : 3001 ≤ n + 1 + st)
  (hok : e.ok p funcs env.length) (eH : 0 ≤ funcs) (hf : funcs ≤ p.aI.length) (henv : ∀ s ∈ env, cV sz s) (hel : env.length ≤ 412 + st) (hk : e.aO = 8) :
  fF Tryz.prog 118 [.op nb 4 0 0, .agg e.c, fE env] h (EvQ h nb p sz st 0 (iU p sz (n + 1) st e env)) := by
 rw [aB.aR]
 have hb' := hb
 unfold dO at hb'
 have e3 : ((st : Int) = 3000) = False := eq_false (by omega)
 have ew : IntKind.i64.wrap ((st : Int) + 1) = ((st + 1 : Nat) : Int) := by rw [IntWalk.i64_in _ (by omega)]; rfl
 have hnode := (aB.cR _ _ _ _).1 hok
 have h3 : ¬ st = 3000 := by omega
 have hlen := dB hok (by omega)
 rw [hk, show dN 8 = 3 from rfl] at hlen
 have g0 : e.aK[Int.toNat 0]? = some (e.mJ 0) := aB.gE (by omega)
 have g1 : e.aK[Int.toNat 1]? = some (e.mJ 1) := aB.gE (by omega)
 have g2 : e.aK[Int.toNat 2]? = some (e.mJ 2) := aB.gE (by omega)
 have o0 := aB.eP hok (i := 0) (by omega)
 have o1 := aB.eP hok (i := 1) (by omega)
 have o2 := aB.eP hok (i := 2) (by omega)
 rw [gT (by omega)] at o0 o1 o2
 refine gK 210 nO vM vN mix Tryz.func118 rfl (by kernel_rfl) (by simp) ?_
 simp -dsimp -implicitDefEqProofs only [go_sem, ↓reduceIte, Tryz.f118, hb', e3, ew, hk, g0, aB.ld5]
 refine ⟨by omega, ?_⟩
 refine aH.eM (hv (aT h nb (dO p sz (st + 1) 0)) nb (st + 1) 0 (e.mJ 0) env funcs (aG _ _ _) (by omega) (by omega) o0 eH hf henv (by omega)) ?_
 rintro r h' ⟨s1, t1, c1, rfl, rfl, kM, a1, a2, a3⟩
 have gs : s1[Int.toNat 0]? = some (s1.getD 0 0) := cX (by rw [kM.1]; omega)
 simp -dsimp -implicitDefEqProofs only [go_sem, ↓reduceIte, Tryz.f118, gs, g1, g2, aB.ld5]
 refine ⟨by rw [kM.1]; omega, fun hz => ⟨by omega, ?_⟩, fun hz => ⟨by omega, ?_⟩⟩
 ·rw [aM]
  refine aH.eM (hv (aT h nb (dO p sz t1 c1)) nb t1 c1 (e.mJ 1) env funcs (aG _ _ _) (by omega) (by omega) o1 eH hf henv (by omega)) ?_
  rintro r h' ⟨s2, t2, c2, rfl, rfl, oI, b1, b2, b3⟩
  simp -dsimp -implicitDefEqProofs only [go_sem, ↓reduceIte, Tryz.f118]
  refine ⟨_, _, bD _ _, s2, t2, c2, rfl, by rw [aM], oI, by omega, b2, ?_⟩
  rw [aG6 h3 hk]
  refine a3.dY ?_
  rw [if_pos hz]
  exact b3
 ·rw [aM]
  refine aH.eM (hv (aT h nb (dO p sz t1 c1)) nb t1 c1 (e.mJ 2) env funcs (aG _ _ _) (by omega) (by omega) o2 eH hf henv (by omega)) ?_
  rintro r h' ⟨s2, t2, c2, rfl, rfl, oI, b1, b2, b3⟩
  simp -dsimp -implicitDefEqProofs only [go_sem, ↓reduceIte, Tryz.f118]
  refine ⟨_, _, bD _ _, s2, t2, c2, rfl, by rw [aM], oI, by omega, b2, ?_⟩
  rw [aG6 h3 hk]
  refine a3.dY ?_
  rw [if_neg hz]
  exact b3
theorem a1G {p : aE} (hp : p.ok) {sz n : Nat} (hsz : 1 ≤ sz ∧ sz ≤ 1048576) (hv : nP p sz n) (h : aA) (nb st : Nat) (e : aB) (env : List (List Int)) (funcs : Int) (hb : h nb = some (dO p sz st 0)) (hst : st < 3000) (hn : 3001 ≤ n + 1 + st)
  (hok : e.ok p funcs env.length) (eH : 0 ≤ funcs) (hf : funcs ≤ p.aI.length) (henv : ∀ s ∈ env, cV sz s) (hel : env.length ≤ 412 + st) (hk : e.aO = 9) :
  fF Tryz.prog 118 [.op nb 4 0 0, .agg e.c, fE env] h (EvQ h nb p sz st 0 (iU p sz (n + 1) st e env)) := by
 rw [aB.aR]
 have hb' := hb
 unfold dO at hb'
 have e3 : ((st : Int) = 3000) = False := eq_false (by omega)
 have ew : IntKind.i64.wrap ((st : Int) + 1) = ((st + 1 : Nat) : Int) := by rw [IntWalk.i64_in _ (by omega)]; rfl
 have hnode := (aB.cR _ _ _ _).1 hok
 have h3 : ¬ st = 3000 := by omega
 have hlen := dB hok (by omega)
 rw [hk, show dN 9 = 2 from rfl] at hlen
 have g0 : e.aK[Int.toNat 0]? = some (e.mJ 0) := aB.gE (by omega)
 have g1 : e.aK[Int.toNat 1]? = some (e.mJ 1) := aB.gE (by omega)
 have o0 := aB.eP hok (i := 0) (by omega)
 have o1 := aB.eP hok (i := 1) (by omega)
 rw [gT (by omega)] at o0
 rw [hk, show iL 9 1 (env.length : Int) = env.length + 1 from rfl] at o1
 refine gK 210 nO vM vN mix Tryz.func118 rfl (by kernel_rfl) (by simp) ?_
 simp -dsimp -implicitDefEqProofs only [go_sem, ↓reduceIte, Tryz.f118, hb', e3, ew, hk, g0, g1, aB.ld5]
 refine ⟨by omega, by omega, ?_⟩
 first | refine aH.mk (aK7 env (by omega)) ?_ | refine aF.mk (aK7 env (by omega)) ?_ | refine aH.bY (aK7 env (by omega)) ?_ | refine aF.mk (bQ.fJ (aK7 env (by omega))) ?_
 simp -dsimp -implicitDefEqProofs only [go_sem, ↓reduceIte, Tryz.f118]
 refine aH.eM (hv (aT h nb (dO p sz (st + 1) 0)) nb (st + 1) 0 (e.mJ 0) env funcs (aG _ _ _) (by omega) (by omega) o0 eH hf henv (by omega)) ?_
 rintro r h' ⟨s1, t1, c1, rfl, rfl, kM, a1, a2, a3⟩
 simp -dsimp -implicitDefEqProofs only [go_sem, ↓reduceIte, Tryz.f118]
 refine ⟨Nat.zero_lt_one, Nat.zero_lt_one, Nat.zero_lt_one, by omega, by omega, ?_⟩
 intro m iX
 have dD : ¬ m = nb := by first | exact iX.1 | exact iX | exact iX.2.1 | exact iX.2 | exact iX.2.2.1 | exact iX.2.2 | exact iX.2.2.2.1 | exact iX.2.2.2 | exact iX.2.2.2.2.1 | exact iX.2.2.2.2 | exact iX.2.2.2.2.2.1 | exact iX.2.2.2.2.2 | exact iX.2.2.2.2.2.2.1 | exact iX.2.2.2.2.2.2 | exact iX.2.2.2.2.2.2.2.1 | exact iX.2.2.2.2.2.2.2 | exact iX.2.2.2.2.2.2.2.2.1 | exact iX.2.2.2.2.2.2.2.2 | exact iX.2.2.2.2.2.2.2.2.2.1 | exact iX.2.2.2.2.2.2.2.2.2 | exact iX.2.2.2.2.2.2.2.2.2.2.1 | exact iX.2.2.2.2.2.2.2.2.2.2 | exact iX.2.2.2.2.2.2.2.2.2.2.2.1 | exact iX.2.2.2.2.2.2.2.2.2.2.2 | exact iX.2.2.2.2.2.2.2.2.2.2.2.2.1 | exact iX.2.2.2.2.2.2.2.2.2.2.2.2 | exact iX.2.2.2.2.2.2.2.2.2.2.2.2.2.1 | exact iX.2.2.2.2.2.2.2.2.2.2.2.2.2
 have dH : (m = nb) = False := eq_false dD
 have dI : (nb = m) = False := eq_false (Ne.symm dD)
 have cS : ¬ nb = m := Ne.symm dD
 have z_m : h m = none := by first | exact iX.1 | exact iX | exact iX.2.1 | exact iX.2 | exact iX.2.2.1 | exact iX.2.2 | exact iX.2.2.2.1 | exact iX.2.2.2 | exact iX.2.2.2.2.1 | exact iX.2.2.2.2 | exact iX.2.2.2.2.2.1 | exact iX.2.2.2.2.2 | exact iX.2.2.2.2.2.2.1 | exact iX.2.2.2.2.2.2 | exact iX.2.2.2.2.2.2.2.1 | exact iX.2.2.2.2.2.2.2 | exact iX.2.2.2.2.2.2.2.2.1 | exact iX.2.2.2.2.2.2.2.2 | exact iX.2.2.2.2.2.2.2.2.2.1 | exact iX.2.2.2.2.2.2.2.2.2 | exact iX.2.2.2.2.2.2.2.2.2.2.1 | exact iX.2.2.2.2.2.2.2.2.2.2 | exact iX.2.2.2.2.2.2.2.2.2.2.2.1 | exact iX.2.2.2.2.2.2.2.2.2.2.2 | exact iX.2.2.2.2.2.2.2.2.2.2.2.2.1 | exact iX.2.2.2.2.2.2.2.2.2.2.2.2 | exact iX.2.2.2.2.2.2.2.2.2.2.2.2.2.1 | exact iX.2.2.2.2.2.2.2.2.2.2.2.2.2
 rw [aM]
 have hrow : env.map (fun s => [ints s]) ++ [[aD.sl 1 (s1.map fun n => [I n]) false]] = (env ++ [s1]).map fun s => [ints s] := by rw [List.map_append]; rfl
 rw [hrow]
 refine aH.aSM cS (by rw [List.length_map, List.length_append]; rfl) (by rw [aC _ _ _ _ dD]; exact z_m) ?_
 refine fF.mono (hv (aT (aT h nb (dO p sz t1 c1)) m .gone) nb t1 c1 (e.mJ 1) (env ++ [s1]) funcs (by rw [aC _ _ _ _ cS, aG]) (by omega) (by omega) (by rw [List.length_append]; exact o1) eH hf (tE henv kM) (by rw [List.length_append]; show env.length + 1 ≤ _; omega)) ?_
 rintro r h' ⟨s2, t2, c2, rfl, rfl, oI, b1, b2, b3⟩
 simp -dsimp -implicitDefEqProofs only [go_sem, ↓reduceIte, Tryz.f118]
 refine ⟨_, aT h nb (dO p sz t2 c2), cI (iD (by repeat' (first | exact fS _ _ | refine iE (by simp only [dP, ↓reduceIte, eq_self, if_true, dI, dH]) ?_ | refine eY (by first | exact .inr (by assumption) | exact .inl (by simp)) ?_))), s2, t2, c2, rfl, rfl, oI, by omega, b2, ?_⟩
 rw [aOR h3 hk]
 exact a3.dY b3
theorem aXP {p : aE} (hp : p.ok) {sz n : Nat} (hsz : 1 ≤ sz ∧ sz ≤ 1048576) (hv : nP p sz n) (h : aA) (nb st : Nat) (e : aB) (env : List (List Int)) (funcs : Int) (hb : h nb = some (dO p sz st 0)) (hst : st < 3000) (hn : 3001 ≤ n + 1 + st)
  (hok : e.ok p funcs env.length) (eH : 0 ≤ funcs) (hf : funcs ≤ p.aI.length) (henv : ∀ s ∈ env, cV sz s) (hel : env.length ≤ 412 + st) (hk : e.aO = 10) :
  fF Tryz.prog 118 [.op nb 4 0 0, .agg e.c, fE env] h (EvQ h nb p sz st 0 (iU p sz (n + 1) st e env)) := by
 rw [aB.aR]
 have hb' := hb
 unfold dO at hb'
 have e3 : ((st : Int) = 3000) = False := eq_false (by omega)
 have ew : IntKind.i64.wrap ((st : Int) + 1) = ((st + 1 : Nat) : Int) := by rw [IntWalk.i64_in _ (by omega)]; rfl
 have hnode := (aB.cR _ _ _ _).1 hok
 have h3 : ¬ st = 3000 := by omega
 obtain ⟨f, F⟩ := l4 hp hok hf (.inl hk)
 have hkl : e.aK.length ≤ 1048576 := by have := F.kids; have := F.params; omega
 refine gK 210 nO vM vN mix Tryz.func118 rfl (by kernel_rfl) (by simp) ?_
 simp -dsimp -implicitDefEqProofs only [go_sem, ↓reduceIte, Tryz.f118, hb', e3, ew, hk]
 refine aH.eM (wM hv (aT h nb (dO p sz (st + 1) 0)) nb (st + 1) 0 e.aK env funcs (aG _ _ _) (by omega) (by omega) hkl (dZ hok (by omega)) eH hf henv (by omega)) ?_
 rintro r h' ⟨vs, t1, c1, rfl, rfl, hvl, hvs, a1, a2, a3⟩
 simp -dsimp -implicitDefEqProofs only [go_sem, ↓reduceIte, Tryz.f118, dO]
 refine ⟨fun hc => ?_, fun hc => ?_⟩
 ·have hc' : ¬ c1 = 0 := by simpa using hc
  refine aH.eM (lQ _ nb _ _ _ 0 sz (aG _ _ _) hsz) ?_
  rintro r h' ⟨rfl, rfl⟩
  simp -dsimp -implicitDefEqProofs only [go_sem, ↓reduceIte, Tryz.f118]
  refine ⟨_, aT h nb (dO p sz t1 c1), cI (by rw [aM]; exact aA.le_refl _), _, t1, c1, rfl, rfl, e7 jT, by omega, a2, ?_⟩
  rw [aDI h3 hk]
  exact a3.dY (by rw [iG _ hc']; exact eX _ _ hc')
 ·have hc' : c1 = 0 := by simpa using hc
  subst hc'
  try simp -dsimp -implicitDefEqProofs only [go_sem, ↓reduceIte, Tryz.f118, hk, F.get, F.out, aS.aR, aB.ld5, aM]
  have f1 := F.lo
  have f2 := F.hi
  have f3 := F.pk
  have f4 := F.pk2
  have f5 := F.kids
  have f6 := F.params
  refine ⟨f1, f2, f3, by omega, ?_⟩
  refine aH.eM (hv (aT h nb (dO p sz t1 0)) nb t1 0 (p.out e.aX e.cN) vs e.aX (aG _ _ _) (by omega) (by omega) (by rw [hvl, f5]; exact F.oks _ (List.mem_of_getElem? F.out)) f1 (by omega) hvs (by omega)) ?_
  rintro r h' ⟨s2, t2, c2, rfl, rfl, oI, b1, b2, b3⟩
  simp -dsimp -implicitDefEqProofs only [go_sem, ↓reduceIte, Tryz.f118]
  refine ⟨_, aT h nb (dO p sz t2 c2), cI (by rw [aM]; exact aA.le_refl _), s2, t2, c2, rfl, rfl, oI, by omega, b2, ?_⟩
  rw [aDI h3 hk]
  exact a3.dY b3
theorem a1H {p : aE} (hp : p.ok) {sz n : Nat} (hsz : 1 ≤ sz ∧ sz ≤ 1048576) (hv : nP p sz n) (h : aA) (nb st : Nat) (e : aB) (env : List (List Int)) (funcs : Int) (hb : h nb = some (dO p sz st 0)) (hst : st < 3000) (hn : 3001 ≤ n + 1 + st)
  (hok : e.ok p funcs env.length) (eH : 0 ≤ funcs) (hf : funcs ≤ p.aI.length) (henv : ∀ s ∈ env, cV sz s) (hel : env.length ≤ 412 + st) (hk : e.aO = 7) :
  fF Tryz.prog 118 [.op nb 4 0 0, .agg e.c, fE env] h (EvQ h nb p sz st 0 (iU p sz (n + 1) st e env)) := by
 rw [aB.aR]
 have hb' := hb
 unfold dO at hb'
 have e3 : ((st : Int) = 3000) = False := eq_false (by omega)
 have ew : IntKind.i64.wrap ((st : Int) + 1) = ((st + 1 : Nat) : Int) := by rw [IntWalk.i64_in _ (by omega)]; rfl
 have hnode := (aB.cR _ _ _ _).1 hok
 have h3 : ¬ st = 3000 := by omega
 have hlen := dB hok (by omega)
 rw [hk, show dN 7 = 1 from rfl] at hlen
 have hkl : e.aK.length ≤ 1048576 := by omega
 refine gK 210 nO vM vN mix Tryz.func118 rfl (by kernel_rfl) (by simp) ?_
 simp -dsimp -implicitDefEqProofs only [go_sem, ↓reduceIte, Tryz.f118, hb', e3, ew, hk]
 refine aH.eM (wM hv (aT h nb (dO p sz (st + 1) 0)) nb (st + 1) 0 e.aK env funcs (aG _ _ _) (by omega) (by omega) hkl (dZ hok (by omega)) eH hf henv (by omega)) ?_
 rintro r h' ⟨vs, t1, c1, rfl, rfl, hvl, hvs, a1, a2, a3⟩
 have nF := iS hvs (i := 0) (by omega)
 simp -dsimp -implicitDefEqProofs only [go_sem, ↓reduceIte, Tryz.f118, dO]
 refine ⟨fun hc => ?_, fun hc => ?_⟩
 ·have hc' : ¬ c1 = 0 := by simpa using hc
  refine aH.eM (lQ _ nb _ _ _ 0 sz (aG _ _ _) hsz) ?_
  rintro r h' ⟨rfl, rfl⟩
  simp -dsimp -implicitDefEqProofs only [go_sem, ↓reduceIte, Tryz.f118]
  refine ⟨_, aT h nb (dO p sz t1 c1), cI (by rw [aM]; exact aA.le_refl _), _, t1, c1, rfl, rfl, e7 jT, by omega, a2, ?_⟩
  rw [oH h3 (by omega)]
  exact a3.dY (by rw [iG _ hc']; exact eX _ _ hc')
 have hc' : c1 = 0 := by simpa using hc
 subst hc'
 have g0 : vs[Int.toNat 0]? = some (vs.getD 0 []) := kS (by omega)
 try simp -dsimp -implicitDefEqProofs only [go_sem, ↓reduceIte, Tryz.f118, hk, aM, g0]
 refine ⟨by omega, ?_⟩
 refine aH.mk (scaled (vs.getD 0 []) 1000002 (by unfold kI; omega) (by rw [nF.1]; omega) nF.2) ?_
 simp -dsimp -implicitDefEqProofs only [go_sem, ↓reduceIte, Tryz.f118]
 refine ⟨_, aT h nb (dO p sz t1 0), cI (by exact aA.le_refl _), _, t1, 0, rfl, rfl, mP _ nF, by omega, a2, ?_⟩
 rw [oH h3 (by omega)]
 refine a3.dY ?_
 rw [dC, hk]
 exact kR _ _
theorem a1I {p : aE} (hp : p.ok) {sz n : Nat} (hsz : 1 ≤ sz ∧ sz ≤ 1048576) (hv : nP p sz n) (h : aA) (nb st : Nat) (e : aB) (env : List (List Int)) (funcs : Int) (hb : h nb = some (dO p sz st 0)) (hst : st < 3000) (hn : 3001 ≤ n + 1 + st)
  (hok : e.ok p funcs env.length) (eH : 0 ≤ funcs) (hf : funcs ≤ p.aI.length) (henv : ∀ s ∈ env, cV sz s) (hel : env.length ≤ 412 + st) (hk : e.aO = 3) :
  fF Tryz.prog 118 [.op nb 4 0 0, .agg e.c, fE env] h (EvQ h nb p sz st 0 (iU p sz (n + 1) st e env)) := by
 rw [aB.aR]
 have hb' := hb
 unfold dO at hb'
 have e3 : ((st : Int) = 3000) = False := eq_false (by omega)
 have ew : IntKind.i64.wrap ((st : Int) + 1) = ((st + 1 : Nat) : Int) := by rw [IntWalk.i64_in _ (by omega)]; rfl
 have hnode := (aB.cR _ _ _ _).1 hok
 have h3 : ¬ st = 3000 := by omega
 have hlen := dB hok (by omega)
 rw [hk, show dN 3 = 2 from rfl] at hlen
 have hkl : e.aK.length ≤ 1048576 := by omega
 refine gK 210 nO vM vN mix Tryz.func118 rfl (by kernel_rfl) (by simp) ?_
 simp -dsimp -implicitDefEqProofs only [go_sem, ↓reduceIte, Tryz.f118, hb', e3, ew, hk]
 refine aH.eM (wM hv (aT h nb (dO p sz (st + 1) 0)) nb (st + 1) 0 e.aK env funcs (aG _ _ _) (by omega) (by omega) hkl (dZ hok (by omega)) eH hf henv (by omega)) ?_
 rintro r h' ⟨vs, t1, c1, rfl, rfl, hvl, hvs, a1, a2, a3⟩
 have nF := iS hvs (i := 0) (by omega)
 simp -dsimp -implicitDefEqProofs only [go_sem, ↓reduceIte, Tryz.f118, dO]
 refine ⟨fun hc => ?_, fun hc => ?_⟩
 ·have hc' : ¬ c1 = 0 := by simpa using hc
  refine aH.eM (lQ _ nb _ _ _ 0 sz (aG _ _ _) hsz) ?_
  rintro r h' ⟨rfl, rfl⟩
  simp -dsimp -implicitDefEqProofs only [go_sem, ↓reduceIte, Tryz.f118]
  refine ⟨_, aT h nb (dO p sz t1 c1), cI (by rw [aM]; exact aA.le_refl _), _, t1, c1, rfl, rfl, e7 jT, by omega, a2, ?_⟩
  rw [oH h3 (by omega)]
  exact a3.dY (by rw [iG _ hc']; exact eX _ _ hc')
 have hc' : c1 = 0 := by simpa using hc
 subst hc'
 have g0 : vs[Int.toNat 0]? = some (vs.getD 0 []) := kS (by omega)
 have g1 : vs[Int.toNat 1]? = some (vs.getD 1 []) := kS (by omega)
 have tT := iS hvs (i := 1) (by omega)
 try simp -dsimp -implicitDefEqProofs only [go_sem, ↓reduceIte, Tryz.f118, hk, aM, g0, g1]
 refine ⟨by omega, by omega, ?_⟩
 refine aH.mk (a8A (vs.getD 0 []) (vs.getD 1 []) (by rw [nF.1, tT.1]) (by rw [nF.1]; omega) nF.2 tT.2) ?_
 simp -dsimp -implicitDefEqProofs only [go_sem, ↓reduceIte, Tryz.f118]
 refine ⟨_, aT h nb (dO p sz t1 0), cI (by exact aA.le_refl _), _, t1, 0, rfl, rfl, vJ nF tT, by omega, a2, ?_⟩
 rw [oH h3 (by omega)]
 refine a3.dY ?_
 rw [dC, hk]
 exact kR _ _
theorem a1J {p : aE} (hp : p.ok) {sz n : Nat} (hsz : 1 ≤ sz ∧ sz ≤ 1048576) (hv : nP p sz n) (h : aA) (nb st : Nat) (e : aB) (env : List (List Int)) (funcs : Int) (hb : h nb = some (dO p sz st 0)) (hst : st < 3000) (hn : 3001 ≤ n + 1 + st)
  (hok : e.ok p funcs env.length) (eH : 0 ≤ funcs) (hf : funcs ≤ p.aI.length) (henv : ∀ s ∈ env, cV sz s) (hel : env.length ≤ 412 + st) (hk : e.aO = 4) :
  fF Tryz.prog 118 [.op nb 4 0 0, .agg e.c, fE env] h (EvQ h nb p sz st 0 (iU p sz (n + 1) st e env)) := by
 rw [aB.aR]
 have hb' := hb
 unfold dO at hb'
 have e3 : ((st : Int) = 3000) = False := eq_false (by omega)
 have ew : IntKind.i64.wrap ((st : Int) + 1) = ((st + 1 : Nat) : Int) := by rw [IntWalk.i64_in _ (by omega)]; rfl
 have hnode := (aB.cR _ _ _ _).1 hok
 have h3 : ¬ st = 3000 := by omega
 have hlen := dB hok (by omega)
 rw [hk, show dN 4 = 2 from rfl] at hlen
 have hkl : e.aK.length ≤ 1048576 := by omega
 refine gK 210 nO vM vN mix Tryz.func118 rfl (by kernel_rfl) (by simp) ?_
 simp -dsimp -implicitDefEqProofs only [go_sem, ↓reduceIte, Tryz.f118, hb', e3, ew, hk]
 refine aH.eM (wM hv (aT h nb (dO p sz (st + 1) 0)) nb (st + 1) 0 e.aK env funcs (aG _ _ _) (by omega) (by omega) hkl (dZ hok (by omega)) eH hf henv (by omega)) ?_
 rintro r h' ⟨vs, t1, c1, rfl, rfl, hvl, hvs, a1, a2, a3⟩
 have nF := iS hvs (i := 0) (by omega)
 simp -dsimp -implicitDefEqProofs only [go_sem, ↓reduceIte, Tryz.f118, dO]
 refine ⟨fun hc => ?_, fun hc => ?_⟩
 ·have hc' : ¬ c1 = 0 := by simpa using hc
  refine aH.eM (lQ _ nb _ _ _ 0 sz (aG _ _ _) hsz) ?_
  rintro r h' ⟨rfl, rfl⟩
  simp -dsimp -implicitDefEqProofs only [go_sem, ↓reduceIte, Tryz.f118]
  refine ⟨_, aT h nb (dO p sz t1 c1), cI (by rw [aM]; exact aA.le_refl _), _, t1, c1, rfl, rfl, e7 jT, by omega, a2, ?_⟩
  rw [oH h3 (by omega)]
  exact a3.dY (by rw [iG _ hc']; exact eX _ _ hc')
 have hc' : c1 = 0 := by simpa using hc
 subst hc'
 have g0 : vs[Int.toNat 0]? = some (vs.getD 0 []) := kS (by omega)
 have g1 : vs[Int.toNat 1]? = some (vs.getD 1 []) := kS (by omega)
 have tT := iS hvs (i := 1) (by omega)
 try simp -dsimp -implicitDefEqProofs only [go_sem, ↓reduceIte, Tryz.f118, hk, aM, g0, g1]
 refine ⟨by omega, by omega, ?_⟩
 refine aH.mk (reduced (vs.getD 0 []) (vs.getD 1 []) (by rw [nF.1, tT.1]) (by rw [nF.1]; omega) nF.2 tT.2) ?_
 simp -dsimp -implicitDefEqProofs only [go_sem, ↓reduceIte, Tryz.f118]
 refine ⟨_, aT h nb (dO p sz t1 0), cI (by exact aA.le_refl _), _, t1, 0, rfl, rfl, zC nF tT, by omega, a2, ?_⟩
 rw [oH h3 (by omega)]
 refine a3.dY ?_
 rw [dC, hk]
 exact kR _ _
theorem a1K {p : aE} (hp : p.ok) {sz n : Nat} (hsz : 1 ≤ sz ∧ sz ≤ 1048576) (hv : nP p sz n) (h : aA) (nb st : Nat) (e : aB) (env : List (List Int)) (funcs : Int) (hb : h nb = some (dO p sz st 0)) (hst : st < 3000) (hn : 3001 ≤ n + 1 + st)
  (hok : e.ok p funcs env.length) (eH : 0 ≤ funcs) (hf : funcs ≤ p.aI.length) (henv : ∀ s ∈ env, cV sz s) (hel : env.length ≤ 412 + st) (hk : e.aO = 5) :
  fF Tryz.prog 118 [.op nb 4 0 0, .agg e.c, fE env] h (EvQ h nb p sz st 0 (iU p sz (n + 1) st e env)) := by
 rw [aB.aR]
 have hb' := hb
 unfold dO at hb'
 have e3 : ((st : Int) = 3000) = False := eq_false (by omega)
 have ew : IntKind.i64.wrap ((st : Int) + 1) = ((st + 1 : Nat) : Int) := by rw [IntWalk.i64_in _ (by omega)]; rfl
 have hnode := (aB.cR _ _ _ _).1 hok
 have h3 : ¬ st = 3000 := by omega
 have hlen := dB hok (by omega)
 rw [hk, show dN 5 = 2 from rfl] at hlen
 have hkl : e.aK.length ≤ 1048576 := by omega
 refine gK 210 nO vM vN mix Tryz.func118 rfl (by kernel_rfl) (by simp) ?_
 simp -dsimp -implicitDefEqProofs only [go_sem, ↓reduceIte, Tryz.f118, hb', e3, ew, hk]
 refine aH.eM (wM hv (aT h nb (dO p sz (st + 1) 0)) nb (st + 1) 0 e.aK env funcs (aG _ _ _) (by omega) (by omega) hkl (dZ hok (by omega)) eH hf henv (by omega)) ?_
 rintro r h' ⟨vs, t1, c1, rfl, rfl, hvl, hvs, a1, a2, a3⟩
 have nF := iS hvs (i := 0) (by omega)
 simp -dsimp -implicitDefEqProofs only [go_sem, ↓reduceIte, Tryz.f118, dO]
 refine ⟨fun hc => ?_, fun hc => ?_⟩
 ·have hc' : ¬ c1 = 0 := by simpa using hc
  refine aH.eM (lQ _ nb _ _ _ 0 sz (aG _ _ _) hsz) ?_
  rintro r h' ⟨rfl, rfl⟩
  simp -dsimp -implicitDefEqProofs only [go_sem, ↓reduceIte, Tryz.f118]
  refine ⟨_, aT h nb (dO p sz t1 c1), cI (by rw [aM]; exact aA.le_refl _), _, t1, c1, rfl, rfl, e7 jT, by omega, a2, ?_⟩
  rw [oH h3 (by omega)]
  exact a3.dY (by rw [iG _ hc']; exact eX _ _ hc')
 have hc' : c1 = 0 := by simpa using hc
 subst hc'
 have g0 : vs[Int.toNat 0]? = some (vs.getD 0 []) := kS (by omega)
 have g1 : vs[Int.toNat 1]? = some (vs.getD 1 []) := kS (by omega)
 have tT := iS hvs (i := 1) (by omega)
 try simp -dsimp -implicitDefEqProofs only [go_sem, ↓reduceIte, Tryz.f118, hk, aM, g0, g1]
 refine ⟨by omega, by omega, ?_⟩
 refine aH.mk (product (vs.getD 0 []) (vs.getD 1 []) (by rw [nF.1, tT.1]) (by rw [nF.1]; omega) nF.2 tT.2) ?_
 simp -dsimp -implicitDefEqProofs only [go_sem, ↓reduceIte, Tryz.f118]
 refine ⟨_, aT h nb (dO p sz t1 0), cI (by exact aA.le_refl _), _, t1, 0, rfl, rfl, zD _ nF, by omega, a2, ?_⟩
 rw [oH h3 (by omega)]
 refine a3.dY ?_
 rw [dC, hk]
 exact kR _ _
theorem a1L {p : aE} (hp : p.ok) {sz n : Nat} (hsz : 1 ≤ sz ∧ sz ≤ 1048576) (hv : nP p sz n) (h : aA) (nb st : Nat) (e : aB) (env : List (List Int)) (funcs : Int) (hb : h nb = some (dO p sz st 0)) (hst : st < 3000) (hn : 3001 ≤ n + 1 + st)
  (hok : e.ok p funcs env.length) (eH : 0 ≤ funcs) (hf : funcs ≤ p.aI.length) (henv : ∀ s ∈ env, cV sz s) (hel : env.length ≤ 412 + st) (hk : e.aO = 6) :
  fF Tryz.prog 118 [.op nb 4 0 0, .agg e.c, fE env] h (EvQ h nb p sz st 0 (iU p sz (n + 1) st e env)) := by
 rw [aB.aR]
 have hb' := hb
 unfold dO at hb'
 have e3 : ((st : Int) = 3000) = False := eq_false (by omega)
 have ew : IntKind.i64.wrap ((st : Int) + 1) = ((st + 1 : Nat) : Int) := by rw [IntWalk.i64_in _ (by omega)]; rfl
 have hnode := (aB.cR _ _ _ _).1 hok
 have h3 : ¬ st = 3000 := by omega
 have hlen := dB hok (by omega)
 rw [hk, show dN 6 = 2 from rfl] at hlen
 have hkl : e.aK.length ≤ 1048576 := by omega
 refine gK 210 nO vM vN mix Tryz.func118 rfl (by kernel_rfl) (by simp) ?_
 simp -dsimp -implicitDefEqProofs only [go_sem, ↓reduceIte, Tryz.f118, hb', e3, ew, hk]
 refine aH.eM (wM hv (aT h nb (dO p sz (st + 1) 0)) nb (st + 1) 0 e.aK env funcs (aG _ _ _) (by omega) (by omega) hkl (dZ hok (by omega)) eH hf henv (by omega)) ?_
 rintro r h' ⟨vs, t1, c1, rfl, rfl, hvl, hvs, a1, a2, a3⟩
 have nF := iS hvs (i := 0) (by omega)
 simp -dsimp -implicitDefEqProofs only [go_sem, ↓reduceIte, Tryz.f118, dO]
 refine ⟨fun hc => ?_, fun hc => ?_⟩
 ·have hc' : ¬ c1 = 0 := by simpa using hc
  refine aH.eM (lQ _ nb _ _ _ 0 sz (aG _ _ _) hsz) ?_
  rintro r h' ⟨rfl, rfl⟩
  simp -dsimp -implicitDefEqProofs only [go_sem, ↓reduceIte, Tryz.f118]
  refine ⟨_, aT h nb (dO p sz t1 c1), cI (by rw [aM]; exact aA.le_refl _), _, t1, c1, rfl, rfl, e7 jT, by omega, a2, ?_⟩
  rw [oH h3 (by omega)]
  exact a3.dY (by rw [iG _ hc']; exact eX _ _ hc')
 have hc' : c1 = 0 := by simpa using hc
 subst hc'
 have g0 : vs[Int.toNat 0]? = some (vs.getD 0 []) := kS (by omega)
 have g1 : vs[Int.toNat 1]? = some (vs.getD 1 []) := kS (by omega)
 have tT := iS hvs (i := 1) (by omega)
 have gs : (vs.getD 1 [])[Int.toNat 0]? = some ((vs.getD 1 []).getD 0 0) := cX (by rw [tT.1]; omega)
 try simp -dsimp -implicitDefEqProofs only [go_sem, ↓reduceIte, Tryz.f118, hk, aM, g0, g1, gs]
 refine ⟨by omega, by rw [tT.1]; omega, fun hz => ?_, fun hz => ?_⟩
 ·refine aH.eM (lQ _ nb _ _ _ 0 sz (aG _ _ _) hsz) ?_
  rintro r h' ⟨rfl, rfl⟩
  simp -dsimp -implicitDefEqProofs only [go_sem, ↓reduceIte, Tryz.f118]
  refine ⟨_, aT h nb (dO p sz t1 6), cI (by exact aA.le_refl _), _, t1, 6, rfl, rfl, e7 jT, by omega, a2, ?_⟩
  rw [oH h3 (by omega)]
  refine a3.dY ?_
  rw [dC, hk]
  have : opE 6 vs t1 = .error 6 := by rw [opE, if_neg (by decide), if_neg (by decide), if_neg (by decide), if_neg (by decide), if_pos hz]
  rw [this]
  exact eX _ _ (by decide)
 ·try simp -dsimp -implicitDefEqProofs only [go_sem, ↓reduceIte, Tryz.f118, hk, aM, g0, g1, gs]
  refine ⟨by omega, by omega, ?_⟩
  refine aH.mk (quotient (vs.getD 0 []) (vs.getD 1 []) (by rw [nF.1, tT.1]) (by rw [nF.1]; omega) (by rw [nF.1]; omega) nF.2 tT.2) ?_
  simp -dsimp -implicitDefEqProofs only [go_sem, ↓reduceIte, Tryz.f118]
  refine ⟨_, aT h nb (dO p sz t1 0), cI (by exact aA.le_refl _), _, t1, 0, rfl, rfl, zE _ nF, by omega, a2, ?_⟩
  rw [oH h3 (by omega)]
  refine a3.dY ?_
  rw [dC, hk]
  have : opE 6 vs t1 = .ok (nJ (vs.getD 0 []) (vs.getD 1 []), t1) := by rw [opE, if_neg (by decide), if_neg (by decide), if_neg (by decide), if_neg (by decide), if_neg hz]
  rw [this]
  exact kR _ _
theorem aXQ {p : aE} (hp : p.ok) {sz n : Nat} (hsz : 1 ≤ sz ∧ sz ≤ 1048576) (hv : nP p sz n) (h : aA) (nb st : Nat) (e : aB) (env : List (List Int)) (funcs : Int) (hb : h nb = some (dO p sz st 0)) (hst : st < 3000) (hn : 3001 ≤ n + 1 + st)
  (hok : e.ok p funcs env.length) (eH : 0 ≤ funcs) (hf : funcs ≤ p.aI.length) (henv : ∀ s ∈ env, cV sz s) (hel : env.length ≤ 412 + st) (hk : e.aO = 11) :
  fF Tryz.prog 118 [.op nb 4 0 0, .agg e.c, fE env] h (EvQ h nb p sz st 0 (iU p sz (n + 1) st e env)) := by
 rw [aB.aR]
 have hb' := hb
 unfold dO at hb'
 have e3 : ((st : Int) = 3000) = False := eq_false (by omega)
 have ew : IntKind.i64.wrap ((st : Int) + 1) = ((st + 1 : Nat) : Int) := by rw [IntWalk.i64_in _ (by omega)]; rfl
 have hnode := (aB.cR _ _ _ _).1 hok
 have h3 : ¬ st = 3000 := by omega
 obtain ⟨f, F⟩ := l4 hp hok hf (.inr hk)
 have hkl : e.aK.length ≤ 1048576 := by have := F.kids; have := F.params; omega
 have f1 := F.lo
 have f2 := F.hi
 have f3 := F.pk
 have f4 := F.pk2
 have f5 := F.kids
 have f6 := F.params
 have f7 := F.loop hk
 have f8 := F.outs
 refine gK 210 nO vM vN mix Tryz.func118 rfl (by kernel_rfl) (by simp) ?_
 simp -dsimp -implicitDefEqProofs only [go_sem, ↓reduceIte, Tryz.f118, hb', e3, ew, hk]
 refine aH.eM (wM hv (aT h nb (dO p sz (st + 1) 0)) nb (st + 1) 0 e.aK env funcs (aG _ _ _) (by omega) (by omega) hkl (dZ hok (by omega)) eH hf henv (by omega)) ?_
 rintro r h' ⟨vs, t1, c1, rfl, rfl, hvl, hvs, a1, a2, a3⟩
 simp -dsimp -implicitDefEqProofs only [go_sem, ↓reduceIte, Tryz.f118, dO]
 refine ⟨fun hc => ?_, fun hc => ?_⟩
 ·have hc' : ¬ c1 = 0 := by simpa using hc
  refine aH.eM (lQ _ nb _ _ _ 0 sz (aG _ _ _) hsz) ?_
  rintro r h' ⟨rfl, rfl⟩
  simp -dsimp -implicitDefEqProofs only [go_sem, ↓reduceIte, Tryz.f118]
  refine ⟨_, aT h nb (dO p sz t1 c1), cI (by rw [aM]; exact aA.le_refl _), _, t1, c1, rfl, rfl, e7 jT, by omega, a2, ?_⟩
  rw [aDJ h3 hk]
  exact a3.dY (by rw [iG _ hc']; exact eX _ _ hc')
 have hc' : c1 = 0 := by simpa using hc
 subst hc'
 try simp -dsimp -implicitDefEqProofs only [go_sem, ↓reduceIte, Tryz.f118, hk, aM]
 have hiter : ∀ (k : Nat) (us : List (List Int)) (t : Nat) (c : Int), jB (pC (fun vs t => lJ (fun t e => iU p sz n t e vs) (p.outs e.aX) t) k vs t1) us t c → k ≤ e.cA.toNat → (¬ c = 0 ∨ k = e.cA.toNat) → jB (oG 0 (iU p sz (n + 1) st e env)) (us.getD e.cN.toNat []) t c := fun k us t c ho hk1 hor => by
  rw [aDJ h3 hk]
  refine a3.dY ?_
  rw [dC]
  refine jB.then (v := us) (t := t) (c := c) ?_ (gR _ _ _)
  rcases hor with hc | rfl
  ·have := ho.err hc
   rw [aJE _ k hk1 this]
   exact eX _ _ hc
  ·exact ho
 refine dA (keep := nO) (ib := vM) (mk := vN) mix (by kernel_rfl) (fun x : Nat × List (List Int) × Nat × Int => [(0, .op nb 4 0 0), (4, .ip 5 [[I 11, I e.aX, I e.cN, I e.cA, eI 5 aB.c e.aK]] 0 0), (7, fE x.2.1), (8, I x.1)]) (fun x => aT h nb (dO p sz x.2.2.1 x.2.2.2)) (fun x => x.1 ≤ e.cA.toNat ∧ x.2.1.length = f.aW.length ∧ (∀ s ∈ x.2.1, cV sz s) ∧ t1 ≤ x.2.2.1 ∧ x.2.2.1 ≤ 3000 ∧ jB (pC (fun vs t => lJ (fun t e => iU p sz n t e vs) (p.outs e.aX) t) x.1 vs t1) x.2.1 x.2.2.1 x.2.2.2) (fun x => e.cA.toNat - x.1) (0, vs, t1, 0) ⟨by simp [dF, b6], aA.le_refl _, Nat.zero_le _, by simp only; omega, hvs, Nat.le_refl _, a2, kR _ _⟩ ?_
 rintro ⟨k, us, t, c⟩ ⟨hk1, hul, hus, ht0, ht, ho⟩
 simp only at hk1 hul hus ht0 ht ho ⊢
 have gp : us[e.cN.toNat]? = some (us.getD e.cN.toNat []) := kS (by omega)
 simp -dsimp -implicitDefEqProofs only [go_sem, ↓reduceIte, Tryz.f118, dO, F.get, aS.aR, gp]
 refine ⟨fun hlt => ⟨fun hc => ⟨f1, f2, ?_⟩, fun hc => ?_⟩, fun hge => ?_⟩
 ·subst hc
  refine aH.eM (wM hv (aT h nb (dO p sz t 0)) nb t 0 f.aW us e.aX (aG _ _ _) ht (by omega) (by omega) (by rw [hul, f7.2.2]; exact F.oks) f1 (by omega) hus (by omega)) ?_
  rintro r h' ⟨l2, t2, c2, rfl, rfl, hl2, oI, b1, b2, b3⟩
  simp -dsimp -implicitDefEqProofs only [go_sem, ↓reduceIte, Tryz.f118]
  refine ⟨(k + 1, l2, t2, c2), ⟨rfl, by rw [IntWalk.i64_in _ (by omega)]; rfl⟩, by simp only [aM]; exact aA.le_refl _, ⟨by omega, hl2, oI, by simp only; omega, b2, ?_⟩, by simp only; omega⟩
  simp only
  rw [wK]
  refine ho.then ?_
  rw [F.eq]
  exact b3
 ·exact ⟨f3, by omega, _, _, bD _ _, us.getD e.cN.toNat [], t, c, rfl, rfl, iS hus (by omega), by omega, ht, hiter k us t c ho hk1 (.inl hc)⟩
 ·exact ⟨f3, by omega, _, _, bD _ _, us.getD e.cN.toNat [], t, c, rfl, rfl, iS hus (by omega), by omega, ht, hiter k us t c ho hk1 (.inr (by omega))⟩
open Go.Proofs
set_option linter.unusedVariables false
set_option linter.unusedSimpArgs false
theorem value {p : aE} (hp : p.ok) {sz : Nat} (hsz : 1 ≤ sz ∧ sz ≤ 1048576) : ∀ n, nP p sz n
 |0 => fun h nb st c e env funcs hb hst hn => by omega
 |n + 1 => fun h nb st c e env funcs hb hst hn hok eH hf henv hel => by
  have hv := value hp hsz n
  by_cases hs : ¬ c = 0 ∨ st = 3000
  ·exact aQN hsz h nb st c e env hb hst hs
  have hc : c = 0 := Classical.byContradiction fun q => hs (.inl q)
  have h3 : st < 3000 := by
   rcases Nat.lt_or_ge st 3000 with h | h
   ·exact h
   ·exact absurd (.inr (by omega)) hs
  subst hc
  rcases pD ((aB.cR _ _ _ _).1 hok).1 with hk | hk | hk | hk | hk | hk | hk | hk | hk | hk | hk
  ·exact a1D hp hsz hv h nb st e env funcs hb h3 hn hok eH hf henv hel hk
  ·exact a1E hp hsz hv h nb st e env funcs hb h3 hn hok eH hf henv hel hk
  ·exact a1I hp hsz hv h nb st e env funcs hb h3 hn hok eH hf henv hel hk
  ·exact a1J hp hsz hv h nb st e env funcs hb h3 hn hok eH hf henv hel hk
  ·exact a1K hp hsz hv h nb st e env funcs hb h3 hn hok eH hf henv hel hk
  ·exact a1L hp hsz hv h nb st e env funcs hb h3 hn hok eH hf henv hel hk
  ·exact a1H hp hsz hv h nb st e env funcs hb h3 hn hok eH hf henv hel hk
  ·exact a1F hp hsz hv h nb st e env funcs hb h3 hn hok eH hf henv hel hk
  ·exact a1G hp hsz hv h nb st e env funcs hb h3 hn hok eH hf henv hel hk
  ·exact aXP hp hsz hv h nb st e env funcs hb h3 hn hok eH hf henv hel hk
  ·exact aXQ hp hsz hv h nb st e env funcs hb h3 hn hok eH hf henv hel hk
set_option maxRecDepth 100000
open Go.Proofs
set_option linter.unusedVariables false
set_option linter.unusedSimpArgs false
@[go_sem] def a1N : List Nat := [0, 1, 4]
@[go_sem] def bE0 : List Nat := []
@[go_sem] def bE1 : Marks := fun _ => ([], .nil, [])
theorem bV (a b : Int) (ha : kI a) (hb : kI b) : gV Tryz.prog 158 [I a, I b] (I (a * b % 1000003)) := by
 refine gD 11 a1N bE0 bE1 mix Tryz.func158 rfl (by kernel_rfl) (by simp) fun h => ?_
 simp -dsimp -implicitDefEqProofs only [go_sem, ↓reduceIte, Tryz.f158]
 first | refine aH.mk (cZ a) ?_ | refine aF.mk (cZ a) ?_ | refine aH.bY (cZ a) ?_ | refine aF.mk (bQ.fJ (cZ a)) ?_
 simp -dsimp -implicitDefEqProofs only [go_sem, ↓reduceIte, Tryz.f158]
 first | refine aH.mk (cZ b) ?_ | refine aF.mk (cZ b) ?_ | refine aH.bY (cZ b) ?_ | refine aF.mk (bQ.fJ (cZ b)) ?_
 simp -dsimp -implicitDefEqProofs only [go_sem, ↓reduceIte, Tryz.f158]
 have h1 := num_mul ha hb
 have h2 := ha
 have h3 := hb
 unfold kI at h2 h3
 rw [Int.emod_eq_of_lt h2.1 (by omega), Int.emod_eq_of_lt h3.1 (by omega), aQK h1.1 (by omega)]
@[go_sem] def aSO : List Nat := [0, 1, 4, 5, 6, 8, 12, 15]
@[go_sem] def a5J : List Nat := []
@[go_sem] def a5K : Marks := fun _ => ([], .nil, [])
theorem zH (a n : Int) (hn : 0 ≤ n) (hn2 : n ≤ 4294967296) : gV Tryz.prog 162 [I a, I n] (I (pwN (a % 1000003) n.toNat)) := by
 refine gD 25 aSO a5J a5K mix Tryz.func162 rfl (by kernel_rfl) (by simp) fun h => ?_
 simp -dsimp -implicitDefEqProofs only [go_sem, ↓reduceIte, Tryz.f162]
 refine ⟨fun q => absurd q (by omega), fun _ => ?_⟩
 first | refine aH.mk (cZ a) ?_ | refine aF.mk (cZ a) ?_ | refine aH.bY (cZ a) ?_ | refine aF.mk (bQ.fJ (cZ a)) ?_
 simp -dsimp -implicitDefEqProofs only [go_sem, ↓reduceIte, Tryz.f162]
 generalize hT : pwN (a % 1000003) n.toNat = T
 refine oN (keep := aSO) (ib := a5J) (mk := a5K) mix (by kernel_rfl) (fun x : Int × Int × Int => [(1, I x.2.2), (5, I x.1), (6, I x.2.1)]) (fun x => (0 ≤ x.1 ∧ x.1 < 1000003) ∧ (0 ≤ x.2.1 ∧ x.2.1 < 1000003) ∧ (0 ≤ x.2.2 ∧ x.2.2 ≤ 4294967296) ∧ x.1 * x.2.1 ^ x.2.2.toNat % 1000003 = T) (fun x => x.2.2.toNat) (1, a % 1000003, n) ⟨by simp [dF, b6], ⟨by simp, by simp⟩, aOM _, ⟨hn, hn2⟩, by rw [Int.one_mul]; exact hT⟩ ?_
 rintro ⟨x, b, m⟩ ⟨hx, hb, hm, hp⟩
 simp only at hx hb hm hp ⊢
 have nx : kI x := by unfold kI; omega
 have nb : kI b := by unfold kI; omega
 simp -dsimp -implicitDefEqProofs only [go_sem, ↓reduceIte, Tryz.f162]
 rw [Int.tmod_eq_emod_of_nonneg hm.1]
 refine ⟨fun hg => ⟨fun ho => ?_, fun ho => ?_⟩, fun hg => ?_⟩
 ·first | refine aH.mk (bV x b nx nb) ?_ | refine aF.mk (bV x b nx nb) ?_ | refine aH.bY (bV x b nx nb) ?_ | refine aF.mk (bQ.fJ (bV x b nx nb)) ?_
  simp -dsimp -implicitDefEqProofs only [go_sem, ↓reduceIte, Tryz.f162]
  first | refine aH.mk (bV b b nb nb) ?_ | refine aF.mk (bV b b nb nb) ?_ | refine aH.bY (bV b b nb nb) ?_ | refine aF.mk (bQ.fJ (bV b b nb nb)) ?_
  simp -dsimp -implicitDefEqProofs only [go_sem, ↓reduceIte, Tryz.f162]
  rw [Int.tdiv_eq_ediv_of_nonneg hm.1, IntWalk.i64_in (m / 2) (by omega)]
  exact ⟨(x * b % 1000003, b * b % 1000003, m / 2), ⟨rfl, rfl, rfl⟩, ⟨aOM _, aOM _, (show 0 ≤ m / 2 ∧ m / 2 ≤ 4294967296 by omega), aXF hm.1 ho hp⟩, by simp only; omega⟩
 ·first | refine aH.mk (bV b b nb nb) ?_ | refine aF.mk (bV b b nb nb) ?_ | refine aH.bY (bV b b nb nb) ?_ | refine aF.mk (bQ.fJ (bV b b nb nb)) ?_
  simp -dsimp -implicitDefEqProofs only [go_sem, ↓reduceIte, Tryz.f162]
  rw [Int.tdiv_eq_ediv_of_nonneg hm.1, IntWalk.i64_in (m / 2) (by omega)]
  exact ⟨(x, b * b % 1000003, m / 2), ⟨rfl, rfl, rfl⟩, ⟨hx, aOM _, (show 0 ≤ m / 2 ∧ m / 2 ≤ 4294967296 by omega), aSG hm.1 ho hp⟩, by simp only; omega⟩
 ·have : m.toNat = 0 := by omega
  rw [this, aSF x b hx] at hp
  exact hp
@[go_sem] def a1O : List Nat := [0, 2]
@[go_sem] def bE2 : List Nat := []
@[go_sem] def bE3 : Marks := fun _ => ([], .nil, [])
theorem yO (a : Int) : gV Tryz.prog 159 [I a] (I (oE a)) := by
 refine gD 5 a1O bE2 bE3 mix Tryz.func159 rfl (by kernel_rfl) (by simp) fun h => ?_
 simp -dsimp -implicitDefEqProofs only [go_sem, ↓reduceIte, Tryz.f159]
 first | refine aH.mk (zH a 1000001 (by decide) (by decide)) ?_ | refine aF.mk (zH a 1000001 (by decide) (by decide)) ?_ | refine aH.bY (zH a 1000001 (by decide) (by decide)) ?_ | refine aF.mk (bQ.fJ (zH a 1000001 (by decide) (by decide))) ?_
 simp -dsimp -implicitDefEqProofs only [go_sem, ↓reduceIte, Tryz.f159]
 rfl
@[go_sem] def a1P : List Nat := [0, 1, 4]
@[go_sem] def bE4 : List Nat := []
@[go_sem] def bE5 : Marks := fun _ => ([], .nil, [])
theorem q0 (a b : Int) (ha : kI a) (hb : kI b) : gV Tryz.prog 160 [I a, I b] (I ((a - b) % 1000003)) := by
 unfold kI at ha hb
 refine gD 9 a1P bE4 bE5 mix Tryz.func160 rfl (by kernel_rfl) (by simp) fun h => ?_
 simp -dsimp -implicitDefEqProofs only [go_sem, ↓reduceIte, Tryz.f160]
 rw [IntWalk.i64_in _ (by omega)]
 first | refine aH.mk (cZ (a - b)) ?_ | refine aF.mk (cZ (a - b)) ?_ | refine aH.bY (cZ (a - b)) ?_ | refine aF.mk (bQ.fJ (cZ (a - b))) ?_
 simp -dsimp -implicitDefEqProofs only [go_sem, ↓reduceIte, Tryz.f160]
@[go_sem] def aSP : List Nat := [0, 1, 4, 5, 9]
@[go_sem] def a5L : List Nat := []
@[go_sem] def a5M : Marks := fun _ => ([], .nil, [])
theorem mK (n : Int) (sz : Nat) (hs : sz ≤ 1048576) : gV Tryz.prog 135 [I n, I sz] (ints (lP n sz)) := by
 rcases Nat.eq_zero_or_pos sz with rfl | hp
 ·refine uU 14 aSP a5L a5M mix Tryz.func135 rfl (by kernel_rfl) (by simp) fun h => ?_
  simp -dsimp -implicitDefEqProofs only [go_sem, ↓reduceIte, Tryz.f135]
  refine ⟨Nat.zero_lt_one, by omega, by omega, fun m hm => ⟨fun q => absurd q (by omega), fun _ => ?_⟩⟩
  exact fQ [] hm (aA.le_refl _) rfl
 ·have e2 := aSL (x := [aD.int .i64 0]) hp
  refine uU 14 aSP a5L a5M mix Tryz.func135 rfl (by kernel_rfl) (by simp) fun h => ?_
  simp -dsimp -implicitDefEqProofs only [go_sem, ↓reduceIte, Tryz.f135, Int.toNat_natCast, e2]
  refine ⟨Nat.zero_lt_one, Nat.le_refl _, by omega, by omega, fun m hm => ⟨fun _ => ⟨by omega, ?_⟩, fun q => absurd q (by omega)⟩⟩
  rw [aM, show Int.toNat 0 = 0 from rfl, aOS]
  exact fQ _ hm (aA.le_refl _) (aG8 n sz).symm
@[go_sem] def aSQ : List Nat := [0, 1, 4, 5, 6, 11]
@[go_sem] def a5N : List Nat := [7, 21]
@[go_sem] def a5O : Marks := fun _ => ([], .nil, [])
theorem rA (a : List Int) (m : Int) (hm : kI m) (hl : a.length ≤ 1048576) (ha : fG a) : gV Tryz.prog 136 [ints a, I m] (ints (nI a m)) := by
 have hc := tC a m
 refine uU 24 aSQ a5N a5O mix Tryz.func136 rfl (by kernel_rfl) (by simp) fun h => ?_
 simp -dsimp -implicitDefEqProofs only [go_sem, ↓reduceIte, Tryz.f136]
 refine ⟨Nat.zero_lt_one, ?_⟩
 refine dA (keep := aSQ) (ib := a5N) (mk := a5O) mix (by kernel_rfl) (fun x : Nat × Option Nat => [(0, ints a), (1, I m), (5, jM 1 ((nI a m).take x.1).length x.2), (6, I x.1)]) (fun x => cQ h (.row 1 ((((nI a m).take x.1).map fun n => [I n]).map (List.map .v))) x.2) (fun x => x.1 ≤ a.length ∧ gX h ((nI a m).take x.1) x.2) (fun x => a.length - x.1) (0, none) ⟨by simp [dF, b6, jM], by simp only [aQ]; exact aA.le_refl _, Nat.zero_le _, by simp [gX]⟩ ?_
 rintro ⟨k, o⟩ ⟨hk, hos⟩
 simp only at hk hos ⊢
 rcases Nat.lt_or_ge k a.length with hlt | hge
 ·have ea : a[k]? = some a[k] := List.getElem?_eq_getElem hlt
  have hy : (nI a m).take (k + 1) = (nI a m).take k ++ [(nI a m)[k]'(by omega)] := List.take_succ_eq_append_getElem (by omega)
  have hv : (nI a m)[k]'(by omega) = a[k] * m % 1000003 := by simp [nI]
  have hlk : ((nI a m).take k).length = k := by rw [List.length_take]; omega
  rw [hv] at hy
  cases o with
  |none =>
   rw [bH] at hos
   rw [hos] at hy ⊢
   simp -dsimp -implicitDefEqProofs only [go_sem, ↓reduceIte, Tryz.f136, bU, aQ, hlt, ea]
   intro _
   first | refine aH.mk (bV a[k] m (ha _ (List.getElem_mem hlt)) hm) ?_ | refine aF.mk (bV a[k] m (ha _ (List.getElem_mem hlt)) hm) ?_ | refine aH.bY (bV a[k] m (ha _ (List.getElem_mem hlt)) hm) ?_ | refine aF.mk (bQ.fJ (bV a[k] m (ha _ (List.getElem_mem hlt)) hm)) ?_
   simp -dsimp -implicitDefEqProofs only [go_sem, ↓reduceIte, Tryz.f136]
   repeat' (with_reducible first | intro _ | refine And.intro ?_ ?_)
   all_goals try (first | omega | decide)
   rename_i b hb
   refine ⟨(k + 1, some b), ?_⟩
   simp only [hy]
   refine ⟨⟨rfl, ?_⟩, aA.le_refl _, ⟨by omega, hb⟩, by omega⟩
   rw [IntWalk.i64_in _ (by omega)]; rfl
  |some n =>
   rw [aV] at hos
   simp -dsimp -implicitDefEqProofs only [go_sem, ↓reduceIte, Tryz.f136, aY, aJ, hlt, ea]
   intro _
   first | refine aH.mk (bV a[k] m (ha _ (List.getElem_mem hlt)) hm) ?_ | refine aF.mk (bV a[k] m (ha _ (List.getElem_mem hlt)) hm) ?_ | refine aH.bY (bV a[k] m (ha _ (List.getElem_mem hlt)) hm) ?_ | refine aF.mk (bQ.fJ (bV a[k] m (ha _ (List.getElem_mem hlt)) hm)) ?_
   simp -dsimp -implicitDefEqProofs only [go_sem, ↓reduceIte, Tryz.f136]
   repeat' (with_reducible first | intro _ | refine And.intro ?_ ?_)
   all_goals try (first | omega | decide | exact Nat.le_refl _)
   rename_i b hb
   refine ⟨(k + 1, some b), ?_⟩
   simp only [hy, aJ, aY, aV]
   refine ⟨⟨by rw [List.length_append]; rfl, ?_⟩, ?_, ⟨by omega, hb.2⟩, by omega⟩
   ·rw [IntWalk.i64_in _ (by omega)]; rfl
   ·rw [← fO]; exact lN hos
 ·have hk' : k = a.length := by omega
  subst hk'
  rw [List.take_of_length_le (by omega)] at hos ⊢
  cases o with
  |none =>
   rw [bH] at hos
   simp -dsimp -implicitDefEqProofs only [go_sem, ↓reduceIte, Tryz.f136, bU, aQ, Nat.lt_irrefl, Int.lt_irrefl]
   intro _
   rw [hos]
   exact Shift.of (Sub.loose _ _ _) (aA.le_refl _)
  |some n =>
   rw [aV] at hos
   simp -dsimp -implicitDefEqProofs only [go_sem, ↓reduceIte, Tryz.f136, aY, aJ, Nat.lt_irrefl, Int.lt_irrefl]
   intro _
   exact fQ _ hos (aA.le_refl _) rfl
@[go_sem] def aSR : List Nat := [0, 1, 4, 5, 6, 11]
@[go_sem] def a5P : List Nat := [7, 24]
@[go_sem] def a5Q : Marks := fun id => match id with | 5 => ([11], (.op 0 (.op 1 (.op 2 (.op 3 (.op 4 (.op 5 (.op 6 (.op 7 (.op 8 (.op 9 (.op 10 (.op 11 (.op 12 .nil))))))))))))), []) | _ => ([], .nil, [])
theorem yP (a b : List Int) (hab : b.length = a.length) (hl : a.length ≤ 1048576) (ha : fG a) (hb : fG b) : gV Tryz.prog 139 [ints a, ints b] (ints (pG a b)) := by
 have hc := aOJ hab
 refine uU 27 aSR a5P a5Q mix Tryz.func139 rfl (by kernel_rfl) (by simp) fun h => ?_
 simp -dsimp -implicitDefEqProofs only [go_sem, ↓reduceIte, Tryz.f139]
 refine ⟨Nat.zero_lt_one, ?_⟩
 refine dA (keep := aSR) (ib := a5P) (mk := a5Q) mix (by kernel_rfl) (fun x : Nat × Option Nat => [(0, ints a), (1, ints b), (5, jM 1 ((pG a b).take x.1).length x.2), (6, I x.1)]) (fun x => cQ h (.row 1 ((((pG a b).take x.1).map fun n => [I n]).map (List.map .v))) x.2) (fun x => x.1 ≤ a.length ∧ gX h ((pG a b).take x.1) x.2) (fun x => a.length - x.1) (0, none) ⟨by simp [dF, b6, jM], by simp only [aQ]; exact aA.le_refl _, Nat.zero_le _, by simp [gX]⟩ ?_
 rintro ⟨k, o⟩ ⟨hk, hos⟩
 simp only at hk hos ⊢
 rcases Nat.lt_or_ge k a.length with hlt | hge
 ·have ea : a[k]? = some a[k] := List.getElem?_eq_getElem hlt
  have eb : b[k]? = some (b[k]'(by omega)) := List.getElem?_eq_getElem (by omega)
  have hy : (pG a b).take (k + 1) = (pG a b).take k ++ [(pG a b)[k]'(by omega)] := List.take_succ_eq_append_getElem (by omega)
  have hv : (pG a b)[k]'(by omega) = (a[k] + b[k]'(by omega)) % 1000003 := by simp [pG]
  have hlk : ((pG a b).take k).length = k := by rw [List.length_take]; omega
  rw [hv] at hy
  cases o with
  |none =>
   rw [bH] at hos
   rw [hos] at hy ⊢
   simp -dsimp -implicitDefEqProofs only [go_sem, ↓reduceIte, Tryz.f139, bU, aQ, hlt, ea, eb]
   intro _
   refine ⟨by omega, ?_⟩
   first | refine aH.mk (iA a[k] (b[k]'(by omega))) ?_ | refine aF.mk (iA a[k] (b[k]'(by omega))) ?_ | refine aH.bY (iA a[k] (b[k]'(by omega))) ?_ | refine aF.mk (bQ.fJ (iA a[k] (b[k]'(by omega)))) ?_
   simp -dsimp -implicitDefEqProofs only [go_sem, ↓reduceIte, Tryz.f139]
   repeat' (with_reducible first | intro _ | refine And.intro ?_ ?_)
   all_goals try (first | omega | decide)
   rename_i b hb
   refine ⟨(k + 1, some b), ?_⟩
   simp only [hy]
   refine ⟨⟨rfl, ?_⟩, aA.le_refl _, ⟨by omega, hb⟩, by omega⟩
   rw [IntWalk.i64_in _ (by omega)]; rfl
  |some n =>
   rw [aV] at hos
   simp -dsimp -implicitDefEqProofs only [go_sem, ↓reduceIte, Tryz.f139, aY, aJ, hlt, ea, eb]
   intro _
   refine ⟨by omega, ?_⟩
   first | refine aH.mk (iA a[k] (b[k]'(by omega))) ?_ | refine aF.mk (iA a[k] (b[k]'(by omega))) ?_ | refine aH.bY (iA a[k] (b[k]'(by omega))) ?_ | refine aF.mk (bQ.fJ (iA a[k] (b[k]'(by omega)))) ?_
   simp -dsimp -implicitDefEqProofs only [go_sem, ↓reduceIte, Tryz.f139]
   repeat' (with_reducible first | intro _ | refine And.intro ?_ ?_)
   all_goals try (first | omega | decide | exact Nat.le_refl _)
   rename_i b hb
   refine ⟨(k + 1, some b), ?_⟩
   simp only [hy, aJ, aY, aV]
   refine ⟨⟨by rw [List.length_append]; rfl, ?_⟩, ?_, ⟨by omega, hb.2⟩, by omega⟩
   ·rw [IntWalk.i64_in _ (by omega)]; rfl
   ·rw [← fO]; exact lN hos
 ·have hk' : k = a.length := by omega
  subst hk'
  rw [List.take_of_length_le (by omega)] at hos ⊢
  cases o with
  |none =>
   rw [bH] at hos
   simp -dsimp -implicitDefEqProofs only [go_sem, ↓reduceIte, Tryz.f139, bU, aQ, Nat.lt_irrefl, Int.lt_irrefl]
   intro _
   rw [hos]
   exact Shift.of (Sub.loose _ _ _) (aA.le_refl _)
  |some n =>
   rw [aV] at hos
   simp -dsimp -implicitDefEqProofs only [go_sem, ↓reduceIte, Tryz.f139, aY, aJ, Nat.lt_irrefl, Int.lt_irrefl]
   intro _
   exact fQ _ hos (aA.le_refl _) rfl
@[go_sem] def a1Q : List Nat := [0, 1, 4]
@[go_sem] def bE6 : List Nat := []
@[go_sem] def bE7 : Marks := fun _ => ([], .nil, [])
theorem aK8 (a b : List Int) (hab : b.length = a.length) (hl : a.length ≤ 1048576) (ha : fG a) (hb : fG b) : gV Tryz.prog 140 [ints a, ints b] (ints (aOK a b)) := by
 refine gD 9 a1Q bE6 bE7 mix Tryz.func140 rfl (by kernel_rfl) (by simp) fun h => ?_
 simp -dsimp -implicitDefEqProofs only [go_sem, ↓reduceIte, Tryz.f140]
 first | refine aH.mk (rA b 1000002 (by unfold kI; omega) (by omega) hb) ?_ | refine aF.mk (rA b 1000002 (by unfold kI; omega) (by omega) hb) ?_ | refine aH.bY (rA b 1000002 (by unfold kI; omega) (by omega) hb) ?_ | refine aF.mk (bQ.fJ (rA b 1000002 (by unfold kI; omega) (by omega) hb)) ?_
 simp -dsimp -implicitDefEqProofs only [go_sem, ↓reduceIte, Tryz.f140]
 first | refine aH.mk (yP a (nI b 1000002) (by rw [tC]; exact hab) hl ha (mP _ ⟨rfl, hb⟩).2) ?_ | refine aF.mk (yP a (nI b 1000002) (by rw [tC]; exact hab) hl ha (mP _ ⟨rfl, hb⟩).2) ?_ | refine aH.bY (yP a (nI b 1000002) (by rw [tC]; exact hab) hl ha (mP _ ⟨rfl, hb⟩).2) ?_ | refine aF.mk (bQ.fJ (yP a (nI b 1000002) (by rw [tC]; exact hab) hl ha (mP _ ⟨rfl, hb⟩).2)) ?_
 simp -dsimp -implicitDefEqProofs only [go_sem, ↓reduceIte, Tryz.f140]
 rfl
@[go_sem] def aFE : List Nat := [0, 1, 4, 5, 6, 7, 8, 13, 18]
@[go_sem] def aSS : List Nat := [9, 36]
@[go_sem] def aST : Marks := fun id => match id with | 9 => ([], (.op 0 (.op 1 (.op 2 (.op 3 (.op 4 (.op 5 (.op 6 (.op 7 (.op 8 (.op 9 (.op 10 (.op 11 (.op 12 (.op 13 .nil)))))))))))))), []) | _ => ([], .nil, [])
theorem aK9 (a b : List Int) (hab : b.length = a.length) (hl : a.length ≤ 1048576) (ha : fG a) (hb : fG b) : gV Tryz.prog 141 [ints a, ints b] (ints (mulL a b)) := by
 have hc := aOO a b
 refine uU 39 aFE aSS aST mix Tryz.func141 rfl (by kernel_rfl) (by simp) fun h => ?_
 simp -dsimp -implicitDefEqProofs only [go_sem, ↓reduceIte, Tryz.f141]
 refine ⟨Nat.zero_lt_one, ?_⟩
 refine dA (keep := aFE) (ib := aSS) (mk := aST) mix (by kernel_rfl) (fun x : Nat × Option Nat => [(0, ints a), (1, ints b), (5, jM 1 ((mulL a b).take x.1).length x.2), (6, I x.1)]) (fun x => cQ h (.row 1 ((((mulL a b).take x.1).map fun n => [I n]).map (List.map .v))) x.2) (fun x => x.1 ≤ a.length ∧ gX h ((mulL a b).take x.1) x.2) (fun x => a.length - x.1) (0, none) ⟨by simp [dF, b6, jM], by simp only [aQ]; exact aA.le_refl _, Nat.zero_le _, by simp [gX]⟩ ?_
 rintro ⟨k, o⟩ ⟨hk, hos⟩
 simp only at hk hos ⊢
 rcases Nat.lt_or_ge k a.length with hlt | hge
 ·have hy : (mulL a b).take (k + 1) = (mulL a b).take k ++ [(mulL a b)[k]'(by omega)] := List.take_succ_eq_append_getElem (by omega)
  have hv : (mulL a b)[k]'(by omega) = cvS a b k (k + 1) := by simp [mulL]
  have hlk : ((mulL a b).take k).length = k := by rw [List.length_take]; omega
  rw [hv] at hy
  cases o with
  |none =>
   rw [bH] at hos
   rw [hos] at hy ⊢
   simp -dsimp -implicitDefEqProofs only [go_sem, ↓reduceIte, Tryz.f141, bU, aQ, hlt]
   intro _
   refine oN (keep := aFE) (ib := aSS) (mk := aST) mix (by kernel_rfl) (fun i : Nat => [(0, ints a), (1, ints b), (5, .sl 1 [] true), (6, I k), (7, I (cvS a b k i)), (8, I i)]) (fun i => i ≤ k + 1) (fun i => k + 1 - i) 0 ⟨by simp [dF, b6, cvS], Nat.zero_le _⟩ ?_
   intro i hi
   rcases Nat.lt_or_ge i (k + 1) with nD | aKZ
   ·have ea := cX (l := a) (i := i) (by omega)
    have eb := cX (l := b) (i := k - i) (by omega)
    have ew : IntKind.i64.wrap ((k : Int) - (i : Int)) = ((k - i : Nat) : Int) := by rw [IntWalk.i64_in _ (by omega)]; omega
    simp -dsimp -implicitDefEqProofs only [go_sem, ↓reduceIte, Tryz.f141, ea, eb, ew]
    refine ⟨fun _ => ⟨by omega, by omega, ?_⟩, fun q => absurd (by omega) q⟩
    first | refine aH.mk (bV (a.getD i 0) (b.getD (k - i) 0) (ha.get i) (hb.get (k - i))) ?_ | refine aF.mk (bV (a.getD i 0) (b.getD (k - i) 0) (ha.get i) (hb.get (k - i))) ?_ | refine aH.bY (bV (a.getD i 0) (b.getD (k - i) 0) (ha.get i) (hb.get (k - i))) ?_ | refine aF.mk (bQ.fJ (bV (a.getD i 0) (b.getD (k - i) 0) (ha.get i) (hb.get (k - i)))) ?_
    simp -dsimp -implicitDefEqProofs only [go_sem, ↓reduceIte, Tryz.f141]
    first | refine aH.mk (iA (cvS a b k i) (a.getD i 0 * b.getD (k - i) 0 % 1000003)) ?_ | refine aF.mk (iA (cvS a b k i) (a.getD i 0 * b.getD (k - i) 0 % 1000003)) ?_ | refine aH.bY (iA (cvS a b k i) (a.getD i 0 * b.getD (k - i) 0 % 1000003)) ?_ | refine aF.mk (bQ.fJ (iA (cvS a b k i) (a.getD i 0 * b.getD (k - i) 0 % 1000003))) ?_
    simp -dsimp -implicitDefEqProofs only [go_sem, ↓reduceIte, Tryz.f141]
    refine ⟨i + 1, ⟨?_, by rw [IntWalk.i64_in _ (by omega)]; rfl⟩, by omega, by omega⟩
    rw [cvS]
    omega
   ·have hi' : i = k + 1 := by omega
    subst hi'
    simp -dsimp -implicitDefEqProofs only [go_sem, ↓reduceIte, Tryz.f141, hlt]
    refine ⟨fun q => absurd q (by omega), fun _ => ?_⟩
    repeat' (with_reducible first | intro _ | refine And.intro ?_ ?_)
    all_goals try (first | omega | decide)
    rename_i b hb
    refine ⟨(k + 1, some b), ?_⟩
    simp only [hy]
    refine ⟨⟨rfl, ?_⟩, aA.le_refl _, ⟨by omega, hb⟩, by omega⟩
    rw [IntWalk.i64_in _ (by omega)]; rfl
  |some n =>
   rw [aV] at hos
   simp -dsimp -implicitDefEqProofs only [go_sem, ↓reduceIte, Tryz.f141, aY, aJ, hlt]
   intro _
   refine oN (keep := aFE) (ib := aSS) (mk := aST) mix (by kernel_rfl) (fun i : Nat => [(0, ints a), (1, ints b), (5, .os n 1 0 ((mulL a b).take k).length), (6, I k), (7, I (cvS a b k i)), (8, I i)]) (fun i => i ≤ k + 1) (fun i => k + 1 - i) 0 ⟨by simp [dF, b6, cvS], Nat.zero_le _⟩ ?_
   intro i hi
   rcases Nat.lt_or_ge i (k + 1) with nD | aKZ
   ·have ea := cX (l := a) (i := i) (by omega)
    have eb := cX (l := b) (i := k - i) (by omega)
    have ew : IntKind.i64.wrap ((k : Int) - (i : Int)) = ((k - i : Nat) : Int) := by rw [IntWalk.i64_in _ (by omega)]; omega
    simp -dsimp -implicitDefEqProofs only [go_sem, ↓reduceIte, Tryz.f141, ea, eb, ew]
    refine ⟨fun _ => ⟨by omega, by omega, ?_⟩, fun q => absurd (by omega) q⟩
    first | refine aH.mk (bV (a.getD i 0) (b.getD (k - i) 0) (ha.get i) (hb.get (k - i))) ?_ | refine aF.mk (bV (a.getD i 0) (b.getD (k - i) 0) (ha.get i) (hb.get (k - i))) ?_ | refine aH.bY (bV (a.getD i 0) (b.getD (k - i) 0) (ha.get i) (hb.get (k - i))) ?_ | refine aF.mk (bQ.fJ (bV (a.getD i 0) (b.getD (k - i) 0) (ha.get i) (hb.get (k - i)))) ?_
    simp -dsimp -implicitDefEqProofs only [go_sem, ↓reduceIte, Tryz.f141]
    first | refine aH.mk (iA (cvS a b k i) (a.getD i 0 * b.getD (k - i) 0 % 1000003)) ?_ | refine aF.mk (iA (cvS a b k i) (a.getD i 0 * b.getD (k - i) 0 % 1000003)) ?_ | refine aH.bY (iA (cvS a b k i) (a.getD i 0 * b.getD (k - i) 0 % 1000003)) ?_ | refine aF.mk (bQ.fJ (iA (cvS a b k i) (a.getD i 0 * b.getD (k - i) 0 % 1000003))) ?_
    simp -dsimp -implicitDefEqProofs only [go_sem, ↓reduceIte, Tryz.f141]
    refine ⟨i + 1, ⟨?_, by rw [IntWalk.i64_in _ (by omega)]; rfl⟩, by omega, by omega⟩
    rw [cvS]
    omega
   ·have hi' : i = k + 1 := by omega
    subst hi'
    simp -dsimp -implicitDefEqProofs only [go_sem, ↓reduceIte, Tryz.f141, hlt]
    refine ⟨fun q => absurd q (by omega), fun _ => ?_⟩
    repeat' (with_reducible first | intro _ | refine And.intro ?_ ?_)
    all_goals try (first | omega | decide | exact Nat.le_refl _)
    rename_i b hb
    refine ⟨(k + 1, some b), ?_⟩
    simp only [hy, aJ, aY, aV]
    refine ⟨⟨by rw [List.length_append]; rfl, ?_⟩, ?_, ⟨by omega, hb.2⟩, by omega⟩
    ·rw [IntWalk.i64_in _ (by omega)]; rfl
    ·rw [← fO]; exact lN hos
 ·have hk' : k = a.length := by omega
  subst hk'
  rw [List.take_of_length_le (by omega)] at hos ⊢
  cases o with
  |none =>
   rw [bH] at hos
   simp -dsimp -implicitDefEqProofs only [go_sem, ↓reduceIte, Tryz.f141, bU, aQ, Nat.lt_irrefl, Int.lt_irrefl]
   intro _
   rw [hos]
   exact Shift.of (Sub.loose _ _ _) (aA.le_refl _)
  |some n =>
   rw [aV] at hos
   simp -dsimp -implicitDefEqProofs only [go_sem, ↓reduceIte, Tryz.f141, aY, aJ, Nat.lt_irrefl, Int.lt_irrefl]
   intro _
   exact fQ _ hos (aA.le_refl _) rfl
@[go_sem] def aFF : List Nat := [0, 1, 4, 5, 6, 7, 8, 9, 18, 27]
@[go_sem] def aSU : List Nat := [10, 47]
@[go_sem] def aSV : Marks := fun id => match id with | 10 => ([4], (.op 0 (.op 1 (.op 2 (.op 3 (.op 5 (.op 6 (.op 7 (.op 8 (.op 9 (.op 10 (.op 4 (.op 11 (.op 12 (.op 13 .nil)))))))))))))), []) | _ => ([], .nil, [])
theorem a8C (a b : List Int) (hab : b.length = a.length) (hl : a.length ≤ 1048576) (h0 : 0 < a.length) (ha : fG a) (hb : fG b) : gV Tryz.prog 142 [ints a, ints b] (ints (nJ a b)) := by
 have hc := vK a b
 have e0 : b[Int.toNat 0]? = some (b.getD 0 0) := cX (l := b) (i := 0) (by omega)
 refine uU 50 aFF aSU aSV mix Tryz.func142 rfl (by kernel_rfl) (by simp) fun h => ?_
 simp -dsimp -implicitDefEqProofs only [go_sem, ↓reduceIte, Tryz.f142, e0]
 refine ⟨Nat.zero_lt_one, by omega, ?_⟩
 first | refine aH.mk (yO (b.getD 0 0)) ?_ | refine aF.mk (yO (b.getD 0 0)) ?_ | refine aH.bY (yO (b.getD 0 0)) ?_ | refine aF.mk (bQ.fJ (yO (b.getD 0 0))) ?_
 simp -dsimp -implicitDefEqProofs only [go_sem, ↓reduceIte, Tryz.f142]
 refine dA (keep := aFF) (ib := aSU) (mk := aSV) mix (by kernel_rfl) (fun x : Nat × Option Nat => [(0, ints a), (1, ints b), (6, I (oE (b.getD 0 0))), (5, jM 1 ((nJ a b).take x.1).length x.2), (7, I x.1)]) (fun x => cQ h (.row 1 ((((nJ a b).take x.1).map fun n => [I n]).map (List.map .v))) x.2) (fun x => x.1 ≤ a.length ∧ gX h ((nJ a b).take x.1) x.2) (fun x => a.length - x.1) (0, none) ⟨by simp [dF, b6, jM], by simp only [aQ]; exact aA.le_refl _, Nat.zero_le _, by simp [gX]⟩ ?_
 rintro ⟨k, o⟩ ⟨hk, hos⟩
 simp only at hk hos ⊢
 rcases Nat.lt_or_ge k a.length with hlt | hge
 ·have hy : (nJ a b).take (k + 1) = (nJ a b).take k ++ [(nJ a b)[k]'(by omega)] := List.take_succ_eq_append_getElem (by omega)
  have hv := aON (a := a) (b := b) hlt
  have hlk : ((nJ a b).take k).length = k := by rw [List.length_take]; omega
  have ek := cX hlt
  rw [hv] at hy
  cases o with
  |none =>
   rw [bH] at hos
   rw [hos] at hy ⊢
   have hk0 : k = 0 := by rw [hos] at hlk; exact hlk.symm
   subst hk0
   simp -dsimp -implicitDefEqProofs only [go_sem, ↓reduceIte, Tryz.f142, bU, aQ, hlt, ek]
   intro _
   refine oN (keep := aFF) (ib := aSU) (mk := aSV) mix (by kernel_rfl) (fun _ : Unit => [(0, ints a), (1, ints b), (5, .sl 1 [] true), (6, I (oE (b.getD 0 0))), (7, I (0 : Nat)), (8, I (a.getD 0 0)), (9, I (0 : Nat))]) (fun _ => True) (fun _ => 0) () ⟨by simp [dF, b6], trivial⟩ ?_
   intro _ _
   simp -dsimp -implicitDefEqProofs only [go_sem, ↓reduceIte, Tryz.f142, Nat.lt_irrefl, Int.lt_irrefl]
   try (refine ⟨fun q => absurd q (by omega), fun _ => ?_⟩)
   first | refine aH.mk (bV (a.getD 0 0) (oE (b.getD 0 0)) (ha.get 0) (num_inv _)) ?_ | refine aF.mk (bV (a.getD 0 0) (oE (b.getD 0 0)) (ha.get 0) (num_inv _)) ?_ | refine aH.bY (bV (a.getD 0 0) (oE (b.getD 0 0)) (ha.get 0) (num_inv _)) ?_ | refine aF.mk (bQ.fJ (bV (a.getD 0 0) (oE (b.getD 0 0)) (ha.get 0) (num_inv _))) ?_
   simp -dsimp -implicitDefEqProofs only [go_sem, ↓reduceIte, Tryz.f142]
   repeat' (with_reducible first | intro _ | refine And.intro ?_ ?_)
   all_goals try (first | omega | decide)
   rename_i b hb
   refine ⟨(0 + 1, some b), ?_⟩
   simp only [hy]
   refine ⟨⟨rfl, ?_⟩, aA.le_refl _, ⟨by omega, hb⟩, by omega⟩
   rw [IntWalk.i64_in _ (by omega)]; rfl
  |some n =>
   rw [aV] at hos
   simp -dsimp -implicitDefEqProofs only [go_sem, ↓reduceIte, Tryz.f142, aY, aJ, hlt, ek]
   intro _
   have htk : (nJ a b).take k = j6 a b k := aDH a b _ hk
   refine oN (keep := aFF) (ib := aSU) (mk := aSV) mix (by kernel_rfl) (fun i : Nat => [(0, ints a), (1, ints b), (5, .os n 1 0 ((nJ a b).take k).length), (6, I (oE (b.getD 0 0))), (7, I k), (8, I (dvS (j6 a b k) b k (a.getD k 0) i)), (9, I i)]) (fun i => i ≤ k) (fun i => k - i) 0 ⟨by simp [dF, b6, dvS], Nat.zero_le _⟩ ?_
   intro i hi
   rcases Nat.lt_or_ge i k with nD | aKZ
   ·have ei : ((nJ a b).take k)[i]? = some ((j6 a b k).getD i 0) := by rw [htk]; exact cX (by rw [oO]; exact nD)
    have eb := cX (l := b) (i := k - i) (by omega)
    have ew : IntKind.i64.wrap ((k : Int) - (i : Int)) = ((k - i : Nat) : Int) := by rw [IntWalk.i64_in _ (by omega)]; omega
    simp -dsimp -implicitDefEqProofs only [go_sem, ↓reduceIte, Tryz.f142, nD, ei, eb, ew]
    refine ⟨by omega, by omega, ?_⟩
    first | refine aH.mk (bV ((j6 a b k).getD i 0) (b.getD (k - i) 0) ((tB a b k).get i) (hb.get (k - i))) ?_ | refine aF.mk (bV ((j6 a b k).getD i 0) (b.getD (k - i) 0) ((tB a b k).get i) (hb.get (k - i))) ?_ | refine aH.bY (bV ((j6 a b k).getD i 0) (b.getD (k - i) 0) ((tB a b k).get i) (hb.get (k - i))) ?_ | refine aF.mk (bQ.fJ (bV ((j6 a b k).getD i 0) (b.getD (k - i) 0) ((tB a b k).get i) (hb.get (k - i)))) ?_
    simp -dsimp -implicitDefEqProofs only [go_sem, ↓reduceIte, Tryz.f142]
    first | refine aH.mk (q0 (dvS (j6 a b k) b k (a.getD k 0) i) ((j6 a b k).getD i 0 * b.getD (k - i) 0 % 1000003) (wL _ _ _ (ha.get k) i) (pO _)) ?_ | refine aF.mk (q0 (dvS (j6 a b k) b k (a.getD k 0) i) ((j6 a b k).getD i 0 * b.getD (k - i) 0 % 1000003) (wL _ _ _ (ha.get k) i) (pO _)) ?_ | refine aH.bY (q0 (dvS (j6 a b k) b k (a.getD k 0) i) ((j6 a b k).getD i 0 * b.getD (k - i) 0 % 1000003) (wL _ _ _ (ha.get k) i) (pO _)) ?_ | refine aF.mk (bQ.fJ (q0 (dvS (j6 a b k) b k (a.getD k 0) i) ((j6 a b k).getD i 0 * b.getD (k - i) 0 % 1000003) (wL _ _ _ (ha.get k) i) (pO _))) ?_
    simp -dsimp -implicitDefEqProofs only [go_sem, ↓reduceIte, Tryz.f142]
    refine ⟨i + 1, ⟨?_, by rw [IntWalk.i64_in _ (by omega)]; rfl⟩, by omega, by omega⟩
    rw [dvS]
    omega
   ·have hi' : i = k := by omega
    subst hi'
    simp -dsimp -implicitDefEqProofs only [go_sem, ↓reduceIte, Tryz.f142, Nat.lt_irrefl, Int.lt_irrefl]
    first | refine aH.mk (bV (dvS (j6 a b i) b i (a.getD i 0) i) (oE (b.getD 0 0)) (wL _ _ _ (ha.get i) i) (num_inv _)) ?_ | refine aF.mk (bV (dvS (j6 a b i) b i (a.getD i 0) i) (oE (b.getD 0 0)) (wL _ _ _ (ha.get i) i) (num_inv _)) ?_ | refine aH.bY (bV (dvS (j6 a b i) b i (a.getD i 0) i) (oE (b.getD 0 0)) (wL _ _ _ (ha.get i) i) (num_inv _)) ?_ | refine aF.mk (bQ.fJ (bV (dvS (j6 a b i) b i (a.getD i 0) i) (oE (b.getD 0 0)) (wL _ _ _ (ha.get i) i) (num_inv _))) ?_
    simp -dsimp -implicitDefEqProofs only [go_sem, ↓reduceIte, Tryz.f142]
    repeat' (with_reducible first | intro _ | refine And.intro ?_ ?_)
    all_goals try (first | omega | decide | exact Nat.le_refl _)
    rename_i b hb
    refine ⟨(i + 1, some b), ?_⟩
    simp only [hy, aJ, aY, aV]
    refine ⟨⟨by rw [List.length_append]; rfl, ?_⟩, ?_, ⟨by omega, hb.2⟩, by omega⟩
    ·rw [IntWalk.i64_in _ (by omega)]; rfl
    ·rw [← fO]; exact lN hos
 ·have hk' : k = a.length := by omega
  subst hk'
  rw [List.take_of_length_le (by omega)] at hos ⊢
  cases o with
  |none =>
   rw [bH] at hos
   simp -dsimp -implicitDefEqProofs only [go_sem, ↓reduceIte, Tryz.f142, bU, aQ, Nat.lt_irrefl, Int.lt_irrefl]
   intro _
   rw [hos]
   exact Shift.of (Sub.loose _ _ _) (aA.le_refl _)
  |some n =>
   rw [aV] at hos
   simp -dsimp -implicitDefEqProofs only [go_sem, ↓reduceIte, Tryz.f142, aY, aJ, Nat.lt_irrefl, Int.lt_irrefl]
   intro _
   exact fQ _ hos (aA.le_refl _) rfl
theorem yQ {h h' : aA} {n : Nat} (l : List (List Int)) (h0 : h n = none) (hl : (aT h n (.row 1 ((l.map fun s => [ints s]).map (List.map .v)))).le h') {len : Nat} (e : len = l.length) : Shift (.os n 1 0 len) h' (eI 1 (fun s => [ints s]) l) h :=
 sK (l.map fun s => [ints s]) h0 hl len (by rw [List.length_map]; exact e)
@[go_sem] def aSW : List Nat := [0, 1, 4, 5, 6, 11]
@[go_sem] def a5R : List Nat := [7, 19, 23]
@[go_sem] def a5S : Marks := fun _ => ([], .nil, [])
theorem aLA (env : List (List Int)) (s : List Int) (hl : env.length ≤ 1048576) : gV Tryz.prog 137 [eI 1 (fun s => [ints s]) env, ints s] (eI 1 (fun s => [ints s]) (env ++ [s])) := by
 refine uU 25 aSW a5R a5S mix Tryz.func137 rfl (by kernel_rfl) (by simp) fun h => ?_
 simp -dsimp -implicitDefEqProofs only [go_sem, ↓reduceIte, Tryz.f137]
 refine ⟨Nat.zero_lt_one, ?_⟩
 refine dA (keep := aSW) (ib := a5R) (mk := a5S) mix (by kernel_rfl) (fun x : Nat × Option Nat => [(0, eI 1 (fun s => [ints s]) env), (1, ints s), (5, jM 1 (env.take x.1).length x.2), (6, I x.1)]) (fun x => cQ h (.row 1 (((env.take x.1).map fun s => [ints s]).map (List.map .v))) x.2) (fun x => x.1 ≤ env.length ∧ gX h (env.take x.1) x.2) (fun x => env.length - x.1) (0, none) ⟨by simp [dF, b6, jM], by simp only [aQ]; exact aA.le_refl _, Nat.zero_le _, by simp [gX]⟩ ?_
 rintro ⟨k, o⟩ ⟨hk, hos⟩
 simp only at hk hos ⊢
 rcases Nat.lt_or_ge k env.length with hlt | hge
 ·have ea : env[k]? = some env[k] := List.getElem?_eq_getElem hlt
  have hy : env.take (k + 1) = env.take k ++ [env[k]] := List.take_succ_eq_append_getElem hlt
  have hlk : (env.take k).length = k := by rw [List.length_take]; omega
  cases o with
  |none =>
   rw [bH] at hos
   rw [hos] at hy ⊢
   simp -dsimp -implicitDefEqProofs only [go_sem, ↓reduceIte, Tryz.f137, bU, aQ, hlt, ea]
   intro _
   repeat' (with_reducible first | intro _ | refine And.intro ?_ ?_)
   all_goals try (first | omega | decide)
   rename_i b hb
   refine ⟨(k + 1, some b), ?_⟩
   simp only [hy]
   refine ⟨⟨rfl, ?_⟩, aA.le_refl _, ⟨by omega, hb⟩, by omega⟩
   rw [IntWalk.i64_in _ (by omega)]; rfl
  |some n =>
   rw [aV] at hos
   simp -dsimp -implicitDefEqProofs only [go_sem, ↓reduceIte, Tryz.f137, aY, aJ, hlt, ea]
   intro _
   repeat' (with_reducible first | intro _ | refine And.intro ?_ ?_)
   all_goals try (first | omega | decide | exact Nat.le_refl _)
   rename_i b hb
   refine ⟨(k + 1, some b), ?_⟩
   simp only [hy, aJ, aY, aV]
   refine ⟨⟨by rw [List.length_append]; rfl, ?_⟩, ?_, ⟨by omega, hb.2⟩, by omega⟩
   ·rw [IntWalk.i64_in _ (by omega)]; rfl
   ·rw [← fO]; exact lN hos
 ·have hk' : k = env.length := by omega
  subst hk'
  rw [List.take_length] at hos ⊢
  cases o with
  |none =>
   rw [bH] at hos
   simp -dsimp -implicitDefEqProofs only [go_sem, ↓reduceIte, Tryz.f137, bU, aQ, Nat.lt_irrefl, Int.lt_irrefl]
   subst hos
   exact fun _ => ⟨Nat.zero_lt_one, Nat.zero_lt_one, Nat.zero_lt_one, fun n hn => yQ [s] hn (aA.le_refl _) rfl⟩
  |some n =>
   rw [aV] at hos
   simp -dsimp -implicitDefEqProofs only [go_sem, ↓reduceIte, Tryz.f137, aY, aJ, Nat.lt_irrefl, Int.lt_irrefl]
   exact fun _ => ⟨Nat.zero_lt_one, Nat.zero_lt_one, Nat.zero_lt_one, Nat.le_refl _, by omega, by omega, fun m hm => yQ (env ++ [s]) hm.2 (by rw [← fO]; exact lN hos) (by rw [List.length_append]; rfl)⟩
set_option maxRecDepth 100000
open Go.Proofs
set_option linter.unusedVariables false
set_option linter.unusedSimpArgs false
def eN (p : aE) (sz st : Nat) (c : Int) : cB := .row 4 [[.v (.ip 1 [p.c] 0 0), .v (I sz), .v (I st), .v (I c)]]
def RnQ (h : aA) (nb : Nat) (p : aE) (sz st : Nat) (c : Int) (X : Out (List Int)) : aD → aA → Prop := fun r h' => ∃ s t c', r = ints s ∧ h' = aT h nb (eN p sz t c') ∧ cV sz s ∧ st ≤ t ∧ t ≤ 3000 ∧ jB (oG c X) s t c'
def bLL (h : aA) (nb : Nat) (p : aE) (sz st : Nat) (c : Int) (n : Nat) (X : Out (List (List Int))) : aD → aA → Prop := fun r h' => ∃ l t c', r = fE l ∧ h' = aT h nb (eN p sz t c') ∧ l.length = n ∧ (∀ s ∈ l, cV sz s) ∧ st ≤ t ∧ t ≤ 3000 ∧ jB (oG c X) l t c'
@[go_sem] def a1R : List Nat := [0, 1, 4, 9]
@[go_sem] def bE8 : List Nat := []
@[go_sem] def bE9 : Marks := fun _ => ([], .nil, [])
theorem aSX (h : aA) (nb : Nat) (p : aE) (sz st : Nat) (c d : Int) (hb : h nb = some (eN p sz st c)) (hsz : sz ≤ 1048576) : fF Tryz.prog 134 [.op nb 4 0 0, I d] h fun r h' => r = ints (lP 0 sz) ∧ h' = aT h nb (eN p sz st (if c = 0 then d else c)) := by
 have hb' := hb
 unfold eN at hb'
 refine aBJ 19 a1R bE8 bE9 mix Tryz.func134 rfl (by kernel_rfl) (by simp) ?_
 simp -dsimp -implicitDefEqProofs only [go_sem, ↓reduceIte, Tryz.f134, hb']
 refine ⟨fun hc => ?_, fun hc => ?_⟩
 ·try simp -dsimp -implicitDefEqProofs only [go_sem, ↓reduceIte, Tryz.f134]
  first | refine aH.mk (mK 0 sz hsz) ?_ | refine aF.mk (mK 0 sz hsz) ?_ | refine aH.bY (mK 0 sz hsz) ?_ | refine aF.mk (bQ.fJ (mK 0 sz hsz)) ?_
  simp -dsimp -implicitDefEqProofs only [go_sem, ↓reduceIte, Tryz.f134]
  exact ⟨_, by rw [if_pos hc]; exact aA.le_refl _, rfl⟩
 ·try simp -dsimp -implicitDefEqProofs only [go_sem, ↓reduceIte, Tryz.f134, hb']
  first | refine aH.mk (mK 0 sz hsz) ?_ | refine aF.mk (mK 0 sz hsz) ?_ | refine aH.bY (mK 0 sz hsz) ?_ | refine aF.mk (bQ.fJ (mK 0 sz hsz)) ?_
  simp -dsimp -implicitDefEqProofs only [go_sem, ↓reduceIte, Tryz.f134]
  refine ⟨_, ?_, rfl⟩
  rw [if_neg hc, qX hb]
  exact aA.le_refl _
@[go_sem] def oU : List Nat := [0, 1, 2, 6, 7, 8, 9, 14, 25, 38, 39, 50, 59, 70, 82, 99, 119, 142, 151, 160, 169]
@[go_sem] def xO : List Nat := []
@[go_sem] def xP : Marks := fun id => match id with | 8 => ([7, 8], (.op 0 (.op 1 (.op 2 (.op 3 (.op 4 (.op 5 (.op 6 (.op 7 (.op 8 (.op 9 .nil)))))))))), []) | 19 => ([8, 9], (.op 0 (.op 1 (.op 2 (.op 3 (.op 4 (.op 5 (.op 6 (.op 7 (.op 8 (.op 9 (.op 10 .nil))))))))))), []) | _ => ([], .nil, [])
def rC (p : aE) (sz n : Nat) : Prop := ∀ (h : aA) (nb st : Nat) (c : Int) (e : aB) (env : List (List Int)) (funcs : Int), h nb = some (eN p sz st c) → st ≤ 3000 → 3001 ≤ n + st → e.ok p funcs env.length → 0 ≤ funcs → funcs ≤ p.aI.length → (∀ s ∈ env, cV sz s) → env.length ≤ 412 + st →
 fF Tryz.prog 116 [.op nb 4 0 0, .ip 5 [e.c] 0 0, fE env] h (RnQ h nb p sz st c (iU p sz n st e env))
theorem a8D {l : List aB} {k : Nat} {x : aB} (h : l[k]? = some x) (i : Nat) (hi : i = k) : Sub (.ip 5 (l.map aB.c) i 0) (.ip 5 [x.c] 0 0) := by
 subst hi
 exact Sub.ip (by rw [List.getElem?_map, h]; rfl) (by simp)
theorem rC.at {p : aE} {sz n : Nat} (hv : rC p sz n) {l : List aB} {i : Nat} {e : aB} (hi : l[i]? = some e) (h : aA) (nb st : Nat) (c : Int) (env : List (List Int)) (funcs : Int) (hb : h nb = some (eN p sz st c)) (hst : st ≤ 3000) (hn : 3001 ≤ n + st) (hok : e.ok p funcs env.length) (eH : 0 ≤ funcs) (hf : funcs ≤ p.aI.length) (henv : ∀ s ∈ env, cV sz s) (hel : env.length ≤ 412 + st) :
  fF Tryz.prog 116 [.op nb 4 0 0, .ip 5 (l.map aB.c) i 0, fE env] h (RnQ h nb p sz st c (iU p sz n st e env)) :=
 fF.sub (.cons (.refl _) (.cons (a8D hi _ rfl) (.cons (.refl _) .nil))) (hv h nb st c e env funcs hb hst hn hok eH hf henv hel)
@[go_sem] def aXR : List Nat := [0, 1, 2, 6, 7, 8, 16]
@[go_sem] def bFA : List Nat := [9, 29]
@[go_sem] def bFB : Marks := fun _ => ([], .nil, [])
theorem aLB {p : aE} {sz n : Nat} (hv : rC p sz n) (h : aA) (nb st : Nat) (c : Int) (f : aS) (env : List (List Int)) (funcs : Int) (hb : h nb = some (eN p sz st c)) (hst : st ≤ 3000) (hn : 3001 ≤ n + st)
  (hl : f.aW.length ≤ 1048576) (hok : ∀ e ∈ f.aW, e.ok p funcs env.length) (eH : 0 ≤ funcs) (hf : funcs ≤ p.aI.length) (henv : ∀ s ∈ env, cV sz s) (hel : env.length ≤ 412 + st) :
  fF Tryz.prog 89 [.op nb 4 0 0, .ip 3 [f.c] 0 0, fE env] h (bLL h nb p sz st c f.aW.length (lJ (fun t e => iU p sz n t e env) f.aW st)) := by
 rw [aS.aR]
 refine gK 32 aXR bFA bFB mix Tryz.func89 rfl (by kernel_rfl) (by simp) ?_
 simp -dsimp -implicitDefEqProofs only [go_sem, ↓reduceIte, Tryz.f89]
 refine ⟨Nat.zero_lt_one, ?_⟩
 refine dA (keep := aXR) (ib := bFA) (mk := bFB) mix (by kernel_rfl) (fun x : Nat × List (List Int) × Nat × Int × Option Nat => [(0, .op nb 4 0 0), (1, .ip 3 [[.str f.j5, I f.aZ, eI 5 aB.c f.aW]] 0 0), (2, fE env), (7, jM 1 x.2.1.length x.2.2.2.2), (8, I x.1)]) (fun x => cQ (aT h nb (eN p sz x.2.2.1 x.2.2.2.1)) (.row 1 ((x.2.1.map fun s => [ints s]).map (List.map .v))) x.2.2.2.2) (fun x => x.1 ≤ f.aW.length ∧ x.2.1.length = x.1 ∧ (∀ s ∈ x.2.1, cV sz s) ∧ st ≤ x.2.2.1 ∧ x.2.2.1 ≤ 3000 ∧ jB (oG c (lJ (fun t e => iU p sz n t e env) (f.aW.take x.1) st)) x.2.1 x.2.2.1 x.2.2.2.1 ∧ gX h x.2.1 x.2.2.2.2) (fun x => f.aW.length - x.1) (0, [], st, c, none) ⟨by simp [dF, b6, jM], by simp only [aQ]; rw [qX hb]; exact aA.le_refl _, Nat.zero_le _, rfl, by simp, Nat.le_refl _, hst, gR _ _ _, rfl⟩ ?_
 rintro ⟨k, vs, t, c', o⟩ ⟨hk, hvl, hvs, ht0, ht, ho, hos⟩
 simp only at hk hvl hvs ht0 ht ho hos ⊢
 rcases Nat.lt_or_ge k f.aW.length with hlt | hge
 ·have ek : f.aW[k]? = some f.aW[k] := List.getElem?_eq_getElem hlt
  have hnext : ∀ (s : List Int) (t2 : Nat) (c2 : Int), jB (oG c' (iU p sz n t f.aW[k] env)) s t2 c2 → jB (oG c (lJ (fun t e => iU p sz n t e env) (f.aW.take (k + 1)) st)) (vs ++ [s]) t2 c2 := fun s t2 c2 h3 => by
   rw [List.take_succ_eq_append_getElem hlt, vI]
   exact ho.dY (h3.dY (gR _ _ _))
  have hall : ∀ s, cV sz s → ∀ x ∈ vs ++ [s], cV sz x := fun s hs => tE hvs hs
  cases o with
  |none =>
   rw [bH] at hos
   subst hos
   simp -dsimp -implicitDefEqProofs only [go_sem, ↓reduceIte, Tryz.f89, bU, aQ, hlt, ek]
   intro _
   refine aH.eM (hv.at ek (aT h nb (eN p sz t c')) nb t c' env funcs (aG _ _ _) ht (by omega) (hok _ (List.getElem_mem _)) eH hf henv (by omega)) ?_
   rintro r h' ⟨s, t2, c2, rfl, rfl, hs, h1, h2, h3⟩
   simp -dsimp -implicitDefEqProofs only [go_sem, ↓reduceIte, Tryz.f89]
   refine ⟨Nat.zero_lt_one, Nat.zero_lt_one, Nat.zero_lt_one, ?_⟩
   intro b aN
   have cY : ¬ b = nb := by first | exact aN.1 | exact aN | exact aN.2.1 | exact aN.2 | exact aN.2.2.1 | exact aN.2.2 | exact aN.2.2.2.1 | exact aN.2.2.2 | exact aN.2.2.2.2.1 | exact aN.2.2.2.2 | exact aN.2.2.2.2.2.1 | exact aN.2.2.2.2.2 | exact aN.2.2.2.2.2.2.1 | exact aN.2.2.2.2.2.2 | exact aN.2.2.2.2.2.2.2.1 | exact aN.2.2.2.2.2.2.2 | exact aN.2.2.2.2.2.2.2.2.1 | exact aN.2.2.2.2.2.2.2.2 | exact aN.2.2.2.2.2.2.2.2.2.1 | exact aN.2.2.2.2.2.2.2.2.2 | exact aN.2.2.2.2.2.2.2.2.2.2.1 | exact aN.2.2.2.2.2.2.2.2.2.2 | exact aN.2.2.2.2.2.2.2.2.2.2.2.1 | exact aN.2.2.2.2.2.2.2.2.2.2.2 | exact aN.2.2.2.2.2.2.2.2.2.2.2.2.1 | exact aN.2.2.2.2.2.2.2.2.2.2.2.2 | exact aN.2.2.2.2.2.2.2.2.2.2.2.2.2.1 | exact aN.2.2.2.2.2.2.2.2.2.2.2.2.2
   have gF : (b = nb) = False := eq_false cY
   have gG : (nb = b) = False := eq_false (Ne.symm cY)
   have gU : ¬ nb = b := Ne.symm cY
   have z_b : h b = none := by first | exact aN.1 | exact aN | exact aN.2.1 | exact aN.2 | exact aN.2.2.1 | exact aN.2.2 | exact aN.2.2.2.1 | exact aN.2.2.2 | exact aN.2.2.2.2.1 | exact aN.2.2.2.2 | exact aN.2.2.2.2.2.1 | exact aN.2.2.2.2.2 | exact aN.2.2.2.2.2.2.1 | exact aN.2.2.2.2.2.2 | exact aN.2.2.2.2.2.2.2.1 | exact aN.2.2.2.2.2.2.2 | exact aN.2.2.2.2.2.2.2.2.1 | exact aN.2.2.2.2.2.2.2.2 | exact aN.2.2.2.2.2.2.2.2.2.1 | exact aN.2.2.2.2.2.2.2.2.2 | exact aN.2.2.2.2.2.2.2.2.2.2.1 | exact aN.2.2.2.2.2.2.2.2.2.2 | exact aN.2.2.2.2.2.2.2.2.2.2.2.1 | exact aN.2.2.2.2.2.2.2.2.2.2.2 | exact aN.2.2.2.2.2.2.2.2.2.2.2.2.1 | exact aN.2.2.2.2.2.2.2.2.2.2.2.2 | exact aN.2.2.2.2.2.2.2.2.2.2.2.2.2.1 | exact aN.2.2.2.2.2.2.2.2.2.2.2.2.2
   refine ⟨(k + 1, [s], t2, c2, some b), ⟨rfl, by rw [IntWalk.i64_in _ (by omega)]; rfl⟩, (iD (by repeat' (first | exact fS _ _ | refine iE (by simp only [dP, ↓reduceIte, eq_self, if_true, gG, gF, List.map_cons, List.map_nil]) ?_ | refine eY (by first | exact .inr (by assumption) | exact .inl (by simp)) ?_))), ⟨by omega, by simp only [List.length_nil] at hvl; subst hvl; rfl, fun x hx => hall s hs x hx, Nat.le_trans ht0 h1, h2, hnext s t2 c2 h3, z_b⟩, by simp only; omega⟩
  |some m =>
   rw [aV] at hos
   have dD : ¬ m = nb := fun e => by rw [e, hb] at hos; cases hos
   have cS : ¬ nb = m := Ne.symm dD
   have dH : (m = nb) = False := eq_false dD
   have dI : (nb = m) = False := eq_false cS
   simp -dsimp -implicitDefEqProofs only [go_sem, ↓reduceIte, Tryz.f89, aY, aJ, hlt, ek]
   intro _
   refine aH.eM (hv.at ek (aT (aT h nb (eN p sz t c')) m (.row 1 ((vs.map fun s => [ints s]).map (List.map .v)))) nb t c' env funcs (by rw [aC _ _ _ _ cS, aG]) ht (by omega) (hok _ (List.getElem_mem _)) eH hf henv (by omega)) ?_
   rintro r h' ⟨s, t2, c2, rfl, rfl, hs, h1, h2, h3⟩
   simp -dsimp -implicitDefEqProofs only [go_sem, ↓reduceIte, Tryz.f89, aC, dH, dI]
   refine ⟨Nat.zero_lt_one, Nat.zero_lt_one, Nat.zero_lt_one, Nat.le_refl _, by omega, by omega, ?_⟩
   intro b aN
   have cY : ¬ b = nb := by first | exact aN.1 | exact aN | exact aN.2.1 | exact aN.2 | exact aN.2.2.1 | exact aN.2.2 | exact aN.2.2.2.1 | exact aN.2.2.2 | exact aN.2.2.2.2.1 | exact aN.2.2.2.2 | exact aN.2.2.2.2.2.1 | exact aN.2.2.2.2.2 | exact aN.2.2.2.2.2.2.1 | exact aN.2.2.2.2.2.2 | exact aN.2.2.2.2.2.2.2.1 | exact aN.2.2.2.2.2.2.2 | exact aN.2.2.2.2.2.2.2.2.1 | exact aN.2.2.2.2.2.2.2.2 | exact aN.2.2.2.2.2.2.2.2.2.1 | exact aN.2.2.2.2.2.2.2.2.2 | exact aN.2.2.2.2.2.2.2.2.2.2.1 | exact aN.2.2.2.2.2.2.2.2.2.2 | exact aN.2.2.2.2.2.2.2.2.2.2.2.1 | exact aN.2.2.2.2.2.2.2.2.2.2.2 | exact aN.2.2.2.2.2.2.2.2.2.2.2.2.1 | exact aN.2.2.2.2.2.2.2.2.2.2.2.2 | exact aN.2.2.2.2.2.2.2.2.2.2.2.2.2.1 | exact aN.2.2.2.2.2.2.2.2.2.2.2.2.2
   have gF : (b = nb) = False := eq_false cY
   have gG : (nb = b) = False := eq_false (Ne.symm cY)
   have gU : ¬ nb = b := Ne.symm cY
   have fW : ¬ b = m := by first | exact aN.1 | exact aN | exact aN.2.1 | exact aN.2 | exact aN.2.2.1 | exact aN.2.2 | exact aN.2.2.2.1 | exact aN.2.2.2 | exact aN.2.2.2.2.1 | exact aN.2.2.2.2 | exact aN.2.2.2.2.2.1 | exact aN.2.2.2.2.2 | exact aN.2.2.2.2.2.2.1 | exact aN.2.2.2.2.2.2 | exact aN.2.2.2.2.2.2.2.1 | exact aN.2.2.2.2.2.2.2 | exact aN.2.2.2.2.2.2.2.2.1 | exact aN.2.2.2.2.2.2.2.2 | exact aN.2.2.2.2.2.2.2.2.2.1 | exact aN.2.2.2.2.2.2.2.2.2 | exact aN.2.2.2.2.2.2.2.2.2.2.1 | exact aN.2.2.2.2.2.2.2.2.2.2 | exact aN.2.2.2.2.2.2.2.2.2.2.2.1 | exact aN.2.2.2.2.2.2.2.2.2.2.2 | exact aN.2.2.2.2.2.2.2.2.2.2.2.2.1 | exact aN.2.2.2.2.2.2.2.2.2.2.2.2 | exact aN.2.2.2.2.2.2.2.2.2.2.2.2.2.1 | exact aN.2.2.2.2.2.2.2.2.2.2.2.2.2
   have kT : (b = m) = False := eq_false fW
   have kU : (m = b) = False := eq_false (Ne.symm fW)
   have mV : ¬ m = b := Ne.symm fW
   have z_b : h b = none := by first | exact aN.1 | exact aN | exact aN.2.1 | exact aN.2 | exact aN.2.2.1 | exact aN.2.2 | exact aN.2.2.2.1 | exact aN.2.2.2 | exact aN.2.2.2.2.1 | exact aN.2.2.2.2 | exact aN.2.2.2.2.2.1 | exact aN.2.2.2.2.2 | exact aN.2.2.2.2.2.2.1 | exact aN.2.2.2.2.2.2 | exact aN.2.2.2.2.2.2.2.1 | exact aN.2.2.2.2.2.2.2 | exact aN.2.2.2.2.2.2.2.2.1 | exact aN.2.2.2.2.2.2.2.2 | exact aN.2.2.2.2.2.2.2.2.2.1 | exact aN.2.2.2.2.2.2.2.2.2 | exact aN.2.2.2.2.2.2.2.2.2.2.1 | exact aN.2.2.2.2.2.2.2.2.2.2 | exact aN.2.2.2.2.2.2.2.2.2.2.2.1 | exact aN.2.2.2.2.2.2.2.2.2.2.2 | exact aN.2.2.2.2.2.2.2.2.2.2.2.2.1 | exact aN.2.2.2.2.2.2.2.2.2.2.2.2 | exact aN.2.2.2.2.2.2.2.2.2.2.2.2.2.1 | exact aN.2.2.2.2.2.2.2.2.2.2.2.2.2
   refine ⟨(k + 1, vs ++ [s], t2, c2, some b), ⟨by rw [aY, List.length_append]; rfl, by rw [IntWalk.i64_in _ (by omega)]; rfl⟩, ?_, ⟨by omega, by rw [List.length_append, hvl]; rfl, hall s hs, Nat.le_trans ht0 h1, h2, hnext s t2 c2 h3, z_b⟩, by simp only; omega⟩
   simp only [aJ]
   rw [← fO ints]
   exact (iD (by repeat' (first | exact fS _ _ | refine iE (by simp only [dP, ↓reduceIte, eq_self, if_true, gG, dI, gF, kT, dH, kU]) ?_ | refine eY (by first | exact .inr (by assumption) | exact .inl (by simp)) ?_)))
 ·have hk' : k = f.aW.length := by omega
  subst hk'
  rw [List.take_length] at ho
  cases o with
  |none =>
   rw [bH] at hos
   subst hos
   simp -dsimp -implicitDefEqProofs only [go_sem, ↓reduceIte, Tryz.f89, bU, aQ, Nat.lt_irrefl, Int.lt_irrefl]
   intro _
   exact ⟨fE [], _, Shift.of (Sub.loose _ _ _) (aA.le_refl _), [], t, c', rfl, rfl, hvl, hvs, ht0, ht, ho⟩
  |some m =>
   rw [aV] at hos
   simp -dsimp -implicitDefEqProofs only [go_sem, ↓reduceIte, Tryz.f89, aY, aJ, Nat.lt_irrefl, Int.lt_irrefl]
   intro _
   have hmn : ¬ m = nb := fun e => by rw [e, hb] at hos; cases hos
   exact ⟨fE vs, _, sK (vs.map fun s => [ints s]) (h := aT h nb (eN p sz t c')) (by rw [aC _ _ _ _ hmn, hos]) (aA.le_refl _) _ (by rw [List.length_map]), vs, t, c', rfl, rfl, hvl, hvs, ht0, ht, ho⟩
set_option maxRecDepth 100000
open Go.Proofs
set_option linter.unusedVariables false
set_option linter.unusedSimpArgs false
@[go_sem] def aBW : List Nat := [0, 1, 2, 6, 7, 8, 9, 10, 18, 49, 67]
@[go_sem] def aOT : List Nat := [11, 31]
@[go_sem] def aOU : Marks := fun id => match id with | 6 => ([3], (.op 0 (.op 1 (.op 2 (.op 7 (.op 8 (.op 9 (.op 10 (.op 3 (.op 4 (.op 5 (.op 6 (.op 11 (.op 12 .nil))))))))))))), []) | 8 => ([11], (.op 0 (.op 1 (.op 2 (.op 3 (.op 4 (.op 5 (.op 6 (.op 7 (.op 8 (.op 9 (.op 10 (.op 11 (.op 12 .nil))))))))))))), []) | _ => ([], .nil, [])
theorem a1S {p : aE} (hp : p.ok) {sz n : Nat} (hv : rC p sz n) (h : aA) (nb st : Nat) (e : aB) (env : List (List Int)) (funcs : Int) (hb : h nb = some (eN p sz st 0)) (hst : st ≤ 3000) (hn : 3001 ≤ n + st) (hok : e.ok p funcs env.length) (eH : 0 ≤ funcs) (hf : funcs ≤ p.aI.length) (henv : ∀ s ∈ env, cV sz s) (hel : env.length ≤ 412 + st) (hk : e.aO = 10) :
  fF Tryz.prog 138 [.op nb 4 0 0, .ip 5 [e.c] 0 0, fE env] h (RnQ h nb p sz st 0 ((lJ (fun t e => iU p sz n t e env) e.aK st).andThen fun vs t => iU p sz n t (p.out e.aX e.cN) vs)) := by
 obtain ⟨f, F⟩ := l4 hp hok hf (.inl hk)
 have f1 := F.lo
 have f2 := F.hi
 have f3 := F.pk
 have f4 := F.pk2
 have f5 := F.kids
 have f6 := F.params
 have f8 := F.outs
 have f9 := F.loop
 have hkok := dZ hok (by omega)
 rw [aB.aR]
 refine gK 81 aBW aOT aOU mix Tryz.func138 rfl (by kernel_rfl) (by simp) ?_
 simp -dsimp -implicitDefEqProofs only [go_sem, ↓reduceIte, Tryz.f138]
 refine ⟨Nat.zero_lt_one, ?_⟩
 refine dA (keep := aBW) (ib := aOT) (mk := aOU) mix (by kernel_rfl) (fun x : Nat × List (List Int) × Nat × Int × Option Nat => [(0, .op nb 4 0 0), (1, .ip 5 [[I e.aO, I e.aX, I e.cN, I e.cA, eI 5 aB.c e.aK]] 0 0), (2, fE env), (7, jM 1 x.2.1.length x.2.2.2.2), (8, I x.1)]) (fun x => cQ (aT h nb (eN p sz x.2.2.1 x.2.2.2.1)) (.row 1 ((x.2.1.map fun s => [ints s]).map (List.map .v))) x.2.2.2.2) (fun x => x.1 ≤ e.aK.length ∧ x.2.1.length = x.1 ∧ (∀ s ∈ x.2.1, cV sz s) ∧ st ≤ x.2.2.1 ∧ x.2.2.1 ≤ 3000 ∧ jB (oG 0 (lJ (fun t e => iU p sz n t e env) (e.aK.take x.1) st)) x.2.1 x.2.2.1 x.2.2.2.1 ∧ gX h x.2.1 x.2.2.2.2) (fun x => e.aK.length - x.1) (0, [], st, 0, none) ⟨by simp [dF, b6, jM], by simp only [aQ]; rw [qX hb]; exact aA.le_refl _, Nat.zero_le _, rfl, by simp, Nat.le_refl _, hst, gR _ _ _, rfl⟩ ?_
 rintro ⟨k, vs, t, c', o⟩ ⟨hk2, hvl, hvs, ht0, ht, ho, hos⟩
 simp only at hk2 hvl hvs ht0 ht ho hos ⊢
 rcases Nat.lt_or_ge k e.aK.length with hlt | hge
 ·have ek : e.aK[k]? = some e.aK[k] := List.getElem?_eq_getElem hlt
  have hnext : ∀ (s : List Int) (t2 : Nat) (c2 : Int), jB (oG c' (iU p sz n t e.aK[k] env)) s t2 c2 → jB (oG 0 (lJ (fun t e => iU p sz n t e env) (e.aK.take (k + 1)) st)) (vs ++ [s]) t2 c2 := fun s t2 c2 h3 => by
   rw [List.take_succ_eq_append_getElem hlt, vI]
   exact ho.dY (h3.dY (gR _ _ _))
  have hall : ∀ s, cV sz s → ∀ x ∈ vs ++ [s], cV sz x := fun s hs => tE hvs hs
  cases o with
  |none =>
   rw [bH] at hos
   subst hos
   simp -dsimp -implicitDefEqProofs only [go_sem, ↓reduceIte, Tryz.f138, bU, aQ, hlt, ek]
   intro _
   refine aH.eM (hv.at ek (aT h nb (eN p sz t c')) nb t c' env funcs (aG _ _ _) ht (by omega) (hkok _ (List.getElem_mem _)) eH hf henv (by omega)) ?_
   rintro r h' ⟨s, t2, c2, rfl, rfl, hs, h1, h2, h3⟩
   simp -dsimp -implicitDefEqProofs only [go_sem, ↓reduceIte, Tryz.f138]
   refine ⟨Nat.zero_lt_one, Nat.zero_lt_one, Nat.zero_lt_one, ?_⟩
   intro b aN
   have cY : ¬ b = nb := by first | exact aN.1 | exact aN | exact aN.2.1 | exact aN.2 | exact aN.2.2.1 | exact aN.2.2 | exact aN.2.2.2.1 | exact aN.2.2.2 | exact aN.2.2.2.2.1 | exact aN.2.2.2.2 | exact aN.2.2.2.2.2.1 | exact aN.2.2.2.2.2 | exact aN.2.2.2.2.2.2.1 | exact aN.2.2.2.2.2.2 | exact aN.2.2.2.2.2.2.2.1 | exact aN.2.2.2.2.2.2.2 | exact aN.2.2.2.2.2.2.2.2.1 | exact aN.2.2.2.2.2.2.2.2 | exact aN.2.2.2.2.2.2.2.2.2.1 | exact aN.2.2.2.2.2.2.2.2.2 | exact aN.2.2.2.2.2.2.2.2.2.2.1 | exact aN.2.2.2.2.2.2.2.2.2.2 | exact aN.2.2.2.2.2.2.2.2.2.2.2.1 | exact aN.2.2.2.2.2.2.2.2.2.2.2 | exact aN.2.2.2.2.2.2.2.2.2.2.2.2.1 | exact aN.2.2.2.2.2.2.2.2.2.2.2.2 | exact aN.2.2.2.2.2.2.2.2.2.2.2.2.2.1 | exact aN.2.2.2.2.2.2.2.2.2.2.2.2.2
   have gF : (b = nb) = False := eq_false cY
   have gG : (nb = b) = False := eq_false (Ne.symm cY)
   have gU : ¬ nb = b := Ne.symm cY
   have z_b : h b = none := by first | exact aN.1 | exact aN | exact aN.2.1 | exact aN.2 | exact aN.2.2.1 | exact aN.2.2 | exact aN.2.2.2.1 | exact aN.2.2.2 | exact aN.2.2.2.2.1 | exact aN.2.2.2.2 | exact aN.2.2.2.2.2.1 | exact aN.2.2.2.2.2 | exact aN.2.2.2.2.2.2.1 | exact aN.2.2.2.2.2.2 | exact aN.2.2.2.2.2.2.2.1 | exact aN.2.2.2.2.2.2.2 | exact aN.2.2.2.2.2.2.2.2.1 | exact aN.2.2.2.2.2.2.2.2 | exact aN.2.2.2.2.2.2.2.2.2.1 | exact aN.2.2.2.2.2.2.2.2.2 | exact aN.2.2.2.2.2.2.2.2.2.2.1 | exact aN.2.2.2.2.2.2.2.2.2.2 | exact aN.2.2.2.2.2.2.2.2.2.2.2.1 | exact aN.2.2.2.2.2.2.2.2.2.2.2 | exact aN.2.2.2.2.2.2.2.2.2.2.2.2.1 | exact aN.2.2.2.2.2.2.2.2.2.2.2.2 | exact aN.2.2.2.2.2.2.2.2.2.2.2.2.2.1 | exact aN.2.2.2.2.2.2.2.2.2.2.2.2.2
   refine ⟨(k + 1, [s], t2, c2, some b), ⟨rfl, by rw [IntWalk.i64_in _ (by omega)]; rfl⟩, (iD (by repeat' (first | exact fS _ _ | refine iE (by simp only [dP, ↓reduceIte, eq_self, if_true, gG, gF, List.map_cons, List.map_nil]) ?_ | refine eY (by first | exact .inr (by assumption) | exact .inl (by simp)) ?_))), ⟨by omega, by simp only [List.length_nil] at hvl; subst hvl; rfl, fun x hx => hall s hs x hx, Nat.le_trans ht0 h1, h2, hnext s t2 c2 h3, z_b⟩, by simp only; omega⟩
  |some m =>
   rw [aV] at hos
   have dD : ¬ m = nb := fun e => by rw [e, hb] at hos; cases hos
   have cS : ¬ nb = m := Ne.symm dD
   have dH : (m = nb) = False := eq_false dD
   have dI : (nb = m) = False := eq_false cS
   simp -dsimp -implicitDefEqProofs only [go_sem, ↓reduceIte, Tryz.f138, aY, aJ, hlt, ek]
   intro _
   refine aH.eM (hv.at ek (aT (aT h nb (eN p sz t c')) m (.row 1 ((vs.map fun s => [ints s]).map (List.map .v)))) nb t c' env funcs (by rw [aC _ _ _ _ cS, aG]) ht (by omega) (hkok _ (List.getElem_mem _)) eH hf henv (by omega)) ?_
   rintro r h' ⟨s, t2, c2, rfl, rfl, hs, h1, h2, h3⟩
   simp -dsimp -implicitDefEqProofs only [go_sem, ↓reduceIte, Tryz.f138, aC, dH, dI]
   refine ⟨Nat.zero_lt_one, Nat.zero_lt_one, Nat.zero_lt_one, Nat.le_refl _, by omega, by omega, ?_⟩
   intro b aN
   have cY : ¬ b = nb := by first | exact aN.1 | exact aN | exact aN.2.1 | exact aN.2 | exact aN.2.2.1 | exact aN.2.2 | exact aN.2.2.2.1 | exact aN.2.2.2 | exact aN.2.2.2.2.1 | exact aN.2.2.2.2 | exact aN.2.2.2.2.2.1 | exact aN.2.2.2.2.2 | exact aN.2.2.2.2.2.2.1 | exact aN.2.2.2.2.2.2 | exact aN.2.2.2.2.2.2.2.1 | exact aN.2.2.2.2.2.2.2 | exact aN.2.2.2.2.2.2.2.2.1 | exact aN.2.2.2.2.2.2.2.2 | exact aN.2.2.2.2.2.2.2.2.2.1 | exact aN.2.2.2.2.2.2.2.2.2 | exact aN.2.2.2.2.2.2.2.2.2.2.1 | exact aN.2.2.2.2.2.2.2.2.2.2 | exact aN.2.2.2.2.2.2.2.2.2.2.2.1 | exact aN.2.2.2.2.2.2.2.2.2.2.2 | exact aN.2.2.2.2.2.2.2.2.2.2.2.2.1 | exact aN.2.2.2.2.2.2.2.2.2.2.2.2 | exact aN.2.2.2.2.2.2.2.2.2.2.2.2.2.1 | exact aN.2.2.2.2.2.2.2.2.2.2.2.2.2
   have gF : (b = nb) = False := eq_false cY
   have gG : (nb = b) = False := eq_false (Ne.symm cY)
   have gU : ¬ nb = b := Ne.symm cY
   have fW : ¬ b = m := by first | exact aN.1 | exact aN | exact aN.2.1 | exact aN.2 | exact aN.2.2.1 | exact aN.2.2 | exact aN.2.2.2.1 | exact aN.2.2.2 | exact aN.2.2.2.2.1 | exact aN.2.2.2.2 | exact aN.2.2.2.2.2.1 | exact aN.2.2.2.2.2 | exact aN.2.2.2.2.2.2.1 | exact aN.2.2.2.2.2.2 | exact aN.2.2.2.2.2.2.2.1 | exact aN.2.2.2.2.2.2.2 | exact aN.2.2.2.2.2.2.2.2.1 | exact aN.2.2.2.2.2.2.2.2 | exact aN.2.2.2.2.2.2.2.2.2.1 | exact aN.2.2.2.2.2.2.2.2.2 | exact aN.2.2.2.2.2.2.2.2.2.2.1 | exact aN.2.2.2.2.2.2.2.2.2.2 | exact aN.2.2.2.2.2.2.2.2.2.2.2.1 | exact aN.2.2.2.2.2.2.2.2.2.2.2 | exact aN.2.2.2.2.2.2.2.2.2.2.2.2.1 | exact aN.2.2.2.2.2.2.2.2.2.2.2.2 | exact aN.2.2.2.2.2.2.2.2.2.2.2.2.2.1 | exact aN.2.2.2.2.2.2.2.2.2.2.2.2.2
   have kT : (b = m) = False := eq_false fW
   have kU : (m = b) = False := eq_false (Ne.symm fW)
   have mV : ¬ m = b := Ne.symm fW
   have z_b : h b = none := by first | exact aN.1 | exact aN | exact aN.2.1 | exact aN.2 | exact aN.2.2.1 | exact aN.2.2 | exact aN.2.2.2.1 | exact aN.2.2.2 | exact aN.2.2.2.2.1 | exact aN.2.2.2.2 | exact aN.2.2.2.2.2.1 | exact aN.2.2.2.2.2 | exact aN.2.2.2.2.2.2.1 | exact aN.2.2.2.2.2.2 | exact aN.2.2.2.2.2.2.2.1 | exact aN.2.2.2.2.2.2.2 | exact aN.2.2.2.2.2.2.2.2.1 | exact aN.2.2.2.2.2.2.2.2 | exact aN.2.2.2.2.2.2.2.2.2.1 | exact aN.2.2.2.2.2.2.2.2.2 | exact aN.2.2.2.2.2.2.2.2.2.2.1 | exact aN.2.2.2.2.2.2.2.2.2.2 | exact aN.2.2.2.2.2.2.2.2.2.2.2.1 | exact aN.2.2.2.2.2.2.2.2.2.2.2 | exact aN.2.2.2.2.2.2.2.2.2.2.2.2.1 | exact aN.2.2.2.2.2.2.2.2.2.2.2.2 | exact aN.2.2.2.2.2.2.2.2.2.2.2.2.2.1 | exact aN.2.2.2.2.2.2.2.2.2.2.2.2.2
   refine ⟨(k + 1, vs ++ [s], t2, c2, some b), ⟨by rw [aY, List.length_append]; rfl, by rw [IntWalk.i64_in _ (by omega)]; rfl⟩, ?_, ⟨by omega, by rw [List.length_append, hvl]; rfl, hall s hs, Nat.le_trans ht0 h1, h2, hnext s t2 c2 h3, z_b⟩, by simp only; omega⟩
   simp only [aJ]
   rw [← fO ints]
   exact (iD (by repeat' (first | exact fS _ _ | refine iE (by simp only [dP, ↓reduceIte, eq_self, if_true, gG, dI, gF, kT, dH, kU]) ?_ | refine eY (by first | exact .inr (by assumption) | exact .inl (by simp)) ?_)))
 have hk' : k = e.aK.length := by omega
 subst hk'
 rw [List.take_length] at ho
 have gp : vs[e.cN.toNat]? = some (vs.getD e.cN.toNat []) ∨ e.aO = 10 := by
  by_cases h10 : e.aO = 10
  ·exact .inr h10
  ·exact .inl (kS (by have := f9 (by omega); omega))
 cases o with
 |none =>
  rw [bH] at hos
  subst hos
  simp -dsimp -implicitDefEqProofs only [go_sem, ↓reduceIte, Tryz.f138, bU, aQ, Nat.lt_irrefl, Int.lt_irrefl, eN, hk, F.get, F.out, aS.aR, aE.aR]
  intro _
  refine ⟨f1, f2, f3, by omega, ?_⟩
  refine aH.eM (fF.sub (.cons (.refl _) (.cons (.refl _) (.cons (Sub.loose _ _ _) .nil))) (hv.at F.out (aT h nb (eN p sz t c')) nb t c' [] e.aX (aG _ _ _) ht (by omega) (by rw [hvl, f5]; exact F.oks _ (List.mem_of_getElem? F.out)) f1 (by omega) (by simp) (by simp))) ?_
  rintro r h' ⟨s, t2, c2, rfl, rfl, hs, b1, b2, b3⟩
  simp -dsimp -implicitDefEqProofs only [go_sem, ↓reduceIte, Tryz.f138]
  refine ⟨_, aT h nb (eN p sz t2 c2), cI (by rw [aM]; exact aA.le_refl _), s, t2, c2, rfl, rfl, hs, by omega, b2, ?_⟩
  exact ho.dY b3
 |some m =>
  rw [aV] at hos
  have dD : ¬ m = nb := fun e => by rw [e, hb] at hos; cases hos
  have cS : ¬ nb = m := Ne.symm dD
  have dH : (m = nb) = False := eq_false dD
  have dI : (nb = m) = False := eq_false cS
  simp -dsimp -implicitDefEqProofs only [go_sem, ↓reduceIte, Tryz.f138, aY, aJ, Nat.lt_irrefl, Int.lt_irrefl, eN, aC, dH, dI, hk, F.get, F.out, aS.aR, aE.aR]
  intro _
  refine ⟨f1, f2, f3, by omega, ?_⟩
  refine aH.aEP rfl rfl cS (by rw [List.length_map]) (by rw [aC _ _ _ _ dD]; exact hos) ?_
  refine fF.mono (hv.at F.out (aT (aT h nb (eN p sz t c')) m .gone) nb t c' vs e.aX (by rw [aC _ _ _ _ cS, aG]) ht (by omega) (by rw [hvl, f5]; exact F.oks _ (List.mem_of_getElem? F.out)) f1 (by omega) hvs (by omega)) ?_
  rintro r h' ⟨s, t2, c2, rfl, rfl, hs, b1, b2, b3⟩
  simp -dsimp -implicitDefEqProofs only [go_sem, ↓reduceIte, Tryz.f138]
  refine ⟨_, aT h nb (eN p sz t2 c2), cI (iD (by repeat' (first | exact fS _ _ | refine iE (by simp only [dP, ↓reduceIte, eq_self, if_true, dI, dH]) ?_ | refine eY (by first | exact .inr (by assumption) | exact .inl (by simp)) ?_))), s, t2, c2, rfl, rfl, hs, by omega, b2, ?_⟩
  exact ho.dY b3
theorem a1T {p : aE} (hp : p.ok) {sz n : Nat} (hv : rC p sz n) (h : aA) (nb st : Nat) (e : aB) (env : List (List Int)) (funcs : Int) (hb : h nb = some (eN p sz st 0)) (hst : st ≤ 3000) (hn : 3001 ≤ n + st) (hok : e.ok p funcs env.length) (eH : 0 ≤ funcs) (hf : funcs ≤ p.aI.length) (henv : ∀ s ∈ env, cV sz s) (hel : env.length ≤ 412 + st) (hk : e.aO = 11) :
  fF Tryz.prog 138 [.op nb 4 0 0, .ip 5 [e.c] 0 0, fE env] h (RnQ h nb p sz st 0 ((lJ (fun t e => iU p sz n t e env) e.aK st).andThen fun vs t => (pC (fun vs t => lJ (fun t e => iU p sz n t e vs) (p.outs e.aX) t) e.cA.toNat vs t).andThen fun vs t => .ok (vs.getD e.cN.toNat [], t))) := by
 obtain ⟨f, F⟩ := l4 hp hok hf (.inr hk)
 have f1 := F.lo
 have f2 := F.hi
 have f3 := F.pk
 have f4 := F.pk2
 have f5 := F.kids
 have f6 := F.params
 have f8 := F.outs
 have f9 := F.loop
 have hkok := dZ hok (by omega)
 rw [aB.aR]
 refine gK 81 aBW aOT aOU mix Tryz.func138 rfl (by kernel_rfl) (by simp) ?_
 simp -dsimp -implicitDefEqProofs only [go_sem, ↓reduceIte, Tryz.f138]
 refine ⟨Nat.zero_lt_one, ?_⟩
 refine dA (keep := aBW) (ib := aOT) (mk := aOU) mix (by kernel_rfl) (fun x : Nat × List (List Int) × Nat × Int × Option Nat => [(0, .op nb 4 0 0), (1, .ip 5 [[I e.aO, I e.aX, I e.cN, I e.cA, eI 5 aB.c e.aK]] 0 0), (2, fE env), (7, jM 1 x.2.1.length x.2.2.2.2), (8, I x.1)]) (fun x => cQ (aT h nb (eN p sz x.2.2.1 x.2.2.2.1)) (.row 1 ((x.2.1.map fun s => [ints s]).map (List.map .v))) x.2.2.2.2) (fun x => x.1 ≤ e.aK.length ∧ x.2.1.length = x.1 ∧ (∀ s ∈ x.2.1, cV sz s) ∧ st ≤ x.2.2.1 ∧ x.2.2.1 ≤ 3000 ∧ jB (oG 0 (lJ (fun t e => iU p sz n t e env) (e.aK.take x.1) st)) x.2.1 x.2.2.1 x.2.2.2.1 ∧ gX h x.2.1 x.2.2.2.2) (fun x => e.aK.length - x.1) (0, [], st, 0, none) ⟨by simp [dF, b6, jM], by simp only [aQ]; rw [qX hb]; exact aA.le_refl _, Nat.zero_le _, rfl, by simp, Nat.le_refl _, hst, gR _ _ _, rfl⟩ ?_
 rintro ⟨k, vs, t, c', o⟩ ⟨hk2, hvl, hvs, ht0, ht, ho, hos⟩
 simp only at hk2 hvl hvs ht0 ht ho hos ⊢
 rcases Nat.lt_or_ge k e.aK.length with hlt | hge
 ·have ek : e.aK[k]? = some e.aK[k] := List.getElem?_eq_getElem hlt
  have hnext : ∀ (s : List Int) (t2 : Nat) (c2 : Int), jB (oG c' (iU p sz n t e.aK[k] env)) s t2 c2 → jB (oG 0 (lJ (fun t e => iU p sz n t e env) (e.aK.take (k + 1)) st)) (vs ++ [s]) t2 c2 := fun s t2 c2 h3 => by
   rw [List.take_succ_eq_append_getElem hlt, vI]
   exact ho.dY (h3.dY (gR _ _ _))
  have hall : ∀ s, cV sz s → ∀ x ∈ vs ++ [s], cV sz x := fun s hs => tE hvs hs
  cases o with
  |none =>
   rw [bH] at hos
   subst hos
   simp -dsimp -implicitDefEqProofs only [go_sem, ↓reduceIte, Tryz.f138, bU, aQ, hlt, ek]
   intro _
   refine aH.eM (hv.at ek (aT h nb (eN p sz t c')) nb t c' env funcs (aG _ _ _) ht (by omega) (hkok _ (List.getElem_mem _)) eH hf henv (by omega)) ?_
   rintro r h' ⟨s, t2, c2, rfl, rfl, hs, h1, h2, h3⟩
   simp -dsimp -implicitDefEqProofs only [go_sem, ↓reduceIte, Tryz.f138]
   refine ⟨Nat.zero_lt_one, Nat.zero_lt_one, Nat.zero_lt_one, ?_⟩
   intro b aN
   have cY : ¬ b = nb := by first | exact aN.1 | exact aN | exact aN.2.1 | exact aN.2 | exact aN.2.2.1 | exact aN.2.2 | exact aN.2.2.2.1 | exact aN.2.2.2 | exact aN.2.2.2.2.1 | exact aN.2.2.2.2 | exact aN.2.2.2.2.2.1 | exact aN.2.2.2.2.2 | exact aN.2.2.2.2.2.2.1 | exact aN.2.2.2.2.2.2 | exact aN.2.2.2.2.2.2.2.1 | exact aN.2.2.2.2.2.2.2 | exact aN.2.2.2.2.2.2.2.2.1 | exact aN.2.2.2.2.2.2.2.2 | exact aN.2.2.2.2.2.2.2.2.2.1 | exact aN.2.2.2.2.2.2.2.2.2 | exact aN.2.2.2.2.2.2.2.2.2.2.1 | exact aN.2.2.2.2.2.2.2.2.2.2 | exact aN.2.2.2.2.2.2.2.2.2.2.2.1 | exact aN.2.2.2.2.2.2.2.2.2.2.2 | exact aN.2.2.2.2.2.2.2.2.2.2.2.2.1 | exact aN.2.2.2.2.2.2.2.2.2.2.2.2 | exact aN.2.2.2.2.2.2.2.2.2.2.2.2.2.1 | exact aN.2.2.2.2.2.2.2.2.2.2.2.2.2
   have gF : (b = nb) = False := eq_false cY
   have gG : (nb = b) = False := eq_false (Ne.symm cY)
   have gU : ¬ nb = b := Ne.symm cY
   have z_b : h b = none := by first | exact aN.1 | exact aN | exact aN.2.1 | exact aN.2 | exact aN.2.2.1 | exact aN.2.2 | exact aN.2.2.2.1 | exact aN.2.2.2 | exact aN.2.2.2.2.1 | exact aN.2.2.2.2 | exact aN.2.2.2.2.2.1 | exact aN.2.2.2.2.2 | exact aN.2.2.2.2.2.2.1 | exact aN.2.2.2.2.2.2 | exact aN.2.2.2.2.2.2.2.1 | exact aN.2.2.2.2.2.2.2 | exact aN.2.2.2.2.2.2.2.2.1 | exact aN.2.2.2.2.2.2.2.2 | exact aN.2.2.2.2.2.2.2.2.2.1 | exact aN.2.2.2.2.2.2.2.2.2 | exact aN.2.2.2.2.2.2.2.2.2.2.1 | exact aN.2.2.2.2.2.2.2.2.2.2 | exact aN.2.2.2.2.2.2.2.2.2.2.2.1 | exact aN.2.2.2.2.2.2.2.2.2.2.2 | exact aN.2.2.2.2.2.2.2.2.2.2.2.2.1 | exact aN.2.2.2.2.2.2.2.2.2.2.2.2 | exact aN.2.2.2.2.2.2.2.2.2.2.2.2.2.1 | exact aN.2.2.2.2.2.2.2.2.2.2.2.2.2
   refine ⟨(k + 1, [s], t2, c2, some b), ⟨rfl, by rw [IntWalk.i64_in _ (by omega)]; rfl⟩, (iD (by repeat' (first | exact fS _ _ | refine iE (by simp only [dP, ↓reduceIte, eq_self, if_true, gG, gF, List.map_cons, List.map_nil]) ?_ | refine eY (by first | exact .inr (by assumption) | exact .inl (by simp)) ?_))), ⟨by omega, by simp only [List.length_nil] at hvl; subst hvl; rfl, fun x hx => hall s hs x hx, Nat.le_trans ht0 h1, h2, hnext s t2 c2 h3, z_b⟩, by simp only; omega⟩
  |some m =>
   rw [aV] at hos
   have dD : ¬ m = nb := fun e => by rw [e, hb] at hos; cases hos
   have cS : ¬ nb = m := Ne.symm dD
   have dH : (m = nb) = False := eq_false dD
   have dI : (nb = m) = False := eq_false cS
   simp -dsimp -implicitDefEqProofs only [go_sem, ↓reduceIte, Tryz.f138, aY, aJ, hlt, ek]
   intro _
   refine aH.eM (hv.at ek (aT (aT h nb (eN p sz t c')) m (.row 1 ((vs.map fun s => [ints s]).map (List.map .v)))) nb t c' env funcs (by rw [aC _ _ _ _ cS, aG]) ht (by omega) (hkok _ (List.getElem_mem _)) eH hf henv (by omega)) ?_
   rintro r h' ⟨s, t2, c2, rfl, rfl, hs, h1, h2, h3⟩
   simp -dsimp -implicitDefEqProofs only [go_sem, ↓reduceIte, Tryz.f138, aC, dH, dI]
   refine ⟨Nat.zero_lt_one, Nat.zero_lt_one, Nat.zero_lt_one, Nat.le_refl _, by omega, by omega, ?_⟩
   intro b aN
   have cY : ¬ b = nb := by first | exact aN.1 | exact aN | exact aN.2.1 | exact aN.2 | exact aN.2.2.1 | exact aN.2.2 | exact aN.2.2.2.1 | exact aN.2.2.2 | exact aN.2.2.2.2.1 | exact aN.2.2.2.2 | exact aN.2.2.2.2.2.1 | exact aN.2.2.2.2.2 | exact aN.2.2.2.2.2.2.1 | exact aN.2.2.2.2.2.2 | exact aN.2.2.2.2.2.2.2.1 | exact aN.2.2.2.2.2.2.2 | exact aN.2.2.2.2.2.2.2.2.1 | exact aN.2.2.2.2.2.2.2.2 | exact aN.2.2.2.2.2.2.2.2.2.1 | exact aN.2.2.2.2.2.2.2.2.2 | exact aN.2.2.2.2.2.2.2.2.2.2.1 | exact aN.2.2.2.2.2.2.2.2.2.2 | exact aN.2.2.2.2.2.2.2.2.2.2.2.1 | exact aN.2.2.2.2.2.2.2.2.2.2.2 | exact aN.2.2.2.2.2.2.2.2.2.2.2.2.1 | exact aN.2.2.2.2.2.2.2.2.2.2.2.2 | exact aN.2.2.2.2.2.2.2.2.2.2.2.2.2.1 | exact aN.2.2.2.2.2.2.2.2.2.2.2.2.2
   have gF : (b = nb) = False := eq_false cY
   have gG : (nb = b) = False := eq_false (Ne.symm cY)
   have gU : ¬ nb = b := Ne.symm cY
   have fW : ¬ b = m := by first | exact aN.1 | exact aN | exact aN.2.1 | exact aN.2 | exact aN.2.2.1 | exact aN.2.2 | exact aN.2.2.2.1 | exact aN.2.2.2 | exact aN.2.2.2.2.1 | exact aN.2.2.2.2 | exact aN.2.2.2.2.2.1 | exact aN.2.2.2.2.2 | exact aN.2.2.2.2.2.2.1 | exact aN.2.2.2.2.2.2 | exact aN.2.2.2.2.2.2.2.1 | exact aN.2.2.2.2.2.2.2 | exact aN.2.2.2.2.2.2.2.2.1 | exact aN.2.2.2.2.2.2.2.2 | exact aN.2.2.2.2.2.2.2.2.2.1 | exact aN.2.2.2.2.2.2.2.2.2 | exact aN.2.2.2.2.2.2.2.2.2.2.1 | exact aN.2.2.2.2.2.2.2.2.2.2 | exact aN.2.2.2.2.2.2.2.2.2.2.2.1 | exact aN.2.2.2.2.2.2.2.2.2.2.2 | exact aN.2.2.2.2.2.2.2.2.2.2.2.2.1 | exact aN.2.2.2.2.2.2.2.2.2.2.2.2 | exact aN.2.2.2.2.2.2.2.2.2.2.2.2.2.1 | exact aN.2.2.2.2.2.2.2.2.2.2.2.2.2
   have kT : (b = m) = False := eq_false fW
   have kU : (m = b) = False := eq_false (Ne.symm fW)
   have mV : ¬ m = b := Ne.symm fW
   have z_b : h b = none := by first | exact aN.1 | exact aN | exact aN.2.1 | exact aN.2 | exact aN.2.2.1 | exact aN.2.2 | exact aN.2.2.2.1 | exact aN.2.2.2 | exact aN.2.2.2.2.1 | exact aN.2.2.2.2 | exact aN.2.2.2.2.2.1 | exact aN.2.2.2.2.2 | exact aN.2.2.2.2.2.2.1 | exact aN.2.2.2.2.2.2 | exact aN.2.2.2.2.2.2.2.1 | exact aN.2.2.2.2.2.2.2 | exact aN.2.2.2.2.2.2.2.2.1 | exact aN.2.2.2.2.2.2.2.2 | exact aN.2.2.2.2.2.2.2.2.2.1 | exact aN.2.2.2.2.2.2.2.2.2 | exact aN.2.2.2.2.2.2.2.2.2.2.1 | exact aN.2.2.2.2.2.2.2.2.2.2 | exact aN.2.2.2.2.2.2.2.2.2.2.2.1 | exact aN.2.2.2.2.2.2.2.2.2.2.2 | exact aN.2.2.2.2.2.2.2.2.2.2.2.2.1 | exact aN.2.2.2.2.2.2.2.2.2.2.2.2 | exact aN.2.2.2.2.2.2.2.2.2.2.2.2.2.1 | exact aN.2.2.2.2.2.2.2.2.2.2.2.2.2
   refine ⟨(k + 1, vs ++ [s], t2, c2, some b), ⟨by rw [aY, List.length_append]; rfl, by rw [IntWalk.i64_in _ (by omega)]; rfl⟩, ?_, ⟨by omega, by rw [List.length_append, hvl]; rfl, hall s hs, Nat.le_trans ht0 h1, h2, hnext s t2 c2 h3, z_b⟩, by simp only; omega⟩
   simp only [aJ]
   rw [← fO ints]
   exact (iD (by repeat' (first | exact fS _ _ | refine iE (by simp only [dP, ↓reduceIte, eq_self, if_true, gG, dI, gF, kT, dH, kU]) ?_ | refine eY (by first | exact .inr (by assumption) | exact .inl (by simp)) ?_)))
 have hk' : k = e.aK.length := by omega
 subst hk'
 rw [List.take_length] at ho
 have gp : vs[e.cN.toNat]? = some (vs.getD e.cN.toNat []) ∨ e.aO = 10 := by
  by_cases h10 : e.aO = 10
  ·exact .inr h10
  ·exact .inl (kS (by have := f9 (by omega); omega))
 have gp' : vs[e.cN.toNat]? = some (vs.getD e.cN.toNat []) := gp.resolve_right (by omega)
 have g9 := f9 hk
 cases o with
 |none =>
  exfalso
  rw [bH] at hos
  rw [hos] at hvl
  simp at hvl
  omega
 |some m =>
  rw [aV] at hos
  have dD : ¬ m = nb := fun e => by rw [e, hb] at hos; cases hos
  have cS : ¬ nb = m := Ne.symm dD
  have dH : (m = nb) = False := eq_false dD
  have dI : (nb = m) = False := eq_false cS
  simp -dsimp -implicitDefEqProofs only [go_sem, ↓reduceIte, Tryz.f138, aY, aJ, Nat.lt_irrefl, Int.lt_irrefl, eN, aC, dH, dI, hk, F.get, F.out, aS.aR, aE.aR]
  intro _
  refine ⟨f1, f2, ?_⟩
  refine aKE.aWN m (by rw [aC _ _ _ _ dD]; exact hos) (by simp [gA, dH, dI]) ?_
  refine dA (keep := aBW) (ib := aOT) (mk := aOU) mix (by kernel_rfl) (fun x : Nat × List (List Int) × Nat × Int => [(0, .op nb 4 0 0), (1, .ip 5 [[I 11, I e.aX, I e.cN, I e.cA, eI 5 aB.c e.aK]] 0 0), (7, fE x.2.1), (9, .ip 3 (p.aI.map aS.c) e.aX.toNat 0), (10, I x.1)]) (fun x => aT h nb (eN p sz x.2.2.1 x.2.2.2)) (fun x => x.1 ≤ e.cA.toNat ∧ x.2.1.length = f.aW.length ∧ (∀ s ∈ x.2.1, cV sz s) ∧ t ≤ x.2.2.1 ∧ x.2.2.1 ≤ 3000 ∧ jB (oG c' (pC (fun vs t => lJ (fun t e => iU p sz n t e vs) (p.outs e.aX) t) x.1 vs t)) x.2.1 x.2.2.1 x.2.2.2) (fun x => e.cA.toNat - x.1) (0, vs, t, c') ⟨by simp [dF, b6, aD.fK, dH, dI, List.take_of_length_le], (iD (by repeat' (first | exact fS _ _ | refine iE (by simp only [dP, ↓reduceIte, eq_self, if_true, dH, dI, eN, aE.aR]) ?_ | refine eY (by first | exact .inr (by assumption) | exact .inl (by simp)) ?_))), Nat.zero_le _, by simp only; omega, hvs, Nat.le_refl _, ht, gR _ _ _⟩ ?_
  rintro ⟨k, us, u, d⟩ ⟨hk1, hul, hus, ht1, ht2, hd⟩
  simp only at hk1 hul hus ht1 ht2 hd ⊢
  have gu : us[e.cN.toNat]? = some (us.getD e.cN.toNat []) := kS (by omega)
  simp -dsimp -implicitDefEqProofs only [go_sem, ↓reduceIte, Tryz.f138, eN, gu]
  refine ⟨fun hlt => ?_, fun hge => ?_⟩
  ·refine aH.eM (fF.sub (.cons (.refl _) (.cons (Sub.ip (by rw [List.getElem?_map, F.get]; rfl) (by simp [aS.aR])) (.cons (.refl _) .nil))) (aLB hv (aT h nb (eN p sz u d)) nb u d f us e.aX (aG _ _ _) ht2 (by omega) (by omega) (by rw [hul, g9.2.2]; exact F.oks) f1 (by omega) hus (by omega))) ?_
   rintro r h' ⟨l2, t2, c2, rfl, rfl, hl2, oI, b1, b2, b3⟩
   simp -dsimp -implicitDefEqProofs only [go_sem, ↓reduceIte, Tryz.f138]
   refine ⟨(k + 1, l2, t2, c2), ⟨rfl, by rw [IntWalk.i64_in _ (by omega)]; rfl⟩, by simp only [aM]; exact aA.le_refl _, ⟨by omega, hl2, oI, by simp only; omega, b2, ?_⟩, by simp only; omega⟩
   simp only
   rw [wK]
   refine hd.dY ?_
   rw [F.eq]
   exact b3
  ·have hke : k = e.cA.toNat := by omega
   refine ⟨f3, by omega, _, _, bD _ _, us.getD e.cN.toNat [], u, d, rfl, rfl, iS hus (by omega), by omega, ht2, ?_⟩
   refine ho.dY ?_
   rw [← hke]
   exact hd.dY (gR _ _ _)
set_option maxRecDepth 100000
open Go.Proofs
set_option linter.unusedVariables false
set_option linter.unusedSimpArgs false
theorem aUM {p : aE} {sz n : Nat} (hsz : 1 ≤ sz ∧ sz ≤ 1048576) (h : aA) (nb st : Nat) (c : Int) (e : aB) (env : List (List Int)) (hb : h nb = some (eN p sz st c)) (hst : st ≤ 3000) (hs : ¬ c = 0 ∨ st = 3000) :
  fF Tryz.prog 116 [.op nb 4 0 0, .ip 5 [e.c] 0 0, fE env] h (RnQ h nb p sz st c (iU p sz (n + 1) st e env)) := by
 rw [aB.aR]
 have hb' := hb
 unfold eN at hb'
 refine gK 186 oU xO xP mix Tryz.func116 rfl (by kernel_rfl) (by simp) ?_
 simp -dsimp -implicitDefEqProofs only [go_sem, ↓reduceIte, Tryz.f116, hb']
 refine ⟨fun hc => ?_, fun hc => ?_⟩
 ·have hc' : ¬ c = 0 := by simpa using hc
  refine aH.eM (aSX h nb p sz st c c hb hsz.2) ?_
  rintro r h' ⟨rfl, rfl⟩
  simp -dsimp -implicitDefEqProofs only [go_sem, ↓reduceIte, Tryz.f116]
  refine ⟨_, _, bD _ _, _, st, c, rfl, by rw [if_neg hc'], e7 jT, Nat.le_refl _, hst, by rw [iG _ hc']; exact eX _ _ hc'⟩
 ·have hc0 : c = 0 := by simpa using hc
  subst hc0
  have h3 : st = 3000 := by rcases hs with hs | hs; exact absurd rfl hs; exact hs
  subst h3
  try simp -dsimp -implicitDefEqProofs only [go_sem, ↓reduceIte, Tryz.f116, hb']
  refine ⟨fun _ => ?_, fun q => absurd q (by simp)⟩
  refine aH.eM (aSX h nb p sz 3000 0 7 hb hsz.2) ?_
  rintro r h' ⟨rfl, rfl⟩
  simp -dsimp -implicitDefEqProofs only [go_sem, ↓reduceIte, Tryz.f116]
  refine ⟨_, _, bD _ _, _, 3000, 7, rfl, rfl, e7 jT, Nat.le_refl _, hst, ?_⟩
  rw [dC, iU, if_pos rfl]
  exact eX _ _ (by decide)
theorem a8E {p : aE} (hp : p.ok) {sz n : Nat} (hsz : 1 ≤ sz ∧ sz ≤ 1048576) (hv : rC p sz n) (h : aA) (nb st : Nat) (e : aB) (env : List (List Int)) (funcs : Int) (hb : h nb = some (eN p sz st 0)) (hst : st < 3000) (hn : 3001 ≤ n + 1 + st)
  (hok : e.ok p funcs env.length) (eH : 0 ≤ funcs) (hf : funcs ≤ p.aI.length) (henv : ∀ s ∈ env, cV sz s) (hel : env.length ≤ 412 + st) (hk : e.aO = 1) :
  fF Tryz.prog 116 [.op nb 4 0 0, .ip 5 [e.c] 0 0, fE env] h (RnQ h nb p sz st 0 (iU p sz (n + 1) st e env)) := by
 have hb' := hb
 unfold eN at hb'
 have e3 : ((st : Int) = 3000) = False := eq_false (by omega)
 have ew : IntKind.i64.wrap ((st : Int) + 1) = ((st + 1 : Nat) : Int) := by rw [IntWalk.i64_in _ (by omega)]; rfl
 have hnode := (aB.cR _ _ _ _).1 hok
 have h3 : ¬ st = 3000 := by omega
 have hnum : kI e.aX := ((dQ (by omega)).1 hnode.1).2.2.2.1 hk
 rw [aB.aR]
 refine gK 186 oU xO xP mix Tryz.func116 rfl (by kernel_rfl) (by simp) ?_
 simp -dsimp -implicitDefEqProofs only [go_sem, ↓reduceIte, Tryz.f116, hb', e3, ew, hk]
 first | refine aH.mk (mK e.aX sz hsz.2) ?_ | refine aF.mk (mK e.aX sz hsz.2) ?_ | refine aH.bY (mK e.aX sz hsz.2) ?_ | refine aF.mk (bQ.fJ (mK e.aX sz hsz.2)) ?_
 simp -dsimp -implicitDefEqProofs only [go_sem, ↓reduceIte, Tryz.f116]
 refine ⟨_, _, bD _ _, _, st + 1, 0, rfl, rfl, e7 hnum, Nat.le_succ _, hst, ?_⟩
 rw [dC, aOP h3 hk]
 exact kR _ _
theorem a8F {p : aE} (hp : p.ok) {sz n : Nat} (hsz : 1 ≤ sz ∧ sz ≤ 1048576) (hv : rC p sz n) (h : aA) (nb st : Nat) (e : aB) (env : List (List Int)) (funcs : Int) (hb : h nb = some (eN p sz st 0)) (hst : st < 3000) (hn : 3001 ≤ n + 1 + st)
  (hok : e.ok p funcs env.length) (eH : 0 ≤ funcs) (hf : funcs ≤ p.aI.length) (henv : ∀ s ∈ env, cV sz s) (hel : env.length ≤ 412 + st) (hk : e.aO = 2) :
  fF Tryz.prog 116 [.op nb 4 0 0, .ip 5 [e.c] 0 0, fE env] h (RnQ h nb p sz st 0 (iU p sz (n + 1) st e env)) := by
 have hb' := hb
 unfold eN at hb'
 have e3 : ((st : Int) = 3000) = False := eq_false (by omega)
 have ew : IntKind.i64.wrap ((st : Int) + 1) = ((st + 1 : Nat) : Int) := by rw [IntWalk.i64_in _ (by omega)]; rfl
 have hnode := (aB.cR _ _ _ _).1 hok
 have h3 : ¬ st = 3000 := by omega
 have hnum := ((dQ (by omega)).1 hnode.1).2.2.2.2.1 hk
 have hlt : e.aX.toNat < env.length := by omega
 rw [aB.aR]
 refine gK 186 oU xO xP mix Tryz.func116 rfl (by kernel_rfl) (by simp) ?_
 simp -dsimp -implicitDefEqProofs only [go_sem, ↓reduceIte, Tryz.f116, hb', e3, ew, hk, kS hlt]
 refine ⟨hnum.1, by omega, _, _, bD _ _, _, st + 1, 0, rfl, rfl, iS henv hlt, Nat.le_succ _, hst, ?_⟩
 rw [dC, aOQ h3 hk]
 exact kR _ _
theorem a8G {p : aE} (hp : p.ok) {sz n : Nat} (hsz : 1 ≤ sz ∧ sz ≤ 1048576) (hv : rC p sz n) (h : aA) (nb st : Nat) (e : aB) (env : List (List Int)) (funcs : Int) (hb : h nb = some (eN p sz st 0)) (hst : st < 3000) (hn : 3001 ≤ n + 1 + st)
  (hok : e.ok p funcs env.length) (eH : 0 ≤ funcs) (hf : funcs ≤ p.aI.length) (henv : ∀ s ∈ env, cV sz s) (hel : env.length ≤ 412 + st) (hk : e.aO = 8) :
  fF Tryz.prog 116 [.op nb 4 0 0, .ip 5 [e.c] 0 0, fE env] h (RnQ h nb p sz st 0 (iU p sz (n + 1) st e env)) := by
 have hb' := hb
 unfold eN at hb'
 have e3 : ((st : Int) = 3000) = False := eq_false (by omega)
 have ew : IntKind.i64.wrap ((st : Int) + 1) = ((st + 1 : Nat) : Int) := by rw [IntWalk.i64_in _ (by omega)]; rfl
 have hnode := (aB.cR _ _ _ _).1 hok
 have h3 : ¬ st = 3000 := by omega
 have hlen := dB hok (by omega)
 rw [hk, show dN 8 = 3 from rfl] at hlen
 have g0 : e.aK[Int.toNat 0]? = some (e.mJ 0) := aB.gE (by omega)
 have g1 : e.aK[Int.toNat 1]? = some (e.mJ 1) := aB.gE (by omega)
 have g2 : e.aK[Int.toNat 2]? = some (e.mJ 2) := aB.gE (by omega)
 have o0 := aB.eP hok (i := 0) (by omega)
 have o1 := aB.eP hok (i := 1) (by omega)
 have o2 := aB.eP hok (i := 2) (by omega)
 rw [gT (by omega)] at o0 o1 o2
 rw [aB.aR]
 refine gK 186 oU xO xP mix Tryz.func116 rfl (by kernel_rfl) (by simp) ?_
 simp -dsimp -implicitDefEqProofs only [go_sem, ↓reduceIte, Tryz.f116, hb', e3, ew, hk, g0]
 refine ⟨by omega, ?_⟩
 refine aH.eM (hv.at g0 (aT h nb (eN p sz (st + 1) 0)) nb (st + 1) 0 env funcs (aG _ _ _) (by omega) (by omega) o0 eH hf henv (by omega)) ?_
 rintro r h' ⟨s1, t1, c1, rfl, rfl, kM, a1, a2, a3⟩
 have gs : s1[Int.toNat 0]? = some (s1.getD 0 0) := cX (by rw [kM.1]; omega)
 simp -dsimp -implicitDefEqProofs only [go_sem, ↓reduceIte, Tryz.f116, gs, g1, g2]
 refine ⟨by rw [kM.1]; omega, fun hz => ⟨by omega, ?_⟩, fun hz => ⟨by omega, ?_⟩⟩
 ·rw [aM]
  refine aH.eM (hv.at g1 (aT h nb (eN p sz t1 c1)) nb t1 c1 env funcs (aG _ _ _) (by omega) (by omega) o1 eH hf henv (by omega)) ?_
  rintro r h' ⟨s2, t2, c2, rfl, rfl, oI, b1, b2, b3⟩
  simp -dsimp -implicitDefEqProofs only [go_sem, ↓reduceIte, Tryz.f116]
  refine ⟨_, _, bD _ _, s2, t2, c2, rfl, by rw [aM], oI, by omega, b2, ?_⟩
  rw [aG6 h3 hk]
  refine a3.dY ?_
  rw [if_pos hz]
  exact b3
 ·rw [aM]
  refine aH.eM (hv.at g2 (aT h nb (eN p sz t1 c1)) nb t1 c1 env funcs (aG _ _ _) (by omega) (by omega) o2 eH hf henv (by omega)) ?_
  rintro r h' ⟨s2, t2, c2, rfl, rfl, oI, b1, b2, b3⟩
  simp -dsimp -implicitDefEqProofs only [go_sem, ↓reduceIte, Tryz.f116]
  refine ⟨_, _, bD _ _, s2, t2, c2, rfl, by rw [aM], oI, by omega, b2, ?_⟩
  rw [aG6 h3 hk]
  refine a3.dY ?_
  rw [if_neg hz]
  exact b3
theorem a8H {p : aE} (hp : p.ok) {sz n : Nat} (hsz : 1 ≤ sz ∧ sz ≤ 1048576) (hv : rC p sz n) (h : aA) (nb st : Nat) (e : aB) (env : List (List Int)) (funcs : Int) (hb : h nb = some (eN p sz st 0)) (hst : st < 3000) (hn : 3001 ≤ n + 1 + st)
  (hok : e.ok p funcs env.length) (eH : 0 ≤ funcs) (hf : funcs ≤ p.aI.length) (henv : ∀ s ∈ env, cV sz s) (hel : env.length ≤ 412 + st) (hk : e.aO = 9) :
  fF Tryz.prog 116 [.op nb 4 0 0, .ip 5 [e.c] 0 0, fE env] h (RnQ h nb p sz st 0 (iU p sz (n + 1) st e env)) := by
 have hb' := hb
 unfold eN at hb'
 have e3 : ((st : Int) = 3000) = False := eq_false (by omega)
 have ew : IntKind.i64.wrap ((st : Int) + 1) = ((st + 1 : Nat) : Int) := by rw [IntWalk.i64_in _ (by omega)]; rfl
 have hnode := (aB.cR _ _ _ _).1 hok
 have h3 : ¬ st = 3000 := by omega
 have hlen := dB hok (by omega)
 rw [hk, show dN 9 = 2 from rfl] at hlen
 have g0 : e.aK[Int.toNat 0]? = some (e.mJ 0) := aB.gE (by omega)
 have g1 : e.aK[Int.toNat 1]? = some (e.mJ 1) := aB.gE (by omega)
 have o0 := aB.eP hok (i := 0) (by omega)
 have o1 := aB.eP hok (i := 1) (by omega)
 rw [gT (by omega)] at o0
 rw [hk, show iL 9 1 (env.length : Int) = env.length + 1 from rfl] at o1
 rw [aB.aR]
 refine gK 186 oU xO xP mix Tryz.func116 rfl (by kernel_rfl) (by simp) ?_
 simp -dsimp -implicitDefEqProofs only [go_sem, ↓reduceIte, Tryz.f116, hb', e3, ew, hk, g0, g1]
 refine ⟨by omega, ?_⟩
 refine aH.eM (hv.at g0 (aT h nb (eN p sz (st + 1) 0)) nb (st + 1) 0 env funcs (aG _ _ _) (by omega) (by omega) o0 eH hf henv (by omega)) ?_
 rintro r h' ⟨s1, t1, c1, rfl, rfl, kM, a1, a2, a3⟩
 simp -dsimp -implicitDefEqProofs only [go_sem, ↓reduceIte, Tryz.f116, g0, g1]
 refine ⟨by omega, ?_⟩
 first | refine aH.mk (aLA env s1 (by omega)) ?_ | refine aF.mk (aLA env s1 (by omega)) ?_ | refine aH.bY (aLA env s1 (by omega)) ?_ | refine aF.mk (bQ.fJ (aLA env s1 (by omega))) ?_
 simp -dsimp -implicitDefEqProofs only [go_sem, ↓reduceIte, Tryz.f116]
 rw [aM]
 refine aH.eM (hv.at g1 (aT h nb (eN p sz t1 c1)) nb t1 c1 (env ++ [s1]) funcs (aG _ _ _) (by omega) (by omega) (by rw [List.length_append]; exact o1) eH hf (tE henv kM) (by rw [List.length_append]; show env.length + 1 ≤ _; omega)) ?_
 rintro r h' ⟨s2, t2, c2, rfl, rfl, oI, b1, b2, b3⟩
 simp -dsimp -implicitDefEqProofs only [go_sem, ↓reduceIte, Tryz.f116]
 refine ⟨_, aT h nb (eN p sz t2 c2), cI (by rw [aM]; exact aA.le_refl _), s2, t2, c2, rfl, rfl, oI, by omega, b2, ?_⟩
 rw [aOR h3 hk]
 exact a3.dY b3
theorem a1U {p : aE} (hp : p.ok) {sz n : Nat} (hsz : 1 ≤ sz ∧ sz ≤ 1048576) (hv : rC p sz n) (h : aA) (nb st : Nat) (e : aB) (env : List (List Int)) (funcs : Int) (hb : h nb = some (eN p sz st 0)) (hst : st < 3000) (hn : 3001 ≤ n + 1 + st)
  (hok : e.ok p funcs env.length) (eH : 0 ≤ funcs) (hf : funcs ≤ p.aI.length) (henv : ∀ s ∈ env, cV sz s) (hel : env.length ≤ 412 + st) (hk : e.aO = 10) :
  fF Tryz.prog 116 [.op nb 4 0 0, .ip 5 [e.c] 0 0, fE env] h (RnQ h nb p sz st 0 (iU p sz (n + 1) st e env)) := by
 have hb' := hb
 unfold eN at hb'
 have e3 : ((st : Int) = 3000) = False := eq_false (by omega)
 have ew : IntKind.i64.wrap ((st : Int) + 1) = ((st + 1 : Nat) : Int) := by rw [IntWalk.i64_in _ (by omega)]; rfl
 have hnode := (aB.cR _ _ _ _).1 hok
 have h3 : ¬ st = 3000 := by omega
 have hcl := a1S hp hv (aT h nb (eN p sz (st + 1) 0)) nb (st + 1) e env funcs (aG _ _ _) (by omega) (by omega) hok eH hf henv (by omega) hk
 rw [aB.aR, hk] at hcl
 rw [aB.aR]
 refine gK 186 oU xO xP mix Tryz.func116 rfl (by kernel_rfl) (by simp) ?_
 simp -dsimp -implicitDefEqProofs only [go_sem, ↓reduceIte, Tryz.f116, hb', e3, ew, hk]
 refine aH.eM hcl ?_
 rintro r h' ⟨s2, t2, c2, rfl, rfl, oI, b1, b2, b3⟩
 simp -dsimp -implicitDefEqProofs only [go_sem, ↓reduceIte, Tryz.f116]
 refine ⟨_, aT h nb (eN p sz t2 c2), cI (by rw [aM]; exact aA.le_refl _), s2, t2, c2, rfl, rfl, oI, by omega, b2, ?_⟩
 rw [aDI h3 hk]
 exact b3
theorem a1V {p : aE} (hp : p.ok) {sz n : Nat} (hsz : 1 ≤ sz ∧ sz ≤ 1048576) (hv : rC p sz n) (h : aA) (nb st : Nat) (e : aB) (env : List (List Int)) (funcs : Int) (hb : h nb = some (eN p sz st 0)) (hst : st < 3000) (hn : 3001 ≤ n + 1 + st)
  (hok : e.ok p funcs env.length) (eH : 0 ≤ funcs) (hf : funcs ≤ p.aI.length) (henv : ∀ s ∈ env, cV sz s) (hel : env.length ≤ 412 + st) (hk : e.aO = 11) :
  fF Tryz.prog 116 [.op nb 4 0 0, .ip 5 [e.c] 0 0, fE env] h (RnQ h nb p sz st 0 (iU p sz (n + 1) st e env)) := by
 have hb' := hb
 unfold eN at hb'
 have e3 : ((st : Int) = 3000) = False := eq_false (by omega)
 have ew : IntKind.i64.wrap ((st : Int) + 1) = ((st + 1 : Nat) : Int) := by rw [IntWalk.i64_in _ (by omega)]; rfl
 have hnode := (aB.cR _ _ _ _).1 hok
 have h3 : ¬ st = 3000 := by omega
 have hcl := a1T hp hv (aT h nb (eN p sz (st + 1) 0)) nb (st + 1) e env funcs (aG _ _ _) (by omega) (by omega) hok eH hf henv (by omega) hk
 rw [aB.aR, hk] at hcl
 rw [aB.aR]
 refine gK 186 oU xO xP mix Tryz.func116 rfl (by kernel_rfl) (by simp) ?_
 simp -dsimp -implicitDefEqProofs only [go_sem, ↓reduceIte, Tryz.f116, hb', e3, ew, hk]
 refine aH.eM hcl ?_
 rintro r h' ⟨s2, t2, c2, rfl, rfl, oI, b1, b2, b3⟩
 simp -dsimp -implicitDefEqProofs only [go_sem, ↓reduceIte, Tryz.f116]
 refine ⟨_, aT h nb (eN p sz t2 c2), cI (by rw [aM]; exact aA.le_refl _), s2, t2, c2, rfl, rfl, oI, by omega, b2, ?_⟩
 rw [aDJ h3 hk]
 exact b3
end Go.Hl

/-
  Contracts of functions and laws of the layer over the walk.
-/
import Derived.Test.YtgkipnacdihfnaaGreatVvC
import Derived.Test.YtgkipnacdihfnaaGreatHlD
import Derived.Test.YtgkipnacdihfnaaGreatVvB
import Derived.Test.YtgkipnacdihfnaaGreatGn
namespace Go.Hl
set_option maxRecDepth 100000
open Go.Proofs
set_option linter.unusedVariables false
set_option linter.unusedSimpArgs false
theorem aYM {e : aC} (h : e.aN.length = 1) : e.aN = [e.nN 0] := by
 have h0 := aC.aLD (e := e) (i := 0) (by omega)
 rw [h0]
 apply List.ext_getElem (by simp [h])
 intro i hi hi2
 match i, hi2 with
 |0, _ => rfl
theorem aYN {e : aC} (h : e.aN.length = 2) : e.aN = [e.nN 0, e.nN 1] := by
 have h0 := aC.aLD (e := e) (i := 0) (by omega)
 have h1 := aC.aLD (e := e) (i := 1) (by omega)
 rw [h0, h1]
 apply List.ext_getElem (by simp [h])
 intro i hi hi2
 match i, hi2 with
 |0, _ => rfl
 |1, _ => rfl
theorem a9X {p : aE} {sz n st : Nat} {e : aC} {env : List (List Int)} (h3 : ¬ st = 3000) (hk : e.aP = 7) (hl : e.aN.length = 1) : iY p sz (n + 1) st e env = (iY p sz n (st + 1) (e.nN 0) env).andThen fun v t => .ok (lY v 1000002, t) := by
 rw [oU h3 (by omega), aYM hl, hk]
 simp only [lS, Out.mU, Out.andThen_ok, opE]
 rfl
theorem zQ {p : aE} {sz n st : Nat} {e : aC} {env : List (List Int)} (h3 : ¬ st = 3000) (hk : e.aP = 3 ∨ e.aP = 4 ∨ e.aP = 5 ∨ e.aP = 6) (hl : e.aN.length = 2) : iY p sz (n + 1) st e env = (iY p sz n (st + 1) (e.nN 0) env).andThen fun a t => (iY p sz n t (e.nN 1) env).andThen fun b t => opE e.aP [a, b] t := by
 rw [oU h3 (by omega), aYN hl]
 simp only [lS, Out.mU, Out.andThen_ok]
theorem a9Y {p : aE} (hp : p.ok) {sz n : Nat} (hsz : 1 ≤ sz ∧ sz ≤ 1048576) (hv : rU p sz n) (h : aB) (nb st : Nat) (e : aC) (env : List (List Int)) (funcs : Int) (hb : h nb = some (dX p sz st 0)) (hst : st < 3000) (hn : 3001 ≤ n + 1 + st)
  (hok : e.ok p funcs env.length) (fN : 0 ≤ funcs) (hf : funcs ≤ p.aI.length) (henv : ∀ s ∈ env, bN sz s) (hel : env.length ≤ 412 + st) (hk : e.aP = 7) :
  iH Tryz.prog 116 [.op nb 4 0 0, .ip 5 [e.c] 0 0, c7 env] h (RnQ h nb p sz st 0 (iY p sz (n + 1) st e env)) := by
 have hb' := hb
 unfold dX at hb'
 have e3 : ((st : Int) = 3000) = False := eq_false (by omega)
 have ew : IntKind.i64.wrap ((st : Int) + 1) = ((st + 1 : Nat) : Int) := by rw [IntWalk.i64_in _ (by omega)]; rfl
 have hnode := (aC.dB _ _ _ _).1 hok
 have h3 : ¬ st = 3000 := by omega
 have hlen := dT hok (by omega)
 rw [hk, show dR 7 = 1 from rfl] at hlen
 have g0 : e.aN[Int.toNat 0]? = some (e.nN 0) := aC.gR (by omega)
 have o0 := aC.eP hok (i := 0) (by omega)
 rw [hJ (by omega)] at o0
 rw [aC.aU]
 refine j4 186 pA xX xY mix Tryz.func116 rfl (by kernel_rfl) (by simp) ?_
 simp -dsimp -implicitDefEqProofs only [go_sem, ↓reduceIte, Tryz.f116, hb', e3, ew, hk, g0]
 refine ⟨by omega, ?_⟩
 refine aH.fG (hv.at g0 (aR h nb (dX p sz (st + 1) 0)) nb (st + 1) 0 env funcs (aG _ _ _) (by omega) (by omega) o0 fN hf henv (by omega)) ?_
 rintro r h' ⟨s1, t1, c1, rfl, rfl, mY, a1, a2, a3⟩
 simp -dsimp -implicitDefEqProofs only [go_sem, ↓reduceIte, Tryz.f116]
 first | refine aH.mk (rT s1 1000002 (by unfold jA; omega) (by rw [mY.1]; omega) mY.2) ?_ | refine aF.mk (rT s1 1000002 (by unfold jA; omega) (by rw [mY.1]; omega) mY.2) ?_ | refine aH.bS (rT s1 1000002 (by unfold jA; omega) (by rw [mY.1]; omega) mY.2) ?_ | refine aF.mk (bM.eQ (rT s1 1000002 (by unfold jA; omega) (by rw [mY.1]; omega) mY.2)) ?_
 simp -dsimp -implicitDefEqProofs only [go_sem, ↓reduceIte, Tryz.f116]
 refine ⟨_, aR h nb (dX p sz t1 c1), cM (by rw [aK]; exact aB.le_refl _), _, t1, c1, rfl, rfl, fS _ mY, by omega, a2, ?_⟩
 rw [a9X h3 hk (by omega)]
 exact a3.dP (gO _ _ _)
theorem a9Z {p : aE} (hp : p.ok) {sz n : Nat} (hsz : 1 ≤ sz ∧ sz ≤ 1048576) (hv : rU p sz n) (h : aB) (nb st : Nat) (e : aC) (env : List (List Int)) (funcs : Int) (hb : h nb = some (dX p sz st 0)) (hst : st < 3000) (hn : 3001 ≤ n + 1 + st)
  (hok : e.ok p funcs env.length) (fN : 0 ≤ funcs) (hf : funcs ≤ p.aI.length) (henv : ∀ s ∈ env, bN sz s) (hel : env.length ≤ 412 + st) (hk : e.aP = 3) :
  iH Tryz.prog 116 [.op nb 4 0 0, .ip 5 [e.c] 0 0, c7 env] h (RnQ h nb p sz st 0 (iY p sz (n + 1) st e env)) := by
 have hb' := hb
 unfold dX at hb'
 have e3 : ((st : Int) = 3000) = False := eq_false (by omega)
 have ew : IntKind.i64.wrap ((st : Int) + 1) = ((st + 1 : Nat) : Int) := by rw [IntWalk.i64_in _ (by omega)]; rfl
 have hnode := (aC.dB _ _ _ _).1 hok
 have h3 : ¬ st = 3000 := by omega
 have hlen := dT hok (by omega)
 rw [hk, show dR 3 = 2 from rfl] at hlen
 have g0 : e.aN[Int.toNat 0]? = some (e.nN 0) := aC.gR (by omega)
 have g1 : e.aN[Int.toNat 1]? = some (e.nN 1) := aC.gR (by omega)
 have o0 := aC.eP hok (i := 0) (by omega)
 have o1 := aC.eP hok (i := 1) (by omega)
 rw [hJ (by omega)] at o0 o1
 rw [aC.aU]
 refine j4 186 pA xX xY mix Tryz.func116 rfl (by kernel_rfl) (by simp) ?_
 simp -dsimp -implicitDefEqProofs only [go_sem, ↓reduceIte, Tryz.f116, hb', e3, ew, hk, g0]
 refine ⟨by omega, ?_⟩
 refine aH.fG (hv.at g0 (aR h nb (dX p sz (st + 1) 0)) nb (st + 1) 0 env funcs (aG _ _ _) (by omega) (by omega) o0 fN hf henv (by omega)) ?_
 rintro r h' ⟨s1, t1, c1, rfl, rfl, mY, a1, a2, a3⟩
 simp -dsimp -implicitDefEqProofs only [go_sem, ↓reduceIte, Tryz.f116, g1]
 refine ⟨by omega, ?_⟩
 rw [aK]
 refine aH.fG (hv.at g1 (aR h nb (dX p sz t1 c1)) nb t1 c1 env funcs (aG _ _ _) (by omega) (by omega) o1 fN hf henv (by omega)) ?_
 rintro r h' ⟨s2, t2, c2, rfl, rfl, rC, b1, b2, b3⟩
 rw [aK]
 simp -dsimp -implicitDefEqProofs only [go_sem, ↓reduceIte, Tryz.f116, hk]
 first | refine aH.mk (y7 s1 s2 (by rw [mY.1, rC.1]) (by rw [mY.1]; omega) mY.2 rC.2) ?_ | refine aF.mk (y7 s1 s2 (by rw [mY.1, rC.1]) (by rw [mY.1]; omega) mY.2 rC.2) ?_ | refine aH.bS (y7 s1 s2 (by rw [mY.1, rC.1]) (by rw [mY.1]; omega) mY.2 rC.2) ?_ | refine aF.mk (bM.eQ (y7 s1 s2 (by rw [mY.1, rC.1]) (by rw [mY.1]; omega) mY.2 rC.2)) ?_
 simp -dsimp -implicitDefEqProofs only [go_sem, ↓reduceIte, Tryz.f116]
 refine ⟨_, aR h nb (dX p sz t2 c2), cM (aB.le_refl _), _, t2, c2, rfl, rfl, q0 mY rC, by omega, b2, ?_⟩
 rw [zQ h3 (by omega) (by omega), hk]
 exact a3.dP (b3.dP (gO _ _ _))
theorem a90 {p : aE} (hp : p.ok) {sz n : Nat} (hsz : 1 ≤ sz ∧ sz ≤ 1048576) (hv : rU p sz n) (h : aB) (nb st : Nat) (e : aC) (env : List (List Int)) (funcs : Int) (hb : h nb = some (dX p sz st 0)) (hst : st < 3000) (hn : 3001 ≤ n + 1 + st)
  (hok : e.ok p funcs env.length) (fN : 0 ≤ funcs) (hf : funcs ≤ p.aI.length) (henv : ∀ s ∈ env, bN sz s) (hel : env.length ≤ 412 + st) (hk : e.aP = 4) :
  iH Tryz.prog 116 [.op nb 4 0 0, .ip 5 [e.c] 0 0, c7 env] h (RnQ h nb p sz st 0 (iY p sz (n + 1) st e env)) := by
 have hb' := hb
 unfold dX at hb'
 have e3 : ((st : Int) = 3000) = False := eq_false (by omega)
 have ew : IntKind.i64.wrap ((st : Int) + 1) = ((st + 1 : Nat) : Int) := by rw [IntWalk.i64_in _ (by omega)]; rfl
 have hnode := (aC.dB _ _ _ _).1 hok
 have h3 : ¬ st = 3000 := by omega
 have hlen := dT hok (by omega)
 rw [hk, show dR 4 = 2 from rfl] at hlen
 have g0 : e.aN[Int.toNat 0]? = some (e.nN 0) := aC.gR (by omega)
 have g1 : e.aN[Int.toNat 1]? = some (e.nN 1) := aC.gR (by omega)
 have o0 := aC.eP hok (i := 0) (by omega)
 have o1 := aC.eP hok (i := 1) (by omega)
 rw [hJ (by omega)] at o0 o1
 rw [aC.aU]
 refine j4 186 pA xX xY mix Tryz.func116 rfl (by kernel_rfl) (by simp) ?_
 simp -dsimp -implicitDefEqProofs only [go_sem, ↓reduceIte, Tryz.f116, hb', e3, ew, hk, g0]
 refine ⟨by omega, ?_⟩
 refine aH.fG (hv.at g0 (aR h nb (dX p sz (st + 1) 0)) nb (st + 1) 0 env funcs (aG _ _ _) (by omega) (by omega) o0 fN hf henv (by omega)) ?_
 rintro r h' ⟨s1, t1, c1, rfl, rfl, mY, a1, a2, a3⟩
 simp -dsimp -implicitDefEqProofs only [go_sem, ↓reduceIte, Tryz.f116, g1]
 refine ⟨by omega, ?_⟩
 rw [aK]
 refine aH.fG (hv.at g1 (aR h nb (dX p sz t1 c1)) nb t1 c1 env funcs (aG _ _ _) (by omega) (by omega) o1 fN hf henv (by omega)) ?_
 rintro r h' ⟨s2, t2, c2, rfl, rfl, rC, b1, b2, b3⟩
 rw [aK]
 simp -dsimp -implicitDefEqProofs only [go_sem, ↓reduceIte, Tryz.f116, hk]
 first | refine aH.mk (aLL s1 s2 (by rw [mY.1, rC.1]) (by rw [mY.1]; omega) mY.2 rC.2) ?_ | refine aF.mk (aLL s1 s2 (by rw [mY.1, rC.1]) (by rw [mY.1]; omega) mY.2 rC.2) ?_ | refine aH.bS (aLL s1 s2 (by rw [mY.1, rC.1]) (by rw [mY.1]; omega) mY.2 rC.2) ?_ | refine aF.mk (bM.eQ (aLL s1 s2 (by rw [mY.1, rC.1]) (by rw [mY.1]; omega) mY.2 rC.2)) ?_
 simp -dsimp -implicitDefEqProofs only [go_sem, ↓reduceIte, Tryz.f116]
 refine ⟨_, aR h nb (dX p sz t2 c2), cM (aB.le_refl _), _, t2, c2, rfl, rfl, zM mY rC, by omega, b2, ?_⟩
 rw [zQ h3 (by omega) (by omega), hk]
 exact a3.dP (b3.dP (gO _ _ _))
theorem a91 {p : aE} (hp : p.ok) {sz n : Nat} (hsz : 1 ≤ sz ∧ sz ≤ 1048576) (hv : rU p sz n) (h : aB) (nb st : Nat) (e : aC) (env : List (List Int)) (funcs : Int) (hb : h nb = some (dX p sz st 0)) (hst : st < 3000) (hn : 3001 ≤ n + 1 + st)
  (hok : e.ok p funcs env.length) (fN : 0 ≤ funcs) (hf : funcs ≤ p.aI.length) (henv : ∀ s ∈ env, bN sz s) (hel : env.length ≤ 412 + st) (hk : e.aP = 5) :
  iH Tryz.prog 116 [.op nb 4 0 0, .ip 5 [e.c] 0 0, c7 env] h (RnQ h nb p sz st 0 (iY p sz (n + 1) st e env)) := by
 have hb' := hb
 unfold dX at hb'
 have e3 : ((st : Int) = 3000) = False := eq_false (by omega)
 have ew : IntKind.i64.wrap ((st : Int) + 1) = ((st + 1 : Nat) : Int) := by rw [IntWalk.i64_in _ (by omega)]; rfl
 have hnode := (aC.dB _ _ _ _).1 hok
 have h3 : ¬ st = 3000 := by omega
 have hlen := dT hok (by omega)
 rw [hk, show dR 5 = 2 from rfl] at hlen
 have g0 : e.aN[Int.toNat 0]? = some (e.nN 0) := aC.gR (by omega)
 have g1 : e.aN[Int.toNat 1]? = some (e.nN 1) := aC.gR (by omega)
 have o0 := aC.eP hok (i := 0) (by omega)
 have o1 := aC.eP hok (i := 1) (by omega)
 rw [hJ (by omega)] at o0 o1
 rw [aC.aU]
 refine j4 186 pA xX xY mix Tryz.func116 rfl (by kernel_rfl) (by simp) ?_
 simp -dsimp -implicitDefEqProofs only [go_sem, ↓reduceIte, Tryz.f116, hb', e3, ew, hk, g0]
 refine ⟨by omega, ?_⟩
 refine aH.fG (hv.at g0 (aR h nb (dX p sz (st + 1) 0)) nb (st + 1) 0 env funcs (aG _ _ _) (by omega) (by omega) o0 fN hf henv (by omega)) ?_
 rintro r h' ⟨s1, t1, c1, rfl, rfl, mY, a1, a2, a3⟩
 simp -dsimp -implicitDefEqProofs only [go_sem, ↓reduceIte, Tryz.f116, g1]
 refine ⟨by omega, ?_⟩
 rw [aK]
 refine aH.fG (hv.at g1 (aR h nb (dX p sz t1 c1)) nb t1 c1 env funcs (aG _ _ _) (by omega) (by omega) o1 fN hf henv (by omega)) ?_
 rintro r h' ⟨s2, t2, c2, rfl, rfl, rC, b1, b2, b3⟩
 rw [aK]
 simp -dsimp -implicitDefEqProofs only [go_sem, ↓reduceIte, Tryz.f116, hk]
 first | refine aH.mk (aLM s1 s2 (by rw [mY.1, rC.1]) (by rw [mY.1]; omega) mY.2 rC.2) ?_ | refine aF.mk (aLM s1 s2 (by rw [mY.1, rC.1]) (by rw [mY.1]; omega) mY.2 rC.2) ?_ | refine aH.bS (aLM s1 s2 (by rw [mY.1, rC.1]) (by rw [mY.1]; omega) mY.2 rC.2) ?_ | refine aF.mk (bM.eQ (aLM s1 s2 (by rw [mY.1, rC.1]) (by rw [mY.1]; omega) mY.2 rC.2)) ?_
 simp -dsimp -implicitDefEqProofs only [go_sem, ↓reduceIte, Tryz.f116]
 refine ⟨_, aR h nb (dX p sz t2 c2), cM (aB.le_refl _), _, t2, c2, rfl, rfl, hH _ mY, by omega, b2, ?_⟩
 rw [zQ h3 (by omega) (by omega), hk]
 exact a3.dP (b3.dP (gO _ _ _))
theorem a92 {p : aE} (hp : p.ok) {sz n : Nat} (hsz : 1 ≤ sz ∧ sz ≤ 1048576) (hv : rU p sz n) (h : aB) (nb st : Nat) (e : aC) (env : List (List Int)) (funcs : Int) (hb : h nb = some (dX p sz st 0)) (hst : st < 3000) (hn : 3001 ≤ n + 1 + st)
  (hok : e.ok p funcs env.length) (fN : 0 ≤ funcs) (hf : funcs ≤ p.aI.length) (henv : ∀ s ∈ env, bN sz s) (hel : env.length ≤ 412 + st) (hk : e.aP = 6) :
  iH Tryz.prog 116 [.op nb 4 0 0, .ip 5 [e.c] 0 0, c7 env] h (RnQ h nb p sz st 0 (iY p sz (n + 1) st e env)) := by
 have hb' := hb
 unfold dX at hb'
 have e3 : ((st : Int) = 3000) = False := eq_false (by omega)
 have ew : IntKind.i64.wrap ((st : Int) + 1) = ((st + 1 : Nat) : Int) := by rw [IntWalk.i64_in _ (by omega)]; rfl
 have hnode := (aC.dB _ _ _ _).1 hok
 have h3 : ¬ st = 3000 := by omega
 have hlen := dT hok (by omega)
 rw [hk, show dR 6 = 2 from rfl] at hlen
 have g0 : e.aN[Int.toNat 0]? = some (e.nN 0) := aC.gR (by omega)
 have g1 : e.aN[Int.toNat 1]? = some (e.nN 1) := aC.gR (by omega)
 have o0 := aC.eP hok (i := 0) (by omega)
 have o1 := aC.eP hok (i := 1) (by omega)
 rw [hJ (by omega)] at o0 o1
 rw [aC.aU]
 refine j4 186 pA xX xY mix Tryz.func116 rfl (by kernel_rfl) (by simp) ?_
 simp -dsimp -implicitDefEqProofs only [go_sem, ↓reduceIte, Tryz.f116, hb', e3, ew, hk, g0]
 refine ⟨by omega, ?_⟩
 refine aH.fG (hv.at g0 (aR h nb (dX p sz (st + 1) 0)) nb (st + 1) 0 env funcs (aG _ _ _) (by omega) (by omega) o0 fN hf henv (by omega)) ?_
 rintro r h' ⟨s1, t1, c1, rfl, rfl, mY, a1, a2, a3⟩
 simp -dsimp -implicitDefEqProofs only [go_sem, ↓reduceIte, Tryz.f116, g1]
 refine ⟨by omega, ?_⟩
 rw [aK]
 refine aH.fG (hv.at g1 (aR h nb (dX p sz t1 c1)) nb t1 c1 env funcs (aG _ _ _) (by omega) (by omega) o1 fN hf henv (by omega)) ?_
 rintro r h' ⟨s2, t2, c2, rfl, rfl, rC, b1, b2, b3⟩
 rw [aK]
 have gs : s2[Int.toNat 0]? = some (s2.getD 0 0) := dS (by rw [rC.1]; omega)
 simp -dsimp -implicitDefEqProofs only [go_sem, ↓reduceIte, Tryz.f116, hk, dX, gs]
 refine ⟨fun hc => ?_, fun hc => ?_⟩
 ·subst hc
  refine ⟨by rw [rC.1]; omega, fun hz => ?_, fun hz => ?_⟩
  ·refine aH.fG (aTG (aR h nb (dX p sz t2 0)) nb p sz t2 0 6 (aG _ _ _) hsz.2) ?_
   rintro r h' ⟨rfl, rfl⟩
   simp -dsimp -implicitDefEqProofs only [go_sem, ↓reduceIte, Tryz.f116]
   refine ⟨_, aR h nb (dX p sz t2 6), cM (by rw [aK]; exact aB.le_refl _), _, t2, 6, rfl, rfl, eX jD, by omega, b2, ?_⟩
   rw [zQ h3 (by omega) (by omega), hk]
   refine a3.dP (b3.dP ?_)
   have : opE 6 [s1, s2] t2 = .error 6 := by rw [opE, if_neg (by decide), if_neg (by decide), if_neg (by decide), if_neg (by decide)]; exact if_pos hz
   rw [cU, this]
   exact eO _ _ (by decide)
  ·refine aH.mk (a9Q s1 s2 (by rw [mY.1, rC.1]) (by rw [mY.1]; omega) (by rw [mY.1]; omega) mY.2 rC.2) ?_
   simp -dsimp -implicitDefEqProofs only [go_sem, ↓reduceIte, Tryz.f116]
   refine ⟨_, aR h nb (dX p sz t2 0), cM (aB.le_refl _), _, t2, 0, rfl, rfl, pR _ mY, by omega, b2, ?_⟩
   rw [zQ h3 (by omega) (by omega), hk]
   refine a3.dP (b3.dP ?_)
   have : opE 6 [s1, s2] t2 = .ok (lA s1 s2, t2) := by rw [opE, if_neg (by decide), if_neg (by decide), if_neg (by decide), if_neg (by decide)]; exact if_neg hz
   rw [cU, this]
   exact lB _ _
 ·refine aH.fG (aTG (aR h nb (dX p sz t2 c2)) nb p sz t2 c2 6 (aG _ _ _) hsz.2) ?_
  rintro r h' ⟨rfl, rfl⟩
  simp -dsimp -implicitDefEqProofs only [go_sem, ↓reduceIte, Tryz.f116]
  refine ⟨_, aR h nb (dX p sz t2 c2), cM (by rw [aK, if_neg hc]; exact aB.le_refl _), _, t2, c2, rfl, rfl, eX jD, by omega, b2, ?_⟩
  rw [zQ h3 (by omega) (by omega), hk]
  exact a3.dP (b3.dP (by rw [iA _ hc]; exact eO _ _ hc))
theorem run {p : aE} (hp : p.ok) {sz : Nat} (hsz : 1 ≤ sz ∧ sz ≤ 1048576) : ∀ n, rU p sz n
 |0 => fun h nb st c e env funcs hb hst hn => by omega
 |n + 1 => fun h nb st c e env funcs hb hst hn hok fN hf henv hel => by
  have hv := run hp hsz n
  by_cases hs : ¬ c = 0 ∨ st = 3000
  ·exact aVE hsz h nb st c e env hb hst hs
  have hc : c = 0 := Classical.byContradiction fun q => hs (.inl q)
  have h3 : st < 3000 := by
   rcases Nat.lt_or_ge st 3000 with h | h
   ·exact h
   ·exact absurd (.inr (by omega)) hs
  subst hc
  rcases rA ((aC.dB _ _ _ _).1 hok).1 with hk | hk | hk | hk | hk | hk | hk | hk | hk | hk | hk
  ·exact a9S hp hsz hv h nb st e env funcs hb h3 hn hok fN hf henv hel hk
  ·exact a9T hp hsz hv h nb st e env funcs hb h3 hn hok fN hf henv hel hk
  ·exact a9Z hp hsz hv h nb st e env funcs hb h3 hn hok fN hf henv hel hk
  ·exact a90 hp hsz hv h nb st e env funcs hb h3 hn hok fN hf henv hel hk
  ·exact a91 hp hsz hv h nb st e env funcs hb h3 hn hok fN hf henv hel hk
  ·exact a92 hp hsz hv h nb st e env funcs hb h3 hn hok fN hf henv hel hk
  ·exact a9Y hp hsz hv h nb st e env funcs hb h3 hn hok fN hf henv hel hk
  ·exact a9U hp hsz hv h nb st e env funcs hb h3 hn hok fN hf henv hel hk
  ·exact a9V hp hsz hv h nb st e env funcs hb h3 hn hok fN hf henv hel hk
  ·exact a2Z hp hsz hv h nb st e env funcs hb h3 hn hok fN hf henv hel hk
  ·exact a21 hp hsz hv h nb st e env funcs hb h3 hn hok fN hf henv hel hk
set_option maxRecDepth 100000
open Go.Proofs
set_option linter.unusedVariables false
set_option linter.unusedSimpArgs false
theorem aO5 (l : List Int) : eT ((l.map fun n => [I n]).map (List.map Cell.v)) = l.map fun n => [I n] := lZ _
theorem l7 {h h' : aB} {n sz : Nat} {x r : aD} (es : List (List aD)) (h0 : h n = none) (hl : (aR h n (.row sz (es.map (List.map .v)))).le h') (hb : fY n sz es.length x = true) (hr : x.fE n es = r) : Shift x h' r h := by
 subst hr
 refine (Shift.of (Sub.refl _) hl).trans ((Shift.fE (aG _ _ _) (by rw [List.length_map]; exact hb)).trans ?_)
 rw [lZ]
 exact cM ((aY h0).2 ((aY h0).2 (aB.le_refl h)))
theorem aH.a6Z {P : Program} {f : FuncId} {args args' : List aD} {h : aB} {K : aD → aB → Prop} {t : Tag K} {r : aD} {n sz : Nat} {es : List (List aD)} (a : fL P f args' r) (hb : fZ n sz es.length args = true) (he : lV n es args = args') (k : K r (aR h n .gone)) :
  aH P f args (aR h n (.row sz (es.map (List.map .v)))) K t := by
 refine aH.aU7 n (aG _ _ _) (by rw [List.length_map]; exact hb) ?_
 rw [aK, lZ, he]
 exact fL.call a k
theorem aCJ {h g : aB} {m b : Nat} (rows : List (List Int)) (s : List Int) (hm : h m = some (.row 1 ((s.map fun n => [I n]).map (List.map .v)))) (hb : h b = some (.row 1 ((rows.map fun s => [ints s]).map (List.map .v) ++ [[.v (.os m 1 0 s.length)]]))) (hne : ¬ b = m)
  (hg : g.le (aR (aR h m .gone) b (.row 1 (((rows ++ [s]).map fun s => [ints s]).map (List.map .v))))) : g.wk h := by
 have hat : ∀ (es : List (List Cell)) i j x, iZ es i j = some x → ∃ e ∈ es, x ∈ e := fun es i j x hx => by
  obtain ⟨e, h1, h2⟩ := kX hx
  exact ⟨e, List.mem_of_getElem? h1, List.mem_of_getElem? h2⟩
 have hw := aB.aTH hm hb hne (fun i j x hx => by
  obtain ⟨e, he, hxe⟩ := hat _ i j _ hx
  rcases List.mem_append.1 he with he | he
  ·obtain ⟨e1, h1, rfl⟩ := List.mem_map.1 he
   obtain ⟨r, _, rfl⟩ := List.mem_map.1 h1
   simp only [List.map_cons, List.map_nil, List.mem_singleton, Cell.v.injEq] at hxe
   subst hxe; rfl
  ·rw [List.mem_singleton.1 he] at hxe
   simp only [List.mem_singleton, Cell.v.injEq] at hxe
   subst hxe
   simp [fY])
 refine aB.wk.trans (aB.jN ?_) hw
 have : ((rows.map fun s => [ints s]).map (List.map Cell.v) ++ [[Cell.v (.os m 1 0 s.length)]]).map (List.map (Cell.xZ m (eT ((s.map fun n => [I n]).map (List.map Cell.v))))) = ((rows ++ [s]).map fun s => [ints s]).map (List.map .v) := by
  rw [aO5, List.map_append, List.map_append, List.map_append]
  congr 1
  ·simp only [List.map_map]
   exact List.map_congr_left fun r _ => rfl
  ·simp only [List.map_cons, List.map_nil, Cell.xZ, aD.fE, if_true, List.drop_zero]
   rw [List.take_of_length_le (by rw [List.length_map]; exact Nat.le_refl _)]
 rw [this]
 exact hg
theorem zR {h g : aB} {b : Nat} {A : List (List Cell)} {x y : aD} (hb : h b = some (.row 1 (A ++ [[.v x]]))) (s : Sub x y) (hg : g.le (aR h b (.row 1 (A ++ [[.v y]])))) : g.wk h :=
 aB.wk.trans (aB.jN hg) (aB.a8O (m := b) (fun q hq => aA _ _ _ _ hq) hb (aG _ _ _) (mW.sub (.cons s .nil) A))
@[go_sem] def aYP : List Nat := [0, 2, 3, 5, 7, 8, 9, 10]
@[go_sem] def bHF : List Nat := [6, 15, 16]
@[go_sem] def bHG : Marks := fun _ => ([], .nil, [])
theorem a22 (l : List Int) (hl : l.length ≤ 1048576) : fL Tryz.prog 65 [ints l] (c7 (l.map fun n => [n])) := by
 refine rP 20 aYP bHF bHG mix Tryz.func65 rfl (by kernel_rfl) (by simp) fun h => ?_
 simp -dsimp -implicitDefEqProofs only [go_sem, ↓reduceIte, Tryz.f65]
 refine ⟨Nat.zero_lt_one, fun _ => ?_⟩
 refine aB2 (keep := aYP) (ib := bHF) (mk := bHG) mix (by kernel_rfl) (fun x : Nat × Option Nat => [(3, jC 1 (l.take x.1).length x.2), (7, ints l), (8, I l.length), (9, I x.1)]) (fun x => cK h (.row 1 ((((l.take x.1).map fun n => [n]).map fun s => [ints s]).map (List.map .v))) x.2) (fun x => x.1 ≤ l.length ∧ fK h (l.take x.1) x.2) (fun x => l.length - x.1) (0, none) ⟨by simp [cV, bZ, jC], by simp only [aO]; exact aB.jN (aB.le_refl _), Nat.zero_le _, by simp [fK]⟩ ?_
 rintro ⟨k, o⟩ ⟨hk, hos⟩
 simp only at hk hos ⊢
 rcases Nat.lt_or_ge k l.length with hlt | hge
 ·have ea : l[k]? = some l[k] := List.getElem?_eq_getElem hlt
  have hy : l.take (k + 1) = l.take k ++ [l[k]] := List.take_succ_eq_append_getElem hlt
  have hlk : (l.take k).length = k := by rw [List.length_take]; omega
  cases o with
  |none =>
   rw [bD] at hos
   rw [hos] at hy ⊢
   simp -dsimp -implicitDefEqProofs only [go_sem, ↓reduceIte, Tryz.f65, bO, aO, hlt, ea]
   refine ⟨Nat.zero_lt_one, Nat.zero_lt_one, Nat.zero_lt_one, Nat.zero_lt_one, Nat.zero_lt_one, fun b hb => ⟨(k + 1, some b), ?_⟩⟩
   simp only [hy]
   refine ⟨⟨rfl, by rw [IntWalk.i64_in _ (by omega)]; rfl⟩, zR (A := []) (x := .sl 1 [[I l[k]]] true) (y := ints [l[k]]) (aG _ _ _) (Sub.loose _ _ _) (by rw [aK]; exact aB.le_refl _), ⟨by omega, hb⟩, by omega⟩
  |some n =>
   rw [aV] at hos
   simp -dsimp -implicitDefEqProofs only [go_sem, ↓reduceIte, Tryz.f65, aX, aJ, hlt, ea]
   refine ⟨Nat.zero_lt_one, Nat.zero_lt_one, Nat.zero_lt_one, Nat.zero_lt_one, Nat.zero_lt_one, Nat.le_refl _, by omega, by omega, fun b hb => ⟨(k + 1, some b), ?_⟩⟩
   simp only [hy, aJ, aX, aV]
   refine ⟨⟨by rw [List.length_append]; rfl, by rw [IntWalk.i64_in _ (by omega)]; rfl⟩, zR (x := .sl 1 [[I l[k]]] true) (y := ints [l[k]]) (aG _ _ _) (Sub.loose _ _ _) ?_, ⟨by omega, hb.2⟩, by omega⟩
   have hl2 : (l.take k).length = ((l.take k).map fun n => [n]).length := by rw [List.length_map]
   rw [aK, List.map_append, show ((l.take k).map fun n => [n]) ++ [l[k]].map (fun n => [n]) = ((l.take k).map fun n => [n]) ++ [[l[k]]] from rfl, ← fI ints, hl2]
   exact kU hos
 ·have hk' : k = l.length := by omega
  subst hk'
  rw [List.take_length] at hos ⊢
  cases o with
  |none =>
   rw [bD] at hos
   simp -dsimp -implicitDefEqProofs only [go_sem, ↓reduceIte, Tryz.f65, bO, aO, Nat.lt_irrefl, Int.lt_irrefl]
   subst hos
   exact Shift.of (Sub.loose _ _ _) (aB.le_refl _)
  |some n =>
   rw [aV] at hos
   simp -dsimp -implicitDefEqProofs only [go_sem, ↓reduceIte, Tryz.f65, aX, aJ, Nat.lt_irrefl, Int.lt_irrefl]
   exact l3 _ hos (aB.le_refl _) (by rw [List.length_map])
@[go_sem] def aYQ : List Nat := [0, 2, 3, 5, 7, 8, 9, 10]
@[go_sem] def bHH : List Nat := [6, 17]
@[go_sem] def bHI : Marks := fun _ => ([], .nil, [])
theorem xE (l : List (List Int)) (hl : l.length ≤ 1048576) (hne : ∀ s ∈ l, 0 < s.length) : fL Tryz.prog 43 [c7 l] (ints (l.map fun s => s.getD 0 0)) := by
 have hc : (l.map fun s => s.getD 0 0).length = l.length := List.length_map _
 refine rP 21 aYQ bHH bHI mix Tryz.func43 rfl (by kernel_rfl) (by simp) fun h => ?_
 simp -dsimp -implicitDefEqProofs only [go_sem, ↓reduceIte, Tryz.f43]
 refine ⟨Nat.zero_lt_one, fun _ => ?_⟩
 refine cS (keep := aYQ) (ib := bHH) (mk := bHI) mix (by kernel_rfl) (fun x : Nat × Option Nat => [(7, c7 l), (8, I l.length), (3, jC 1 ((l.map fun s => s.getD 0 0).take x.1).length x.2), (9, I x.1)]) (fun x => cK h (.row 1 ((((l.map fun s => s.getD 0 0).take x.1).map fun n => [I n]).map (List.map .v))) x.2) (fun x => x.1 ≤ l.length ∧ fK h ((l.map fun s => s.getD 0 0).take x.1) x.2) (fun x => l.length - x.1) (0, none) ⟨by simp [cV, bZ, jC], by simp only [aO]; exact aB.le_refl _, Nat.zero_le _, by simp [fK]⟩ ?_
 rintro ⟨k, o⟩ ⟨hk, hos⟩
 simp only at hk hos ⊢
 rcases Nat.lt_or_ge k l.length with hlt | hge
 ·have ea : l[k]? = some l[k] := List.getElem?_eq_getElem hlt
  have h0 := hne _ (List.getElem_mem hlt)
  have e0 : (l[k])[Int.toNat 0]? = some (l[k].getD 0 0) := dS h0
  have hy : (l.map fun s => s.getD 0 0).take (k + 1) = (l.map fun s => s.getD 0 0).take k ++ [(l.map fun s => s.getD 0 0)[k]'(by omega)] := List.take_succ_eq_append_getElem (by omega)
  have hlk : ((l.map fun s => s.getD 0 0).take k).length = k := by rw [List.length_take]; omega
  rw [List.getElem_map] at hy
  cases o with
  |none =>
   rw [bD] at hos
   rw [hos] at hy ⊢
   simp -dsimp -implicitDefEqProofs only [go_sem, ↓reduceIte, Tryz.f43, bO, aO, hlt, ea, e0]
   repeat' (with_reducible first | intro _ | refine And.intro ?_ ?_)
   all_goals try (first | omega | decide)
   rename_i b hb
   refine ⟨(k + 1, some b), ?_⟩
   simp only [hy]
   refine ⟨⟨rfl, ?_⟩, aB.le_refl _, ⟨by omega, hb⟩, by omega⟩
   rw [IntWalk.i64_in _ (by omega)]; rfl
  |some n =>
   rw [aV] at hos
   simp -dsimp -implicitDefEqProofs only [go_sem, ↓reduceIte, Tryz.f43, aX, aJ, hlt, ea, e0]
   repeat' (with_reducible first | intro _ | refine And.intro ?_ ?_)
   all_goals try (first | omega | decide | exact Nat.le_refl _)
   rename_i b hb
   refine ⟨(k + 1, some b), ?_⟩
   simp only [hy, aJ, aX, aV]
   refine ⟨⟨by rw [List.length_append]; rfl, ?_⟩, ?_, ⟨by omega, hb.2⟩, by omega⟩
   ·rw [IntWalk.i64_in _ (by omega)]; rfl
   ·rw [← fI]; exact kU hos
 ·have hk' : k = l.length := by omega
  subst hk'
  rw [List.take_of_length_le (by omega)] at hos ⊢
  cases o with
  |none =>
   rw [bD] at hos
   simp -dsimp -implicitDefEqProofs only [go_sem, ↓reduceIte, Tryz.f43, bO, aO, Nat.lt_irrefl, Int.lt_irrefl]
   rw [hos]
   exact Shift.of (Sub.loose _ _ _) (aB.le_refl _)
  |some n =>
   rw [aV] at hos
   simp -dsimp -implicitDefEqProofs only [go_sem, ↓reduceIte, Tryz.f43, aX, aJ, Nat.lt_irrefl, Int.lt_irrefl]
   exact fH _ hos (aB.le_refl _) hc.symm
set_option maxRecDepth 100000
open Go.Proofs
set_option linter.unusedVariables false
set_option linter.unusedSimpArgs false
def nO (X : Out (List (List Int))) : List (List Int) × Int × Int := match X with
 | .ok (vs, t) => (vs, t, 0)
 | .error c => ([], 0, c)
theorem aO6 {X : Out (List (List Int))} {l : List (List Int)} {t : Nat} {c : Int} (h : jF X l t c) : nO X = if c = 0 then (l, (t : Int), 0) else ([], 0, c) := by
 cases X with
 |ok p =>
  obtain ⟨w, u⟩ := p
  obtain ⟨rfl, rfl, rfl⟩ := h
  rfl
 |error d =>
  obtain ⟨rfl, h⟩ := h
  rw [if_neg h]; rfl
theorem zA (l : List Int) (hl : l.length ≤ 1048576) : fL Tryz.prog 67 [ints l] (ints l) := aAN (aXV l hl)
@[go_sem] def aYR : List Nat := [0, 1, 2, 3, 4, 8, 9, 10, 11, 12, 13, 15, 33, 39, 40, 41, 42]
@[go_sem] def bHJ : List Nat := [4, 38, 48]
@[go_sem] def bHK : Marks := fun id => match id with | 4 => ([3], (.op 0 (.op 1 (.op 2 (.op 3 (.op 4 (.op 5 (.op 6 .nil))))))), []) | 11 => ([4], (.op 0 (.op 1 (.op 2 (.op 3 (.op 4 (.op 5 (.op 6 (.op 7 .nil)))))))), []) | _ => ([], .nil, [])
theorem aJO {p : aE} (hp : p.ok) {sz : Nat} (hsz : 1 ≤ sz ∧ sz ≤ 1048576) (f : Int) (hf : 0 ≤ f ∧ f < p.aI.length) (args : List (List Int)) (ha : ∀ s ∈ args, bN sz s) (hl : ∀ F, p.aI[f.toNat]? = some F → (args.length : Int) = F.aW) :
  fL Tryz.prog 64 [.agg p.c, I f, c7 args, I ((sz : Int) - 1)] (.iI [c7 (nO (vC p sz f args)).1, I (nO (vC p sz f args)).2.1, I (nO (vC p sz f args)).2.2]) := by
 obtain ⟨F, ef, hF1, hF2, hF3, hF4⟩ := kR hp hf
 have hlF := hl F ef
 rw [aE.aU]
 refine rP 56 aYR bHJ bHK mix Tryz.func64 rfl (by kernel_rfl) (by simp) fun h => ?_
 simp -dsimp -implicitDefEqProofs only [go_sem, ↓reduceIte, Tryz.f64, ef, aT.aU]
 intro nb zb
 refine ⟨hf.1, by omega, ?_⟩
 refine aH.fG (xC (value hp hsz 3001) (aR h nb (dG p sz 0 0)) nb 0 0 F.aQ args f (aG _ _ _) (by omega) (by omega) (by omega) (by rw [hlF]; exact hF4) hf.1 (by omega) ha (by omega)) ?_
 rintro r h' ⟨vs, t, c, rfl, rfl, hvl, hvs, a1, a2, a3⟩
 rw [cU, ← hF3] at a3
 rw [aO6 (show jF (vC p sz f args) vs t c from a3)]
 rw [aK]
 have hBn : (aR h nb (dG p sz t c)) nb = some (.row 4 [[.v (eZ 3 aT.c p.aI), .v (I ((sz : Int) - 1)), .v (I t), .v (I c)]]) := aG _ _ _
 have hBl : h.le (aR h nb (dG p sz t c)) := aB.aY zb (aB.le_refl _)
 generalize aR h nb (dG p sz t c) = hB at hBn hBl ⊢
 simp -dsimp -implicitDefEqProofs only [go_sem, ↓reduceIte, Tryz.f64, hBn]
 refine ⟨fun hc => ?_, fun hc => ?_⟩
 ·have hc' : ¬ c = 0 := by simpa using hc
  rw [if_neg hc']
  exact Shift.of (Sub.iI (.cons (Sub.nil 1 false) (.cons (.refl _) (.cons (.refl _) .nil)))) hBl
 ·have hc' : c = 0 := by simpa using hc
  subst hc'
  rw [if_pos rfl]
  refine ⟨Nat.zero_lt_one, fun _ => ?_⟩
  refine cS (keep := aYR) (ib := bHJ) (mk := bHK) mix (by kernel_rfl) (fun x : Nat × Option Nat => [(11, .op nb 4 0 0), (13, jC 1 (vs.take x.1).length x.2), (39, c7 vs), (40, I vs.length), (41, I x.1)]) (fun x => cK hB (.row 1 (((vs.take x.1).map fun s => [ints s]).map (List.map .v))) x.2) (fun x => x.1 ≤ vs.length ∧ fK hB (vs.take x.1) x.2) (fun x => vs.length - x.1) (0, none) ⟨by simp [cV, bZ, jC], by simp only [aO]; exact aB.le_refl _, Nat.zero_le _, by simp [fK]⟩ ?_
  rintro ⟨k, o⟩ ⟨hk, hos⟩
  simp only at hk hos ⊢
  rcases Nat.lt_or_ge k vs.length with hlt | hge
  ·have ea : vs[k]? = some vs[k] := List.getElem?_eq_getElem hlt
   have hy : vs.take (k + 1) = vs.take k ++ [vs[k]] := List.take_succ_eq_append_getElem hlt
   have hlk : (vs.take k).length = k := by rw [List.length_take]; omega
   have hsk := hvs _ (List.getElem_mem hlt)
   cases o with
   |none =>
    rw [bD] at hos
    rw [hos] at hy ⊢
    simp -dsimp -implicitDefEqProofs only [go_sem, ↓reduceIte, Tryz.f64, bO, aO, hlt, ea]
    first | refine aH.mk (zA vs[k] (by rw [hsk.1]; omega)) ?_ | refine aF.mk (zA vs[k] (by rw [hsk.1]; omega)) ?_ | refine aH.bS (zA vs[k] (by rw [hsk.1]; omega)) ?_ | refine aF.mk (bM.eQ (zA vs[k] (by rw [hsk.1]; omega))) ?_
    simp -dsimp -implicitDefEqProofs only [go_sem, ↓reduceIte, Tryz.f64]
    repeat' (with_reducible first | intro _ | refine And.intro ?_ ?_)
    all_goals try (first | omega | decide)
    rename_i b hb
    refine ⟨(k + 1, some b), ?_⟩
    simp only [hy]
    refine ⟨⟨rfl, ?_⟩, aB.le_refl _, ⟨by omega, hb⟩, by omega⟩
    rw [IntWalk.i64_in _ (by omega)]; rfl
   |some n =>
    rw [aV] at hos
    simp -dsimp -implicitDefEqProofs only [go_sem, ↓reduceIte, Tryz.f64, aX, aJ, hlt, ea]
    first | refine aH.mk (zA vs[k] (by rw [hsk.1]; omega)) ?_ | refine aF.mk (zA vs[k] (by rw [hsk.1]; omega)) ?_ | refine aH.bS (zA vs[k] (by rw [hsk.1]; omega)) ?_ | refine aF.mk (bM.eQ (zA vs[k] (by rw [hsk.1]; omega))) ?_
    simp -dsimp -implicitDefEqProofs only [go_sem, ↓reduceIte, Tryz.f64]
    repeat' (with_reducible first | intro _ | refine And.intro ?_ ?_)
    all_goals try (first | omega | decide | exact Nat.le_refl _)
    rename_i b hb
    refine ⟨(k + 1, some b), ?_⟩
    simp only [hy, aJ, aX, aV]
    refine ⟨⟨by rw [List.length_append]; rfl, ?_⟩, ?_, ⟨by omega, hb.2⟩, by omega⟩
    ·rw [IntWalk.i64_in _ (by omega)]; rfl
    ·rw [← fI]; exact kU hos
  ·have hk' : k = vs.length := by omega
   subst hk'
   rw [List.take_length] at hos ⊢
   cases o with
   |none =>
    rw [bD] at hos
    subst hos
    simp -dsimp -implicitDefEqProofs only [go_sem, ↓reduceIte, Tryz.f64, bO, aO, Nat.lt_irrefl, hBn]
    exact Shift.of (Sub.iI (.cons (Sub.loose _ _ _) (.cons (.refl _) (.cons (.refl _) .nil)))) hBl
   |some n =>
    rw [aV] at hos
    have jP : ¬ n = nb := fun e => by rw [e, hBn] at hos; cases hos
    have kN : ¬ nb = n := Ne.symm jP
    have gU : (n = nb) = False := eq_false jP
    have gV : (nb = n) = False := eq_false kN
    simp -dsimp -implicitDefEqProofs only [go_sem, ↓reduceIte, Tryz.f64, aX, aJ, Nat.lt_irrefl, aA, gU, gV, hBn]
    refine Shift.trans (l7 (vs.map fun s => [ints s]) hos (aB.le_refl _) (by simp [fY, fZ]) ?_) (cM hBl)
    simp [aD.fE, lV, List.take_of_length_le]
@[go_sem] def aLQ : List Nat := [0, 1, 4, 5, 7, 10, 11, 12, 13]
@[go_sem] def a23 : List Nat := []
@[go_sem] def a24 : Marks := fun _ => ([], .nil, [])
theorem aTJ (n : Nat) (hn : n ≤ 1048576) : fL Tryz.prog 94 [I n, .bH] (ints (List.replicate n 0)) := by
 refine rP 27 aLQ a23 a24 mix Tryz.func94 rfl (by kernel_rfl) (by simp) fun h => ?_
 simp -dsimp -implicitDefEqProofs only [go_sem, ↓reduceIte, Tryz.f94]
 refine ⟨Nat.zero_lt_one, by omega, by omega, by omega, fun m hm => ?_⟩
 rw [rL]
 refine oY (keep := aLQ) (ib := a23) (mk := a24) mix (by kernel_rfl) (fun _ : Unit => [(5, .os m 1 0 n), (10, .bH), (11, I 0), (12, I 0)]) (fun _ => True) (fun _ => 0) () ⟨by simp [cV, bZ], trivial⟩ ?_
 intro _ _
 simp -dsimp -implicitDefEqProofs only [go_sem, ↓reduceIte, Tryz.f94, Int.lt_irrefl]
 exact fH _ hm (aB.le_refl _) (by rw [List.length_replicate])
theorem aTK (n i : Nat) (hn : n ≤ 1048576) (hi : i < n) : fL Tryz.prog 94 [I n, .sl 1 [[I i]] true] (ints ((List.replicate n 0).set i 1)) := by
 refine rP 27 aLQ a23 a24 mix Tryz.func94 rfl (by kernel_rfl) (by simp) fun h => ?_
 simp -dsimp -implicitDefEqProofs only [go_sem, ↓reduceIte, Tryz.f94]
 refine ⟨Nat.zero_lt_one, by omega, by omega, by omega, fun m hm => ?_⟩
 rw [rL]
 refine tX (keep := aLQ) (ib := a23) (mk := a24) mix (by kernel_rfl) (fun k : Nat => [(5, .os m 1 0 n), (10, .sl 1 [[I i]] true), (11, I 1), (12, I k)]) m (fun k => .row 1 (((if k = 0 then List.replicate n (0 : Int) else (List.replicate n 0).set i 1).map fun n => [I n]).map (List.map .v))) (fun k => k ≤ 1) (fun k => 1 - k) 0 ⟨by simp [cV, bZ], by rw [aG, if_pos rfl], Nat.zero_le _⟩ ?_
 intro k hk
 rcases Nat.lt_or_ge k 1 with hlt | hge
 ·have : k = 0 := by omega
  subst this
  have e1 : (List.replicate n (0 : Int))[i]? = some 0 := by rw [List.getElem?_replicate, if_pos hi]
  rw [if_pos rfl]
  simp -dsimp -implicitDefEqProofs only [go_sem, ↓reduceIte, Tryz.f94, aK, e1, List.length_replicate, Int.toNat_natCast]
  refine ⟨fun _ => ⟨Nat.zero_lt_one, hi, hi, 1, by decide, ?_, by omega, by omega⟩, fun q => absurd (by decide) q⟩
  rw [if_neg (by decide), show (IntKind.i64.wrap (0 + 1)).tmod 1000003 = 1 by decide, ← vB I]
  exact aB.le_refl _
 ·have : k = 1 := by omega
  subst this
  rw [if_neg (by decide)]
  simp -dsimp -implicitDefEqProofs only [go_sem, ↓reduceIte, Tryz.f94, Int.lt_irrefl]
  refine ⟨fun q => absurd q (by decide), fun _ => ?_⟩
  rw [aK]
  exact fH ((List.replicate n 0).set i 1) hm (aB.le_refl _) (by rw [List.length_set, List.length_replicate])
def cY (args dir : List Int) : List (List Int) := List.zipWith (fun a d => [a, d]) args dir
theorem w2 : IntKind.i64.wrap (1 + 1) = 2 := by decide
theorem n0 : Int.toNat 0 = 0 := rfl
theorem n1 : Int.toNat 1 = 1 := rfl
theorem n2 : Int.toNat 2 = 2 := rfl
theorem a93 (x : List aD) : List.replicate 2 x = [x, x] := rfl
@[go_sem] def aTL : List Nat := [0, 1, 2, 3, 4, 5, 10, 11, 12, 13, 14, 15, 16, 18, 20, 21, 22, 23, 34]
@[go_sem] def a60 : List Nat := [5, 19, 43]
@[go_sem] def a61 : Marks := fun _ => ([], .nil, [])
theorem a94 {p : aE} (hp : p.ok) (f : Int) (hf : 0 ≤ f ∧ f < p.aI.length) (args dir : List Int) (hd : dir.length = args.length) (hal : args.length ≤ 1048576) (na : eD args) (nd : eD dir) (hl : ∀ F, p.aI[f.toNat]? = some F → (args.length : Int) = F.aW) :
  fL Tryz.prog 119 [.agg p.c, I f, ints args, ints dir, I 1] (.iI [c7 (nO (vC p 2 f (cY args dir))).1, I (nO (vC p 2 f (cY args dir))).2.2]) := by
 rw [aE.aU]
 refine rP 57 aTL a60 a61 mix Tryz.func119 rfl (by kernel_rfl) (by simp) fun h => ?_
 simp -dsimp -implicitDefEqProofs only [go_sem, ↓reduceIte, Tryz.f119]
 refine ⟨Nat.zero_lt_one, fun _ => ?_⟩
 have hc : (cY args dir).length = args.length := by simp [cY, hd]
 refine aB2 (keep := aTL) (ib := a60) (mk := a61) mix (by kernel_rfl) (fun x : Nat × Option Nat => [(1, I f), (3, ints dir), (4, I 1), (5, .ip 1 [[eZ 3 aT.c p.aI]] 0 0), (12, jC 1 ((cY args dir).take x.1).length x.2), (20, ints args), (21, I args.length), (22, I x.1)]) (fun x => cK h (.row 1 ((((cY args dir).take x.1).map fun s => [ints s]).map (List.map .v))) x.2) (fun x => x.1 ≤ args.length ∧ fK h ((cY args dir).take x.1) x.2) (fun x => args.length - x.1) (0, none) ⟨by simp [cV, bZ, jC], by simp only [aO]; exact aB.jN (aB.le_refl _), Nat.zero_le _, by simp [fK]⟩ ?_
 rintro ⟨k, o⟩ ⟨hk, hos⟩
 simp only at hk hos ⊢
 rcases Nat.lt_or_ge k args.length with hlt | hge
 ·have ea : args[k]? = some args[k] := List.getElem?_eq_getElem hlt
  have ed : dir[k]? = some (dir[k]'(by omega)) := List.getElem?_eq_getElem (by omega)
  have hy : (cY args dir).take (k + 1) = (cY args dir).take k ++ [(cY args dir)[k]'(by omega)] := List.take_succ_eq_append_getElem (by omega)
  have hv : (cY args dir)[k]'(by omega) = [args[k], dir[k]'(by omega)] := by simp [cY]
  have hlk : ((cY args dir).take k).length = k := by rw [List.length_take]; omega
  rw [hv] at hy
  cases o with
  |none =>
   rw [bD] at hos
   rw [hos] at hy ⊢
   simp -dsimp -implicitDefEqProofs only [go_sem, ↓reduceIte, Tryz.f119, bO, aO, hlt, ea, ed, w2, n0, n1, n2, a93, aK]
   refine ⟨Nat.zero_lt_one, by decide, fun m z_m => ⟨by decide, fun _ => ⟨by omega, by decide, Nat.zero_lt_one, Nat.zero_lt_one, Nat.zero_lt_one, ?_⟩, fun q => absurd (by decide) q⟩⟩
   intro b aL
   have fJ : ¬ b = m := by first | exact aL.1 | exact aL | exact aL.2.1 | exact aL.2 | exact aL.2.2.1 | exact aL.2.2 | exact aL.2.2.2.1 | exact aL.2.2.2 | exact aL.2.2.2.2.1 | exact aL.2.2.2.2 | exact aL.2.2.2.2.2.1 | exact aL.2.2.2.2.2 | exact aL.2.2.2.2.2.2.1 | exact aL.2.2.2.2.2.2 | exact aL.2.2.2.2.2.2.2.1 | exact aL.2.2.2.2.2.2.2 | exact aL.2.2.2.2.2.2.2.2.1 | exact aL.2.2.2.2.2.2.2.2 | exact aL.2.2.2.2.2.2.2.2.2.1 | exact aL.2.2.2.2.2.2.2.2.2 | exact aL.2.2.2.2.2.2.2.2.2.2.1 | exact aL.2.2.2.2.2.2.2.2.2.2 | exact aL.2.2.2.2.2.2.2.2.2.2.2.1 | exact aL.2.2.2.2.2.2.2.2.2.2.2 | exact aL.2.2.2.2.2.2.2.2.2.2.2.2.1 | exact aL.2.2.2.2.2.2.2.2.2.2.2.2 | exact aL.2.2.2.2.2.2.2.2.2.2.2.2.2.1 | exact aL.2.2.2.2.2.2.2.2.2.2.2.2.2
   have kF : (b = m) = False := eq_false fJ
   have kG : (m = b) = False := eq_false (Ne.symm fJ)
   have lC : ¬ m = b := Ne.symm fJ
   have z_b : h b = none := by first | exact aL.1 | exact aL | exact aL.2.1 | exact aL.2 | exact aL.2.2.1 | exact aL.2.2 | exact aL.2.2.2.1 | exact aL.2.2.2 | exact aL.2.2.2.2.1 | exact aL.2.2.2.2 | exact aL.2.2.2.2.2.1 | exact aL.2.2.2.2.2 | exact aL.2.2.2.2.2.2.1 | exact aL.2.2.2.2.2.2 | exact aL.2.2.2.2.2.2.2.1 | exact aL.2.2.2.2.2.2.2 | exact aL.2.2.2.2.2.2.2.2.1 | exact aL.2.2.2.2.2.2.2.2 | exact aL.2.2.2.2.2.2.2.2.2.1 | exact aL.2.2.2.2.2.2.2.2.2 | exact aL.2.2.2.2.2.2.2.2.2.2.1 | exact aL.2.2.2.2.2.2.2.2.2.2 | exact aL.2.2.2.2.2.2.2.2.2.2.2.1 | exact aL.2.2.2.2.2.2.2.2.2.2.2 | exact aL.2.2.2.2.2.2.2.2.2.2.2.2.1 | exact aL.2.2.2.2.2.2.2.2.2.2.2.2 | exact aL.2.2.2.2.2.2.2.2.2.2.2.2.2.1 | exact aL.2.2.2.2.2.2.2.2.2.2.2.2.2
   refine ⟨(k + 1, some b), ?_⟩
   simp only [hy]
   refine ⟨⟨rfl, by rw [IntWalk.i64_in _ (by omega)]; rfl⟩, aCJ (m := m) (b := b) [] [args[k], dir[k]'(by omega)] (by rw [aA _ _ _ _ lC, aG]; rfl) (by rw [aG]; rfl) fJ (by simp only [aJ]; exact (j7 (by repeat' (first | exact iM _ _ | refine j8 (by simp only [c6, ↓reduceIte, eq_self, if_true, kF, kG]) ?_ | refine gB (by first | exact .inr (by assumption) | exact .inl (by simp)) ?_)))), ⟨by omega, z_b⟩, by omega⟩
  |some n =>
   rw [aV] at hos
   simp -dsimp -implicitDefEqProofs only [go_sem, ↓reduceIte, Tryz.f119, aX, aJ, hlt, ea, ed, w2, n0, n1, n2, a93, aK]
   refine ⟨Nat.zero_lt_one, by decide, ?_⟩
   intro m jE
   have uD : ¬ m = n := by first | exact jE.1 | exact jE | exact jE.2.1 | exact jE.2 | exact jE.2.2.1 | exact jE.2.2 | exact jE.2.2.2.1 | exact jE.2.2.2 | exact jE.2.2.2.2.1 | exact jE.2.2.2.2 | exact jE.2.2.2.2.2.1 | exact jE.2.2.2.2.2 | exact jE.2.2.2.2.2.2.1 | exact jE.2.2.2.2.2.2 | exact jE.2.2.2.2.2.2.2.1 | exact jE.2.2.2.2.2.2.2 | exact jE.2.2.2.2.2.2.2.2.1 | exact jE.2.2.2.2.2.2.2.2 | exact jE.2.2.2.2.2.2.2.2.2.1 | exact jE.2.2.2.2.2.2.2.2.2 | exact jE.2.2.2.2.2.2.2.2.2.2.1 | exact jE.2.2.2.2.2.2.2.2.2.2 | exact jE.2.2.2.2.2.2.2.2.2.2.2.1 | exact jE.2.2.2.2.2.2.2.2.2.2.2 | exact jE.2.2.2.2.2.2.2.2.2.2.2.2.1 | exact jE.2.2.2.2.2.2.2.2.2.2.2.2 | exact jE.2.2.2.2.2.2.2.2.2.2.2.2.2.1 | exact jE.2.2.2.2.2.2.2.2.2.2.2.2.2
   have m7 : (m = n) = False := eq_false uD
   have m8 : (n = m) = False := eq_false (Ne.symm uD)
   have aCK : ¬ n = m := Ne.symm uD
   have z_m : h m = none := by first | exact jE.1 | exact jE | exact jE.2.1 | exact jE.2 | exact jE.2.2.1 | exact jE.2.2 | exact jE.2.2.2.1 | exact jE.2.2.2 | exact jE.2.2.2.2.1 | exact jE.2.2.2.2 | exact jE.2.2.2.2.2.1 | exact jE.2.2.2.2.2 | exact jE.2.2.2.2.2.2.1 | exact jE.2.2.2.2.2.2 | exact jE.2.2.2.2.2.2.2.1 | exact jE.2.2.2.2.2.2.2 | exact jE.2.2.2.2.2.2.2.2.1 | exact jE.2.2.2.2.2.2.2.2 | exact jE.2.2.2.2.2.2.2.2.2.1 | exact jE.2.2.2.2.2.2.2.2.2 | exact jE.2.2.2.2.2.2.2.2.2.2.1 | exact jE.2.2.2.2.2.2.2.2.2.2 | exact jE.2.2.2.2.2.2.2.2.2.2.2.1 | exact jE.2.2.2.2.2.2.2.2.2.2.2 | exact jE.2.2.2.2.2.2.2.2.2.2.2.2.1 | exact jE.2.2.2.2.2.2.2.2.2.2.2.2 | exact jE.2.2.2.2.2.2.2.2.2.2.2.2.2.1 | exact jE.2.2.2.2.2.2.2.2.2.2.2.2.2
   refine ⟨by decide, fun _ => ⟨by omega, by decide, Nat.zero_lt_one, Nat.zero_lt_one, Nat.zero_lt_one, ?_⟩, fun q => absurd (by decide) q⟩
   simp -dsimp -implicitDefEqProofs only [go_sem, ↓reduceIte, Tryz.f119, aA, m8, m7]
   refine ⟨Nat.le_refl _, by omega, by omega, ?_⟩
   intro b aL
   have nA : ¬ b = n := by first | exact aL.1 | exact aL | exact aL.2.1 | exact aL.2 | exact aL.2.2.1 | exact aL.2.2 | exact aL.2.2.2.1 | exact aL.2.2.2 | exact aL.2.2.2.2.1 | exact aL.2.2.2.2 | exact aL.2.2.2.2.2.1 | exact aL.2.2.2.2.2 | exact aL.2.2.2.2.2.2.1 | exact aL.2.2.2.2.2.2 | exact aL.2.2.2.2.2.2.2.1 | exact aL.2.2.2.2.2.2.2 | exact aL.2.2.2.2.2.2.2.2.1 | exact aL.2.2.2.2.2.2.2.2 | exact aL.2.2.2.2.2.2.2.2.2.1 | exact aL.2.2.2.2.2.2.2.2.2 | exact aL.2.2.2.2.2.2.2.2.2.2.1 | exact aL.2.2.2.2.2.2.2.2.2.2 | exact aL.2.2.2.2.2.2.2.2.2.2.2.1 | exact aL.2.2.2.2.2.2.2.2.2.2.2 | exact aL.2.2.2.2.2.2.2.2.2.2.2.2.1 | exact aL.2.2.2.2.2.2.2.2.2.2.2.2 | exact aL.2.2.2.2.2.2.2.2.2.2.2.2.2.1 | exact aL.2.2.2.2.2.2.2.2.2.2.2.2.2
   have kH : (b = n) = False := eq_false nA
   have kI : (n = b) = False := eq_false (Ne.symm nA)
   have nP : ¬ n = b := Ne.symm nA
   have fJ : ¬ b = m := by first | exact aL.1 | exact aL | exact aL.2.1 | exact aL.2 | exact aL.2.2.1 | exact aL.2.2 | exact aL.2.2.2.1 | exact aL.2.2.2 | exact aL.2.2.2.2.1 | exact aL.2.2.2.2 | exact aL.2.2.2.2.2.1 | exact aL.2.2.2.2.2 | exact aL.2.2.2.2.2.2.1 | exact aL.2.2.2.2.2.2 | exact aL.2.2.2.2.2.2.2.1 | exact aL.2.2.2.2.2.2.2 | exact aL.2.2.2.2.2.2.2.2.1 | exact aL.2.2.2.2.2.2.2.2 | exact aL.2.2.2.2.2.2.2.2.2.1 | exact aL.2.2.2.2.2.2.2.2.2 | exact aL.2.2.2.2.2.2.2.2.2.2.1 | exact aL.2.2.2.2.2.2.2.2.2.2 | exact aL.2.2.2.2.2.2.2.2.2.2.2.1 | exact aL.2.2.2.2.2.2.2.2.2.2.2 | exact aL.2.2.2.2.2.2.2.2.2.2.2.2.1 | exact aL.2.2.2.2.2.2.2.2.2.2.2.2 | exact aL.2.2.2.2.2.2.2.2.2.2.2.2.2.1 | exact aL.2.2.2.2.2.2.2.2.2.2.2.2.2
   have kF : (b = m) = False := eq_false fJ
   have kG : (m = b) = False := eq_false (Ne.symm fJ)
   have lC : ¬ m = b := Ne.symm fJ
   have z_b : h b = none := by first | exact aL.1 | exact aL | exact aL.2.1 | exact aL.2 | exact aL.2.2.1 | exact aL.2.2 | exact aL.2.2.2.1 | exact aL.2.2.2 | exact aL.2.2.2.2.1 | exact aL.2.2.2.2 | exact aL.2.2.2.2.2.1 | exact aL.2.2.2.2.2 | exact aL.2.2.2.2.2.2.1 | exact aL.2.2.2.2.2.2 | exact aL.2.2.2.2.2.2.2.1 | exact aL.2.2.2.2.2.2.2 | exact aL.2.2.2.2.2.2.2.2.1 | exact aL.2.2.2.2.2.2.2.2 | exact aL.2.2.2.2.2.2.2.2.2.1 | exact aL.2.2.2.2.2.2.2.2.2 | exact aL.2.2.2.2.2.2.2.2.2.2.1 | exact aL.2.2.2.2.2.2.2.2.2.2 | exact aL.2.2.2.2.2.2.2.2.2.2.2.1 | exact aL.2.2.2.2.2.2.2.2.2.2.2 | exact aL.2.2.2.2.2.2.2.2.2.2.2.2.1 | exact aL.2.2.2.2.2.2.2.2.2.2.2.2 | exact aL.2.2.2.2.2.2.2.2.2.2.2.2.2.1 | exact aL.2.2.2.2.2.2.2.2.2.2.2.2.2
   refine ⟨(k + 1, some b), ?_⟩
   simp only [hy, aJ, aX, aV]
   refine ⟨⟨by rw [List.length_append]; rfl, by rw [IntWalk.i64_in _ (by omega)]; rfl⟩, aCJ (m := m) (b := b) ((cY args dir).take k) [args[k], dir[k]'(by omega)] (by simp only [c6, kF, kH, kG, m7, kI, m8, ↓reduceIte]; rfl) ?_ fJ (j7 (by repeat' (first | exact iM _ _ | refine j8 (by simp only [c6, ↓reduceIte, eq_self, if_true, kF, kH, kG, m7, kI, m8]) ?_ | refine gB (by first | exact .inr (by assumption) | exact .inl (by simp)) ?_))), ⟨by omega, z_b⟩, by omega⟩
   rw [aG, List.take_of_length_le (by simp)]
   rfl
 ·have hk' : k = args.length := by omega
  subst hk'
  rw [List.take_of_length_le (by omega)] at hos ⊢
  have qT := aJO hp (sz := 2) (by decide) f hf (cY args dir) (fun s hs => by
   obtain ⟨i, hi, rfl⟩ := List.mem_iff_getElem.1 hs
   simp only [cY, List.getElem_zipWith]
   refine ⟨rfl, fun x hx => ?_⟩
   simp only [List.mem_cons, List.not_mem_nil, or_false] at hx
   rcases hx with rfl | rfl
   ·exact na _ (List.getElem_mem _)
   ·exact nd _ (List.getElem_mem _)) (fun F hF => by rw [hc]; exact hl F hF)
  rw [show (((2 : Nat) : Int) - 1) = 1 from rfl, aE.aU] at qT
  cases o with
  |none =>
   rw [bD] at hos
   simp -dsimp -implicitDefEqProofs only [go_sem, ↓reduceIte, Tryz.f119, bO, aO, Nat.lt_irrefl, Int.lt_irrefl]
   refine aH.mk (fL.sub (.cons (.refl _) (.cons (.refl _) (.cons ?_ (.cons (.refl _) .nil)))) qT) ?_
   ·rw [hos]; exact Sub.loose _ _ _
   simp -dsimp -implicitDefEqProofs only [go_sem, ↓reduceIte, Tryz.f119]
   exact bI _ _
  |some n =>
   rw [aV] at hos
   simp -dsimp -implicitDefEqProofs only [go_sem, ↓reduceIte, Tryz.f119, aX, aJ, Nat.lt_irrefl, Int.lt_irrefl]
   refine aH.a6Z (es := (cY args dir).map fun s => [ints s]) qT (by simp [fZ, fY]) ?_ ?_
   ·simp [lV, aD.fE, List.take_of_length_le]
   simp -dsimp -implicitDefEqProofs only [go_sem, ↓reduceIte, Tryz.f119]
   exact cM (aB.aY hos (aB.le_refl _))
theorem zS {args dir : List Int} (hd : dir.length = args.length) : (cY args dir).length = args.length := by simp [cY, hd]
theorem pS {args dir : List Int} (na : eD args) (nd : eD dir) : ∀ s ∈ cY args dir, bN 2 s := fun s hs => by
 obtain ⟨i, hi, rfl⟩ := List.mem_iff_getElem.1 hs
 simp only [cY, List.getElem_zipWith]
 refine ⟨rfl, fun x hx => ?_⟩
 simp only [List.mem_cons, List.not_mem_nil, or_false] at hx
 rcases hx with rfl | rfl
 ·exact na _ (List.getElem_mem _)
 ·exact nd _ (List.getElem_mem _)
theorem aVF {X : Out (List (List Int))} {sz n : Nat} (h : okP (fun l => aVB sz n l) X) : (∀ s ∈ (nO X).1, bN sz s) ∧ (nO X).1.length ≤ n := by
 cases X with
 |ok p =>
  obtain ⟨v, t⟩ := p
  have := h v t rfl
  exact ⟨this.2, Nat.le_of_eq this.1⟩
 |error c => exact ⟨(fun s hs => by cases hs), Nat.zero_le _⟩
theorem aO7 {p : aE} (hp : p.ok) (f : Int) (hf : 0 ≤ f ∧ f < p.aI.length) (args dir : List Int) (hd : dir.length = args.length) (na : eD args) (nd : eD dir) (hl : ∀ F, p.aI[f.toNat]? = some F → (args.length : Int) = F.aW) :
  (∀ s ∈ (nO (vC p 2 f (cY args dir))).1, bN 2 s) ∧ (nO (vC p 2 f (cY args dir))).1.length ≤ 1048576 := by
 have h := aVF (aCF hp (sz := 2) (by omega) f hf (cY args dir) (pS na nd) (fun F hF => by rw [zS hd]; exact hl F hF))
 obtain ⟨F, ef, hF1, hF2, hF3, hF4⟩ := kR hp hf
 refine ⟨h.1, ?_⟩
 have := h.2
 rw [hF3] at this
 omega
def vE (X : List (List Int) × Int × Int) : List Int × List Int × Int := if X.2.2 = 0 then (X.1.map (·.getD 0 0), X.1.map (·.getD 1 0), 0) else ([], [], X.2.2)
@[go_sem] def aYS : List Nat := [0, 1, 2, 3, 4, 8, 9, 10, 11, 12, 13, 15, 25, 28, 29, 30, 31]
@[go_sem] def bHL : List Nat := [4, 27, 38]
@[go_sem] def bHM : Marks := fun _ => ([], .nil, [])
theorem aEZ {p : aE} (hp : p.ok) (f : Int) (hf : 0 ≤ f ∧ f < p.aI.length) (args dir : List Int) (hd : dir.length = args.length) (hal : args.length ≤ 1048576) (na : eD args) (nd : eD dir) (hl : ∀ F, p.aI[f.toNat]? = some F → (args.length : Int) = F.aW) :
  fL Tryz.prog 93 [.agg p.c, I f, ints args, ints dir] (.iI [ints (vE (nO (vC p 2 f (cY args dir)))).1, ints (vE (nO (vC p 2 f (cY args dir)))).2.1, I (vE (nO (vC p 2 f (cY args dir)))).2.2]) := by
 have a95 := a94 hp f hf args dir hd hal na nd hl
 obtain ⟨hser, hlen⟩ := aO7 hp f hf args dir hd na nd hl
 generalize nO (vC p 2 f (cY args dir)) = X at *
 obtain ⟨vs, st, c⟩ := X
 simp only at a95 hser hlen ⊢
 rw [aE.aU] at a95 ⊢
 refine rP 44 aYS bHL bHM mix Tryz.func93 rfl (by kernel_rfl) (by simp) fun h => ?_
 simp -dsimp -implicitDefEqProofs only [go_sem, ↓reduceIte, Tryz.f93]
 refine aH.mk a95 ?_
 simp -dsimp -implicitDefEqProofs only [go_sem, ↓reduceIte, Tryz.f93]
 refine ⟨fun hc => ?_, fun hc => ?_⟩
 ·have hc' : ¬ c = 0 := by simpa using hc
  rw [vE, if_neg hc']
  try simp -dsimp -implicitDefEqProofs only [go_sem, ↓reduceIte, Tryz.f93]
  exact Shift.of (Sub.iI (.cons (Sub.nil 1 false) (.cons (Sub.nil 1 false) (.cons (.refl _) .nil)))) (aB.le_refl _)
 have hc' : c = 0 := by simpa using hc
 subst hc'
 rw [vE, if_pos rfl]
 try simp -dsimp -implicitDefEqProofs only [go_sem, ↓reduceIte, Tryz.f93]
 refine ⟨Nat.zero_lt_one, fun _ => ?_⟩
 have hcl : (vs.map fun s => s.getD 1 0).length = vs.length := List.length_map _
 refine cS (keep := aYS) (ib := bHL) (mk := bHM) mix (by kernel_rfl) (fun x : Nat × Option Nat => [(11, c7 vs), (28, c7 vs), (29, I vs.length), (13, jC 1 ((vs.map fun s => s.getD 1 0).take x.1).length x.2), (30, I x.1)]) (fun x => cK h (.row 1 ((((vs.map fun s => s.getD 1 0).take x.1).map fun n => [I n]).map (List.map .v))) x.2) (fun x => x.1 ≤ vs.length ∧ fK h ((vs.map fun s => s.getD 1 0).take x.1) x.2) (fun x => vs.length - x.1) (0, none) ⟨by simp [cV, bZ, jC], by simp only [aO]; exact aB.le_refl _, Nat.zero_le _, by simp [fK]⟩ ?_
 rintro ⟨k, o⟩ ⟨hk, hos⟩
 simp only at hk hos ⊢
 rcases Nat.lt_or_ge k vs.length with hlt | hge
 ·have ea : vs[k]? = some vs[k] := List.getElem?_eq_getElem hlt
  have h0 := hser _ (List.getElem_mem hlt)
  have e0 : (vs[k])[Int.toNat 1]? = some (vs[k].getD 1 0) := dS (by rw [h0.1]; omega)
  have h0l := h0.1
  have hy : (vs.map fun s => s.getD 1 0).take (k + 1) = (vs.map fun s => s.getD 1 0).take k ++ [(vs.map fun s => s.getD 1 0)[k]'(by omega)] := List.take_succ_eq_append_getElem (by omega)
  have hlk : ((vs.map fun s => s.getD 1 0).take k).length = k := by rw [List.length_take]; omega
  rw [List.getElem_map] at hy
  cases o with
  |none =>
   rw [bD] at hos
   rw [hos] at hy ⊢
   simp -dsimp -implicitDefEqProofs only [go_sem, ↓reduceIte, Tryz.f93, bO, aO, hlt, ea, e0]
   repeat' (with_reducible first | intro _ | refine And.intro ?_ ?_)
   all_goals try (first | omega | decide)
   rename_i b hb
   refine ⟨(k + 1, some b), ?_⟩
   simp only [hy]
   refine ⟨⟨rfl, ?_⟩, aB.le_refl _, ⟨by omega, hb⟩, by omega⟩
   rw [IntWalk.i64_in _ (by omega)]; rfl
  |some n =>
   rw [aV] at hos
   simp -dsimp -implicitDefEqProofs only [go_sem, ↓reduceIte, Tryz.f93, aX, aJ, hlt, ea, e0]
   repeat' (with_reducible first | intro _ | refine And.intro ?_ ?_)
   all_goals try (first | omega | decide | exact Nat.le_refl _)
   rename_i b hb
   refine ⟨(k + 1, some b), ?_⟩
   simp only [hy, aJ, aX, aV]
   refine ⟨⟨by rw [List.length_append]; rfl, ?_⟩, ?_, ⟨by omega, hb.2⟩, by omega⟩
   ·rw [IntWalk.i64_in _ (by omega)]; rfl
   ·rw [← fI]; exact kU hos
 ·have hk' : k = vs.length := by omega
  subst hk'
  rw [List.take_of_length_le (by omega)] at hos ⊢
  cases o with
  |none =>
   rw [bD] at hos
   simp -dsimp -implicitDefEqProofs only [go_sem, ↓reduceIte, Tryz.f93, bO, aO, Nat.lt_irrefl, Int.lt_irrefl]
   first | refine aH.mk (xE vs (by omega) (fun s hs => by rw [(hser s hs).1]; omega)) ?_ | refine aF.mk (xE vs (by omega) (fun s hs => by rw [(hser s hs).1]; omega)) ?_ | refine aH.bS (xE vs (by omega) (fun s hs => by rw [(hser s hs).1]; omega)) ?_ | refine aF.mk (bM.eQ (xE vs (by omega) (fun s hs => by rw [(hser s hs).1]; omega))) ?_
   simp -dsimp -implicitDefEqProofs only [go_sem, ↓reduceIte, Tryz.f93]
   rw [hos]
   exact Shift.of (Sub.iI (.cons (.refl _) (.cons (Sub.loose _ _ _) (.cons (.refl _) .nil)))) (aB.le_refl _)
  |some n =>
   rw [aV] at hos
   simp -dsimp -implicitDefEqProofs only [go_sem, ↓reduceIte, Tryz.f93, aX, aJ, Nat.lt_irrefl, Int.lt_irrefl]
   first | refine aH.mk (xE vs (by omega) (fun s hs => by rw [(hser s hs).1]; omega)) ?_ | refine aF.mk (xE vs (by omega) (fun s hs => by rw [(hser s hs).1]; omega)) ?_ | refine aH.bS (xE vs (by omega) (fun s hs => by rw [(hser s hs).1]; omega)) ?_ | refine aF.mk (bM.eQ (xE vs (by omega) (fun s hs => by rw [(hser s hs).1]; omega))) ?_
   simp -dsimp -implicitDefEqProofs only [go_sem, ↓reduceIte, Tryz.f93]
   refine l7 ((vs.map fun s => s.getD 1 0).map fun n => [I n]) hos (aB.le_refl _) (by simp [fY, fZ]) ?_
   simp [aD.fE, lV, List.take_of_length_le]
set_option maxRecDepth 100000
open Go.Proofs
set_option linter.unusedVariables false
set_option linter.unusedSimpArgs false
def gF (n i : Nat) : List Int := (List.replicate n 0).set i 1
def jQ (p : aE) (f : Int) (args : List Int) (i : Nat) : List Int := (vE (nO (vC p 2 f (cY args (gF args.length i))))).2.1
def sC (S : Nat → List Int) (m i k : Nat) : List (List Int) := (List.range m).map fun r => (List.range (if r < k then i + 1 else i)).map fun j => (S j).getD r 0
theorem tM (S : Nat → List Int) (m i k : Nat) : (sC S m i k).length = m := by simp [sC]
theorem aJP (S : Nat → List Int) (m : Nat) : sC S m 0 0 = List.replicate m [] := by
 rw [sC]
 simp [List.map_const']
theorem aJQ (S : Nat → List Int) (m i : Nat) : sC S m i m = sC S m (i + 1) 0 := by
 refine List.map_congr_left fun r hr => ?_
 rw [if_pos (List.mem_range.1 hr), if_neg (Nat.not_lt_zero _)]
theorem wA (S : Nat → List Int) {m i k : Nat} (hk : k < m) : (sC S m i k)[k]? = some ((List.range i).map fun j => (S j).getD k 0) := by
 rw [sC, List.getElem?_map, List.getElem?_range hk]
 simp
theorem aCL (S : Nat → List Int) {m i k : Nat} (hk : k < m) : sC S m i (k + 1) = (sC S m i k).set k (((List.range i).map fun j => (S j).getD k 0) ++ [(S i).getD k 0]) := by
 apply List.ext_getElem?
 intro r
 rw [List.getElem?_set, tM]
 rcases Nat.lt_trichotomy r k with h | h | h
 ·rw [if_neg (by omega)]
  simp only [sC, List.getElem?_map]
  rcases Nat.lt_or_ge r m with hr | hr
  ·rw [List.getElem?_range hr]
   simp [h, Nat.lt_succ_of_lt h]
  ·rw [List.getElem?_eq_none (by simpa using hr)]; rfl
 ·subst h
  rw [if_pos rfl, if_pos hk]
  simp only [sC, List.getElem?_map]
  rw [List.getElem?_range hk]
  simp [List.range_succ]
 ·rw [if_neg (by omega)]
  simp only [sC, List.getElem?_map]
  rcases Nat.lt_or_ge r m with hr | hr
  ·rw [List.getElem?_range hr]
   have h1 : ¬ r < k := by omega
   have h2 : ¬ r < k + 1 := by omega
   simp [h1, h2]
  ·rw [List.getElem?_eq_none (by simpa using hr)]; rfl
theorem aTM {args : List Int} : ∀ {l : List Int} {dir : List Int}, dir.length = l.length → eR (l.map fun n => [n]) (cY l dir)
 | [], [], _ => trivial
 |a :: l, d :: dir, h => ⟨.inr ⟨a, [], [d], rfl, rfl⟩, aTM (args := args) (by simpa using h)⟩
 | [], _ :: _, h => by simp at h
 | _ :: _, [], h => by simp at h
theorem aLR {p : aE} (hp : p.ok) {f : Int} (hf : 0 ≤ f ∧ f < p.aI.length) {args dir : List Int} (hd : dir.length = args.length) (na : eD args) (nd : eD dir) (hl : ∀ F, p.aI[f.toNat]? = some F → (args.length : Int) = F.aW) {vs : List (List Int)} {t : Nat} (hok : vC p 1 f (args.map fun n => [n]) = .ok (vs, t)) :
  ∃ ws, nO (vC p 2 f (cY args dir)) = (ws, (t : Int), 0) ∧ ws.length = (p.outs f).length ∧ ∀ s ∈ ws, bN 2 s := by
 have h := aX3 p 0 1 f _ _ (aTM (args := args) hd)
 have hs := aCF hp (sz := 2) (by omega) f hf (cY args dir) (pS na nd) (fun F hF => by rw [zS hd]; exact hl F hF)
 rw [hok] at h
 cases hX : vC p 2 f (cY args dir) with
 |ok q =>
  obtain ⟨ws, u⟩ := q
  rw [hX] at h
  have := h.2
  subst this
  have h2 := hs ws t hX
  exact ⟨ws, rfl, h2.1, h2.2⟩
 |error c => rw [hX] at h; exact h.elim
theorem vF : ∀ k, OV.b6 (List.replicate k [OV.nil 1]) = []
 |0 => by simp [OV.b6]
 |k + 1 => by rw [List.replicate_succ, oX, vF k, OV.dQ, OV.hU, OV.mJ]; rfl
@[go_sem] def aLS : List Nat := [0, 1, 2, 3, 6, 7, 8, 10, 11, 12, 14, 16, 17, 30, 34, 35, 36, 43, 44, 45, 60, 61, 62, 63]
@[go_sem] def a25 : List Nat := [3, 38, 39, 54, 74]
@[go_sem] def a26 : Marks := fun id => match id with | 1 => ([], (.op 0 (.op 1 (.op 2 (.op 3 (.op 4 (.op 5 (.op 6 (.op 7 (.op 8 (.op 9 (.op 10 (.op 11 (.op 12 (.op 13 .nil)))))))))))))), []) | 12 => ([], (.op 0 (.op 1 (.op 2 (.op 3 (.op 4 (.op 5 (.op 6 (.op 7 (.op 8 (.op 9 (.op 10 (.op 11 (.op 12 (.op 13 (.op 14 (.op 15 .nil)))))))))))))))), []) | _ => ([], .nil, [])
theorem aVG {p : aE} (hp : p.ok) (f : Int) (hf : 0 ≤ f ∧ f < p.aI.length) (args : List Int) (hal : args.length ≤ 1048576) (na : eD args) (hl : ∀ F, p.aI[f.toNat]? = some F → (args.length : Int) = F.aW) {vs : List (List Int)} {t : Nat} (hok : vC p 1 f (args.map fun n => [n]) = .ok (vs, t)) :
  x9 Tryz.prog 66 [.agg p.c, I f, ints args] (QS (OS (oL I) 1 (sC (jQ p f args) (p.outs f).length args.length 0)) (fun y => .iI [y, I 0])) := by
 obtain ⟨F, ef, hF1, hF2, hF3, hF4⟩ := kR hp hf
 have hm : 1 ≤ (p.outs f).length ∧ (p.outs f).length ≤ 12 := by rw [hF3]; exact hF1
 generalize hM : (p.outs f).length = M at *
 have nz : eD (List.replicate args.length 0) := fun x hx => by rw [(List.mem_replicate.1 hx).2]; exact jD
 obtain ⟨ws, hw1, hw2, hw3⟩ := aLR hp hf (dir := List.replicate args.length 0) (by simp) na nz hl hok
 have hdir := aEZ hp f hf args (List.replicate args.length 0) (by simp) hal na nz hl
 rw [hw1, vE, if_pos rfl, aE.aU] at hdir
 rw [aE.aU]
 refine yA 80 aLS a25 a26 mix Tryz.func66 rfl (by kernel_rfl) (by simp) fun h => ?_
 simp -dsimp -implicitDefEqProofs only [go_sem, ↓reduceIte, Tryz.f66]
 first | refine aH.mk (aTJ args.length hal) ?_ | refine aF.mk (aTJ args.length hal) ?_ | refine aH.bS (aTJ args.length hal) ?_ | refine aF.mk (bM.eQ (aTJ args.length hal)) ?_
 simp -dsimp -implicitDefEqProofs only [go_sem, ↓reduceIte, Tryz.f66]
 refine aF.mk hdir ?_
 simp -dsimp -implicitDefEqProofs only [go_sem, ↓reduceIte, Tryz.f66]
 refine ⟨Nat.zero_lt_one, fun n0_ hn0 _ => ?_⟩
 refine cS (keep := aLS) (ib := a25) (mk := a26) mix (by kernel_rfl) (fun x : Nat × Nat => [(1, I f), (2, ints args), (3, .ip 1 [[eZ 3 aT.c p.aI]] 0 0), (11, .os x.2 1 0 x.1), (34, I M), (35, I x.1)]) (fun x => aR h x.2 (.row 1 (List.replicate x.1 [Cell.v (.sl 1 [] true)]))) (fun x => x.1 ≤ M ∧ h x.2 = none) (fun x => M - x.1) (0, n0_) ⟨by simp [cV, bZ, hw2, hM], aB.le_refl _, Nat.zero_le _, hn0⟩ ?_
 rintro ⟨k, b⟩ ⟨hk, hb⟩
 simp only at hk hb ⊢
 rcases Nat.lt_or_ge k M with hlt | hge
 ·simp -dsimp -implicitDefEqProofs only [go_sem, ↓reduceIte, Tryz.f66, hlt, List.length_replicate]
  refine ⟨Nat.zero_lt_one, Nat.zero_lt_one, Nat.zero_lt_one, Nat.zero_lt_one, Nat.le_refl _, by omega, by omega, fun b2 vK => ⟨(k + 1, b2), ⟨rfl, by rw [IntWalk.i64_in _ (by omega)]; rfl⟩, ?_, ⟨by omega, vK.2⟩, by simp only; omega⟩⟩
  rw [List.take_of_length_le (by rw [List.length_replicate]; exact Nat.le_refl _), ← List.replicate_succ']
  exact kU hb
 have hk' : k = M := by omega
 subst hk'
 simp -dsimp -implicitDefEqProofs only [go_sem, ↓reduceIte, Tryz.f66, Nat.lt_irrefl, Int.lt_irrefl]
 intro _
 have hcell : List.replicate k [Cell.v (.sl 1 [] true)] = OV.cells (List.replicate k [OV.nil 1]) := by simp [OV.cells, OV.val]
 rw [hcell]
 generalize hS : jQ p f args = S at *
 refine cS (keep := aLS) (ib := a25) (mk := a26) mix (by kernel_rfl) (fun x : Nat × List (List OV) × aB => [(1, I f), (2, ints args), (3, .ip 1 [[eZ 3 aT.c p.aI]] 0 0), (11, .os b 1 0 k), (43, I args.length), (44, I x.1)]) (fun x => x.2.2) (fun x => x.1 ≤ args.length ∧ OR (oL I) (sC S k x.1 0) x.2.1 ∧ eU h (OV.bT [OV.sl b 1 x.2.1]) x.2.2) (fun x => args.length - x.1) (0, List.replicate k [OV.nil 1], aR h b (.row 1 (OV.cells (List.replicate k [OV.nil 1])))) ⟨by simp [cV, bZ], aB.le_refl _, Nat.zero_le _, by simp only; rw [aJP]; exact OR.a8P ⟨_, rfl, OS.nil⟩ _, ?_⟩ ?_
 ·simp only
  rw [OV.dQ, OV.hU, List.append_nil, OV.iJ]
  rw [vF]
  exact eU.one hb
 rintro ⟨i, es, g⟩ ⟨hi, hes, hnw⟩
 simp only at hi hes hnw ⊢
 have hgb : g b = some (.row 1 (OV.cells es)) := hnw.aSN []
 have hel : es.length = k := by rw [← hes.length, tM]
 rcases Nat.lt_or_ge i args.length with hlt | hge
 ·have hun : eD (gF args.length i) := fun x hx => by
   rcases List.mem_or_eq_of_mem_set hx with hx | rfl
   ·rw [(List.mem_replicate.1 hx).2]; exact jD
   ·unfold jA; omega
  obtain ⟨us, hu1, hu2, hu3⟩ := aLR hp hf (dir := gF args.length i) (by simp [gF]) na hun hl hok
  have hdi := aEZ hp f hf args (gF args.length i) (by simp [gF]) hal na hun hl
  have hSi : S i = us.map fun s => s.getD 1 0 := by rw [← hS, jQ, hu1]; rfl
  rw [hu1, vE, if_pos rfl, ← hSi, aE.aU] at hdi
  simp -dsimp -implicitDefEqProofs only [go_sem, ↓reduceIte, Tryz.f66, hlt]
  refine ⟨Nat.zero_lt_one, Nat.zero_lt_one, ?_⟩
  first | refine aH.mk (aTK args.length i hal hlt) ?_ | refine aF.mk (aTK args.length i hal hlt) ?_ | refine aH.bS (aTK args.length i hal hlt) ?_ | refine aF.mk (bM.eQ (aTK args.length i hal hlt)) ?_
  simp -dsimp -implicitDefEqProofs only [go_sem, ↓reduceIte, Tryz.f66]
  refine aF.mk hdi ?_
  simp -dsimp -implicitDefEqProofs only [go_sem, ↓reduceIte, Tryz.f66]
  have hSl : (S i).length = k := by rw [hSi, List.length_map, hu2]; exact hM
  intro _
  refine cS (keep := aLS) (ib := a25) (mk := a26) mix (by kernel_rfl) (fun x : Nat × List (List OV) × aB => [(1, I f), (2, ints args), (3, .ip 1 [[eZ 3 aT.c p.aI]] 0 0), (11, .os b 1 0 k), (43, I args.length), (44, I i), (60, ints (S i)), (61, I k), (62, I x.1)]) (fun x => x.2.2) (fun x => x.1 ≤ k ∧ OR (oL I) (sC S k i x.1) x.2.1 ∧ eU h (OV.bT [OV.sl b 1 x.2.1]) x.2.2) (fun x => k - x.1) (0, es, g) ⟨by simp [cV, bZ, hSl], aB.le_refl _, Nat.zero_le _, hes, hnw⟩ ?_
  rintro ⟨j, es, g⟩ ⟨hj, hes, hnw⟩
  simp only at hj hes hnw ⊢
  have hgb : g b = some (.row 1 (OV.cells es)) := hnw.aSN []
  have hel : es.length = k := by rw [← hes.length, tM]
  rcases Nat.lt_or_ge j k with kJ | aE6
  ·have eS := dS (l := S i) (i := j) (by omega)
   obtain ⟨e, he, y, rfl, hy⟩ := hes.a1U j _ (wA S kJ)
   have hcg := aDW he
   have hyl : ((List.range i).map fun n => (S n).getD j 0).length = i := by simp
   rcases hy.aOJ with ⟨rfl, h0⟩ | ⟨n, rfl⟩
   ·simp -dsimp -implicitDefEqProofs only [go_sem, ↓reduceIte, Tryz.f66, kJ, eS, hgb, hcg, OV.aKV, cA, hel]
    refine ⟨by omega, Nat.zero_lt_one, Nat.zero_lt_one, Nat.zero_lt_one, fun m hm => ?_⟩
    have lC : ¬ m = b := fun e => by rw [e, hgb] at hm; cases hm
    have fJ : ¬ b = m := Ne.symm lC
    have kG : (m = b) = False := eq_false lC
    have kF : (b = m) = False := eq_false fJ
    simp -dsimp -implicitDefEqProofs only [go_sem, ↓reduceIte, Tryz.f66, aA, kG, kF, hgb, cA, hel, kJ, hcg]
    obtain ⟨g3, w1, w2⟩ := hnw.aTI (c := I) (x := (S i).getD j 0) (F := aR (aR g m (.row 1 [[.v (I ((S i).getD j 0))]])) b (.row 1 ((OV.cells es).set j [.v (.os m 1 0 1)]))) he hy hm (fun q _ => by rw [h0]; rfl)
    refine ⟨(j + 1, _, g3), by rw [IntWalk.i64_in _ (by omega)]; rfl, w1, ⟨by omega, ?_, w2⟩, by simp only; omega⟩
    simp only
    rw [aCL S kJ]
    exact hes.set j _ _ ⟨_, rfl, OS.mk (uZ _)⟩
   ·obtain ⟨hgn, nP⟩ := hnw.a6Y he
    have kI : (n = b) = False := eq_false nP
    have kH : (b = n) = False := eq_false (Ne.symm nP)
    simp -dsimp -implicitDefEqProofs only [go_sem, ↓reduceIte, Tryz.f66, kJ, eS, hgb, hcg, OV.vW, cA, hel, hgn]
    rw [List.length_range]
    refine ⟨by omega, Nat.zero_lt_one, Nat.zero_lt_one, Nat.zero_lt_one, Nat.le_refl _, by omega, by omega, fun m hm => ?_⟩
    have lC : ¬ m = b := fun e => by rw [e, hgb] at hm; cases hm
    have fJ : ¬ b = m := Ne.symm lC
    have kG : (m = b) = False := eq_false lC
    have kF : (b = m) = False := eq_false fJ
    have uD : ¬ m = n := fun e => by rw [e, hgn] at hm; cases hm
    have aCK : ¬ n = m := Ne.symm uD
    have m7 : (m = n) = False := eq_false uD
    have m8 : (n = m) = False := eq_false aCK
    simp -dsimp -implicitDefEqProofs only [go_sem, ↓reduceIte, Tryz.f66, aA, kG, m7, kF, kH, m8, kI, hgb, cA, hel, kJ, hcg]
    have hgr := fI I ((List.range i).map fun n => (S n).getD j 0) ((S i).getD j 0)
    rw [hyl] at hgr
    rw [hgr]
    obtain ⟨g3, w1, w2⟩ := hnw.aTI (c := I) (x := (S i).getD j 0) (F := aR (aR (aR g n .gone) m (.row 1 (((((List.range i).map fun n => (S n).getD j 0) ++ [(S i).getD j 0]).map fun n => [I n]).map (List.map .v)))) b (.row 1 ((OV.cells es).set j [.v (.os m 1 0 (i + 1))]))) he hy hm (fun q hq => by
     rw [hyl]
     have hqn := hq n _ _ rfl
     simp only [c6, if_neg hqn])
    refine ⟨(j + 1, _, g3), by rw [IntWalk.i64_in _ (by omega)]; rfl, w1, ⟨by omega, ?_, w2⟩, by simp only; omega⟩
    simp only
    rw [aCL S kJ]
    exact hes.set j _ _ ⟨_, rfl, OS.mk (uZ _)⟩
  ·have hj' : j = k := by omega
   subst hj'
   simp -dsimp -implicitDefEqProofs only [go_sem, ↓reduceIte, Tryz.f66, Nat.lt_irrefl, Int.lt_irrefl]
   exact ⟨(i + 1, es, g), by rw [IntWalk.i64_in _ (by omega)]; rfl, aB.le_refl _, ⟨by omega, by simp only; rw [← aJQ]; exact hes, hnw⟩, by simp only; omega⟩
 ·have hi' : i = args.length := by omega
  subst hi'
  simp -dsimp -implicitDefEqProofs only [go_sem, ↓reduceIte, Tryz.f66, Nat.lt_irrefl, Int.lt_irrefl]
  rw [OV.dQ, OV.hU, List.append_nil] at hnw
  exact ⟨_, g, _, bI _ _, ⟨OV.sl b 1 es, OS.mk hes, by rw [OV.vA, hel], rfl⟩, hnw⟩
set_option maxRecDepth 100000
open Go.Proofs
set_option linter.unusedVariables false
set_option linter.unusedSimpArgs false
theorem a27 (n : Nat) (hn : n ≤ 1048576) (h : aB) : iH Tryz.prog 112 [.bH, I n] h fun r h' => (n = 0 ∧ r = .bH ∧ h' = h) ∨ (0 < n ∧ ∃ m, h m = none ∧ r = .os m 1 0 0 ∧ h' = aR h m (.row 1 [])) := by
 refine ⟨by kernel_rfl, fun E w vs R hL => ?_⟩
 have hvs : vs = [.slice none 0 0, .int .i64 n] := by
  match vs, hL with
  | [a, b], hL => rw [show a = .slice none 0 0 by cases hL.1; rfl, kQ hL.2.1]
 subst hvs
 rcases Nat.eq_zero_or_pos n with rfl | h0
 ·refine (aLP w).mono ?_
  rintro e w' ⟨rfl, rfl⟩
  exact ⟨.bH, h, E, .inl ⟨rfl, rfl, rfl⟩, .refl _ _ _, R, .bH⟩
 ·obtain ⟨i, u, hi, hu, hsz, hby, hd, hag, hz⟩ := pZ ty2
  cases hiz : i.zero with
  |none => rw [hiz] at hz; simp at hz
  |some z =>
  have hb8 : i.bytes = 8 := hby.symm
  have mY : i.size = 1 := hsz.symm
  have hrz := fun ty => Lib.run_append_nil_zeros (P := Tryz.prog) w 27 3 ty 2 i z .i64 .i64 (by kernel_rfl) (by kernel_rfl) hi hiz n h0 (by omega) (by omega) (by rw [hb8]; omega)
  have hge := grownCap_ge w n 0 2
  have hmx := grownCap_le_maxLen w n 0 2 (by unfold maxLen; omega)
  have hzs : z.cells.size = 1 := by
   rw [hiz] at hz
   have := congrArg List.length hz
   simp at this
   exact this.symm
  have hcz : (Builtin.zeroCells z.cells n ++ Builtin.zeroCells z.cells (grownCap w n 0 2 - n)).size = grownCap w n 0 2 := by
   rw [Array.size_append, tA, tA, hzs]; omega
  refine (aLO n _ w _ h0 hn hge hmx hrz).mono ?_
  rintro e w' ⟨rfl, rfl⟩
  generalize Builtin.zeroCells z.cells n ++ Builtin.zeroCells z.cells (grownCap w n 0 2 - n) = cs at hcz ⊢
  obtain ⟨m, hm⟩ := R.fresh
  have hal := R.aI6 hm 1 [] (by simp) cs 2 w.drew.drawn (fun _ _ => undef) (by simp) (by simp [iZ])
  have qT := Ev.alloc R hm (.cells cs 2 (0, 0)) (.row 1 []) w.drew.drawn
  refine ⟨.os m 1 0 0, aR h m (.row 1 []), E.add m w.heap.size, .inr ⟨h0, m, R.none hm, rfl, rfl⟩, qT, hal, ?_⟩
  refine fD.os m 1 0 0 w.heap.size 0 (grownCap w n 0 2) 2 cs.size (by simp [Env.add]) (by simp [Env.add]) (Nat.zero_le _) hmx ?_ (by rw [hcz]; omega)
  exact lL (f := (0, 0)) (sJ w (.cells cs 2 (0, 0)) w.drew.drawn)
def zB (a b : List Int) : Nat → List Int
 |0 => []
 |1 => a
 | _ => a ++ b
@[go_sem] def aLT : List Nat := [0, 2, 3, 5, 6, 8, 9, 10, 11, 12, 20, 25, 26, 27, 28]
@[go_sem] def a28 : List Nat := []
@[go_sem] def a29 : Marks := fun _ => ([], .nil, [])
theorem a3A (a b : List Int) (ha : a.length ≤ 1000) (hb : b.length ≤ 1000) : fL Tryz.prog 85 [.sl 1 [[ints a], [ints b]] true] (ints (a ++ b)) := by
 refine rP 36 aLT a28 a29 mix Tryz.func85 rfl (by kernel_rfl) (by simp) fun h => ?_
 simp -dsimp -implicitDefEqProofs only [go_sem, ↓reduceIte, Tryz.f85]
 refine oY (keep := aLT) (ib := a28) (mk := a29) mix (by kernel_rfl) (fun k : Nat => [(0, .sl 1 [[ints a], [ints b]] true), (3, I (zB a b k).length), (9, .sl 1 [[ints a], [ints b]] true), (10, I 2), (11, I k)]) (fun k => k ≤ 2) (fun k => 2 - k) 0 ⟨by simp [cV, bZ, zB], by omega⟩ ?_
 intro k hk
 have hk3 : k = 0 ∨ k = 1 ∨ k = 2 := by omega
 rcases hk3 with rfl | rfl | rfl
 ·simp -dsimp -implicitDefEqProofs only [go_sem, ↓reduceIte, Tryz.f85]
  have e0 : (zB a b 0).length = 0 := rfl
  have e1 : zB a b 1 = a := rfl
  refine ⟨fun _ => ⟨by decide, fun _ => ?_⟩, fun q => absurd (by decide) q⟩
  rw [IntWalk.i64_in _ (by omega)]
  exact ⟨fun q => absurd q (by omega), fun _ => ⟨1, ⟨by rw [e1]; omega, by decide⟩, by omega, by omega⟩⟩
 ·simp -dsimp -implicitDefEqProofs only [go_sem, ↓reduceIte, Tryz.f85]
  have e1 : zB a b 1 = a := rfl
  have e2 : (zB a b 2).length = a.length + b.length := by simp [zB]
  refine ⟨fun _ => ⟨by decide, fun _ => ?_⟩, fun q => absurd (by decide) q⟩
  rw [e1, IntWalk.i64_in _ (by omega)]
  exact ⟨fun q => absurd q (by omega), fun _ => ⟨2, ⟨by rw [e2]; omega, by decide⟩, by omega, by omega⟩⟩
 ·simp -dsimp -implicitDefEqProofs only [go_sem, ↓reduceIte, Tryz.f85]
  have e2 : (zB a b 2).length = a.length + b.length := by simp [zB]
  refine ⟨fun q => absurd q (by decide), fun _ => ?_⟩
  refine aH.fG (a27 _ (by omega) h) ?_
  rintro r h' (⟨hz, rfl, rfl⟩ | ⟨hp, m, hm, rfl, rfl⟩)
  ·have ha0 : a = [] := List.length_eq_zero_iff.1 (by omega)
   have hb0 : b = [] := List.length_eq_zero_iff.1 (by omega)
   subst ha0
   subst hb0
   simp -dsimp -implicitDefEqProofs only [go_sem, ↓reduceIte, Tryz.f85]
   refine oY (keep := aLT) (ib := a28) (mk := a29) mix (by kernel_rfl) (fun k : Nat => [(6, .bH), (25, .sl 1 [[ints []], [ints []]] true), (26, I 2), (27, I k)]) (fun k => k ≤ 2) (fun k => 2 - k) 0 ⟨by simp [cV, bZ], by omega⟩ ?_
   intro k hk
   have hk3 : k = 0 ∨ k = 1 ∨ k = 2 := by omega
   rcases hk3 with rfl | rfl | rfl
   ·simp -dsimp -implicitDefEqProofs only [go_sem, ↓reduceIte, Tryz.f85]
    exact ⟨fun _ => ⟨by decide, Nat.zero_lt_one, 1, by decide, by omega, by omega⟩, fun q => absurd (by decide) q⟩
   ·simp -dsimp -implicitDefEqProofs only [go_sem, ↓reduceIte, Tryz.f85]
    exact ⟨fun _ => ⟨by decide, Nat.zero_lt_one, 2, by decide, by omega, by omega⟩, fun q => absurd (by decide) q⟩
   ·simp -dsimp -implicitDefEqProofs only [go_sem, ↓reduceIte, Tryz.f85]
    exact ⟨fun q => absurd q (by decide), fun _ => Shift.of (Sub.nil 1 false) (aB.le_refl _)⟩
  ·simp -dsimp -implicitDefEqProofs only [go_sem, ↓reduceIte, Tryz.f85]
   refine cS (keep := aLT) (ib := a28) (mk := a29) mix (by kernel_rfl) (fun x : Nat × Nat => [(6, .os x.2 1 0 (zB a b x.1).length), (25, .sl 1 [[ints a], [ints b]] true), (26, I 2), (27, I x.1)]) (fun x => aR h x.2 (.row 1 (((zB a b x.1).map fun n => [I n]).map (List.map .v)))) (fun x => x.1 ≤ 2 ∧ h x.2 = none) (fun x => 2 - x.1) (0, m) ⟨by simp [cV, bZ, zB], aB.le_refl _, by simp only; omega, hm⟩ ?_
   rintro ⟨k, m⟩ ⟨hk, hm⟩
   simp only at hk hm ⊢
   have hk3 : k = 0 ∨ k = 1 ∨ k = 2 := by omega
   rcases hk3 with rfl | rfl | rfl
   ·simp -dsimp -implicitDefEqProofs only [go_sem, ↓reduceIte, Tryz.f85]
    have e0 : zB a b 0 = [] := rfl
    have e1 : zB a b 1 = a := rfl
    rw [e0, List.length_nil, Nat.zero_add]
    refine ⟨fun _ => ⟨by decide, Nat.zero_lt_one, Nat.le_refl _, by omega, by omega, fun c hc => ⟨(1, c), ⟨by rw [e1], by simp only; decide⟩, ?_, ⟨by simp only; omega, hc.2⟩, by simp only; omega⟩⟩, fun q => absurd (by decide) q⟩
    simp only [e1]
    exact kU hm
   ·simp -dsimp -implicitDefEqProofs only [go_sem, ↓reduceIte, Tryz.f85]
    have e1 : zB a b 1 = a := rfl
    have e2 : zB a b 2 = a ++ b := rfl
    rw [e1]
    refine ⟨fun _ => ⟨by decide, Nat.zero_lt_one, Nat.le_refl _, by omega, by omega, fun c hc => ⟨(2, c), ⟨by rw [e2, List.length_append], by simp only; decide⟩, ?_, ⟨by simp only; omega, hc.2⟩, by simp only; omega⟩⟩, fun q => absurd (by decide) q⟩
    simp only [e2]
    rw [List.take_of_length_le (by simp), List.map_append, List.map_append]
    exact kU hm
   ·simp -dsimp -implicitDefEqProofs only [go_sem, ↓reduceIte, Tryz.f85]
    have e2 : zB a b 2 = a ++ b := rfl
    rw [e2]
    exact ⟨fun q => absurd q (by decide), fun _ => fH _ hm (aB.le_refl _) rfl⟩
open Go.Proofs
set_option linter.unusedVariables false
set_option linter.unusedSimpArgs false
open Go.Proofs
set_option linter.unusedVariables false
set_option linter.unusedSimpArgs false
set_option maxRecDepth 100000
open Go.Proofs
set_option linter.unusedVariables false
set_option linter.unusedSimpArgs false
def aA3 (j : eI) (k : Int) : Prop := 0 ≤ k ∧ k ≤ (j.cB.length : Int) - 1
noncomputable instance (j : eI) (k : Int) : Decidable (aA3 j k) := Classical.propDecidable _
@[go_sem] def a96 : List Nat := [0, 1, 2, 4]
@[go_sem] def bOE : List Nat := [2]
@[go_sem] def bOF : Marks := fun _ => ([], .nil, [])
theorem has (j : eI) (k : Int) (hl : j.cB.length ≤ 1048576) : fL Tryz.prog 25 [.agg j.c, I k] (.bool (decide (aA3 j k))) := by
 simp only [eI.aU]
 refine fT 11 a96 bOE bOF mix Tryz.func25 rfl (by kernel_rfl) (by simp) fun h => ?_
 simp -dsimp -implicitDefEqProofs only [go_sem, ↓reduceIte, Tryz.f25]
 intro _
 rw [IntWalk.i64_in _ (by omega)]
 first | refine aH.mk (within k 0 ((j.cB.length : Int) - 1)) ?_ | refine aF.mk (within k 0 ((j.cB.length : Int) - 1)) ?_ | refine aH.bS (within k 0 ((j.cB.length : Int) - 1)) ?_ | refine aF.mk (bM.eQ (within k 0 ((j.cB.length : Int) - 1))) ?_
 simp -dsimp -implicitDefEqProofs only [go_sem, ↓reduceIte, Tryz.f25]
 exact decide_eq_decide.2 Iff.rfl
@[go_sem] def a97 : List Nat := [0, 1, 4]
@[go_sem] def bOG : List Nat := []
@[go_sem] def bOH : Marks := fun _ => ([], .nil, [])
theorem a3B (j : eI) (k : Int) (hl : j.cB.length ≤ 1048576) : fL Tryz.prog 29 [.ip 5 [j.c] 0 0, I k] (.bool (decide (aA3 j k))) := by
 simp only [eI.aU]
 refine fT 13 a97 bOG bOH mix Tryz.func29 rfl (by kernel_rfl) (by simp) fun h => ?_
 simp -dsimp -implicitDefEqProofs only [go_sem, ↓reduceIte, Tryz.f29]
 repeat' (with_reducible first | intro _ | refine And.intro ?_ ?_)
 all_goals try omega
 rw [IntWalk.i64_in _ (by omega)]
 first | refine aH.mk (eJ k 0 ((j.cB.length : Int) - 1)) ?_ | refine aF.mk (eJ k 0 ((j.cB.length : Int) - 1)) ?_ | refine aH.bS (eJ k 0 ((j.cB.length : Int) - 1)) ?_ | refine aF.mk (bM.eQ (eJ k 0 ((j.cB.length : Int) - 1))) ?_
 simp -dsimp -implicitDefEqProofs only [go_sem, ↓reduceIte, Tryz.f29]
 exact decide_eq_decide.2 Iff.rfl
set_option maxRecDepth 100000
open Go.Proofs
set_option linter.unusedVariables false
set_option linter.unusedSimpArgs false
theorem pT {j : eI} (h : j.ok) : ∃ F, j.aZ.aI[j.cT.toNat]? = some F ∧ (0 ≤ j.cT ∧ j.cT < j.aZ.aI.length) ∧ (0 ≤ F.aW ∧ F.aW ≤ 12) ∧ j.okF F := by
 have hk : j.cT.toNat < j.aZ.aI.length := by have := h.2.1; omega
 have e := List.getElem?_eq_getElem hk
 exact ⟨_, e, by have := h.2.1; omega, (h.1.2 _ _ e).2.1, h.2.2 _ e⟩
def cQ (j : eI) (k : Nat) : List Int := j.iN ++ j.cB.getD k []
def gT (j : eI) (k : Nat) : e8 := match vC j.aZ 1 j.cT ((cQ j k).map fun n => [n]) with
 | .error c => ⟨c, 0, []⟩
 | .ok (vs, _) => ⟨0, (vs.getD 0 []).getD 0 0, ((sC (jQ j.aZ j.cT (cQ j k)) (j.aZ.outs j.cT).length (cQ j k).length 0).getD 0 []).take j.cE.toNat⟩
theorem pE {j : eI} (h : j.ok) {k : Nat} (hk : k < j.cB.length) : (j.cB[k]? = some (j.cB.getD k [])) ∧ eD (cQ j k) ∧ (∀ F, j.aZ.aI[j.cT.toNat]? = some F → ((cQ j k).length : Int) = F.aW) ∧ (cQ j k).length ≤ 12 ∧ j.iN.length ≤ 12 ∧ (j.cB.getD k []).length ≤ 12 ∧ 0 ≤ j.cE ∧ j.cE.toNat ≤ (cQ j k).length := by
 obtain ⟨F, eF, hf, hF, ok⟩ := pT h
 obtain ⟨o1, o2, o3, o4⟩ := ok
 have hg : j.cB.getD k [] = j.cB[k] := by rw [List.getD_eq_getElem?_getD, List.getElem?_eq_getElem hk]; rfl
 have ht := o4 _ (List.getElem_mem hk)
 have hlen : ((cQ j k).length : Int) = F.aW := by
  rw [cQ, hg, List.length_append]
  have := ht.1
  have := o2.1
  omega
 refine ⟨by rw [hg]; exact List.getElem?_eq_getElem hk, fun x hx => ?_, fun G hG => ?_, by omega, by have := o2.1; omega, by rw [hg]; have := ht.1; omega, o1.1, by omega⟩
 ·rw [cQ, hg] at hx
  rcases List.mem_append.1 hx with hx | hx
  ·exact o2.2 x hx
  ·exact ht.2 x hx
 ·rw [eF] at hG
  cases hG
  exact hlen
noncomputable def l8 (j : eI) (k : Int) : e8 × Int := if j.ok then (if aA3 j k then (gT j k.toNat, 0) else (⟨0, 0, []⟩, 2)) else (⟨0, 0, []⟩, 1)
theorem aJR {j : eI} {k : Int} (h : ¬ j.ok) : l8 j k = (⟨0, 0, []⟩, 1) := if_neg h
theorem aJS {j : eI} {k : Int} (h : j.ok) (h2 : ¬ aA3 j k) : l8 j k = (⟨0, 0, []⟩, 2) := by rw [l8, if_pos h, if_neg h2]
theorem aA4 {j : eI} {k : Int} (h : j.ok) (h2 : aA3 j k) : l8 j k = (gT j k.toNat, 0) := by rw [l8, if_pos h, if_pos h2]
theorem aFT : a53 (e8.o ⟨0, 0, []⟩) [I 0, I 0, .bH] := ⟨[.v (I 0), .v (I 0), .nil 1], ⟨_, rfl, OS.nil⟩, by simp [OV.dQ, OV.hU, OV.pD, OV.mJ], Sub.agg (.cons (.refl _) (.cons (.refl _) (.cons (Sub.nil _ _) .nil)))⟩
@[go_sem] def a98 : List Nat := [0, 1, 2, 4]
@[go_sem] def bOI : List Nat := [2, 12]
@[go_sem] def bOJ : Marks := fun id => match id with | 1 => ([], (.op 0 (.op 1 (.op 2 (.op 3 (.op 4 (.op 5 (.op 6 (.op 7 (.op 8 (.op 9 .nil)))))))))), []) | _ => ([], .nil, [])
theorem bHN {j : eI} (h : j.ok) {k : Nat} (hk : k < j.cB.length) : fL Tryz.prog 55 [.agg j.c, I k] (ints (cQ j k)) := by
 obtain ⟨t1, t2, t3, t4, t5, t6, t7, t8⟩ := pE h hk
 have hc := a3A j.iN (j.cB.getD k []) (by omega) (by omega)
 simp only [eI.aU]
 refine fT 14 a98 bOI bOJ mix Tryz.func55 rfl (by kernel_rfl) (by simp) fun h => ?_
 simp -dsimp -implicitDefEqProofs only [go_sem, ↓reduceIte, Tryz.f55, t1]
 refine ⟨by omega, Nat.zero_lt_one, rfl, ?_⟩
 refine aF.mk hc ?_
 simp -dsimp -implicitDefEqProofs only [go_sem, ↓reduceIte, Tryz.f55]
 rfl
@[go_sem] def a99 : List Nat := [0, 1, 2, 4, 5, 7, 8, 24]
@[go_sem] def bOK : List Nat := [2]
@[go_sem] def bOL : Marks := fun id => match id with | 1 => ([6, 7, 8], (.op 0 (.op 1 (.op 2 (.op 3 (.op 4 (.op 5 (.op 6 (.op 7 (.op 8 (.op 9 (.op 10 (.op 11 (.op 12 (.op 13 (.op 14 (.op 15 .nil)))))))))))))))), []) | 4 => ([6, 7], (.op 0 (.op 1 (.op 2 (.op 3 (.op 4 (.op 5 (.op 6 (.op 7 (.op 8 (.op 9 (.op 10 (.op 11 (.op 12 .nil))))))))))))), []) | 5 => ([11, 13], (.op 0 (.op 1 (.op 2 (.op 3 (.op 4 (.op 5 (.op 6 (.op 7 (.op 8 (.op 9 (.op 10 (.op 11 (.op 12 (.op 13 .nil)))))))))))))), []) | _ => ([], .nil, [])
set_option maxHeartbeats 1000000 in
theorem a62 {j : eI} (hj : j.ok) {k : Nat} (hk : k < j.cB.length) : x9 Tryz.prog 32 [.agg j.c, I k] (QA (gT j k).o) := by
 obtain ⟨t1, t2, t3, t4, t5, t6, t7, t8⟩ := pE hj hk
 obtain ⟨F, eF, hf, hF, ok⟩ := pT hj
 have hargs := bHN hj hk
 have hsing := a22 (cQ j k) (by omega)
 have qT := aJO hj.1 (sz := 1) (by decide) j.cT hf ((cQ j k).map fun n => [n]) (fun s hs => by
  obtain ⟨n, hn, rfl⟩ := List.mem_map.1 hs
  refine ⟨rfl, fun x hx => ?_⟩
  rw [List.mem_singleton.1 hx]
  exact t2 n hn) (fun F hF => by rw [List.length_map]; exact t3 F hF)
 rw [show (((1 : Nat) : Int) - 1) = 0 from rfl, aE.aU] at qT
 simp only [eI.aU] at hargs ⊢
 refine yA 51 a99 bOK bOL mix Tryz.func32 rfl (by kernel_rfl) (by simp) fun h => ?_
 simp -dsimp -implicitDefEqProofs only [go_sem, ↓reduceIte, Tryz.f32]
 intro n4 z4
 try simp -dsimp -implicitDefEqProofs only [go_sem, ↓reduceIte, Tryz.f32]
 refine aH.mk hargs ?_
 simp -dsimp -implicitDefEqProofs only [go_sem, ↓reduceIte, Tryz.f32]
 refine aH.mk hsing ?_
 simp -dsimp -implicitDefEqProofs only [go_sem, ↓reduceIte, Tryz.f32]
 refine aH.mk qT ?_
 simp -dsimp -implicitDefEqProofs only [go_sem, ↓reduceIte, Tryz.f32]
 have hse := aCF hj.1 (sz := 1) (by decide) j.cT hf ((cQ j k).map fun n => [n]) (fun s hs => by
  obtain ⟨n, hn, rfl⟩ := List.mem_map.1 hs
  refine ⟨rfl, fun x hx => ?_⟩
  rw [List.mem_singleton.1 hx]
  exact t2 n hn) (fun F hF => by rw [List.length_map]; exact t3 F hF)
 have her := aCD j.aZ 1 j.cT ((cQ j k).map fun n => [n])
 cases hX : vC j.aZ 1 j.cT ((cQ j k).map fun n => [n]) with
 |error c =>
  have hc : ¬ c = 0 := by rcases her c hX with rfl | rfl <;> decide
  refine ⟨fun _ => ?_, fun q => absurd q hc⟩
  have hp : gT j k = ⟨c, 0, []⟩ := by rw [gT, hX]
  rw [hp, nO]
  exact vV (z := [I c, I 0, .bH]) ⟨[.v (I c), .v (I 0), .nil 1], ⟨_, rfl, OS.nil⟩, by simp [OV.dQ, OV.hU, OV.pD, OV.mJ], Sub.agg (.cons (.refl _) (.cons (.refl _) (.cons (Sub.nil _ _) .nil)))⟩ aSM (by repeat' (first | exact aB.le_refl _ | refine aB.hZ ?_ | refine aB.aY (by first | assumption | (rw [aA _ _ _ _ (by assumption)]; assumption) | (rw [aA _ _ _ _ (by assumption), aA _ _ _ _ (by assumption)]; assumption) | (rw [aA _ _ _ _ (by assumption), aA _ _ _ _ (by assumption), aA _ _ _ _ (by assumption)]; assumption)) ?_))
 |ok q =>
  obtain ⟨vs, t⟩ := q
  refine ⟨fun q => absurd rfl q, fun _ => ?_⟩
  have hv := hse vs t hX
  obtain ⟨F2, eF2, hO1, hO2, hO3, hO4⟩ := kR hj.1 hf
  have hjac := QS.aQV (aVG hj.1 j.cT hf (cQ j k) (by omega) t2 t3 hX) (fun y hy => OS.qW (c := fun s => [ints s]) (fun _ _ q => aYO q) hy) (vU [] [I 0])
  rw [aE.aU] at hjac
  have hp : gT j k = ⟨0, (vs.getD 0 []).getD 0 0, ((sC (jQ j.aZ j.cT (cQ j k)) (j.aZ.outs j.cT).length (cQ j k).length 0).getD 0 []).take j.cE.toNat⟩ := by rw [gT, hX]
  rw [hp]
  refine aH.mk hargs ?_
  simp -dsimp -implicitDefEqProofs only [go_sem, ↓reduceIte, Tryz.f32]
  refine aH.mk hjac ?_
  have hl0 : 0 < (j.aZ.outs j.cT).length := by rw [hO3]; omega
  have uY := hv.get (i := 0) hl0
  have g0 : vs[Int.toNat 0]? = some (vs.getD 0 []) := iP (by rw [hv.1]; exact hl0)
  have gs : (vs.getD 0 [])[Int.toNat 0]? = some ((vs.getD 0 []).getD 0 0) := dS (by rw [uY.1]; decide)
  have hJl := tM (jQ j.aZ j.cT (cQ j k)) (j.aZ.outs j.cT).length (cQ j k).length 0
  have hJ0 := wA (jQ j.aZ j.cT (cQ j k)) (m := (j.aZ.outs j.cT).length) (i := (cQ j k).length) (k := 0) hl0
  generalize sC (jQ j.aZ j.cT (cQ j k)) (j.aZ.outs j.cT).length (cQ j k).length 0 = J at *
  have gJ : J[Int.toNat 0]? = some (J.getD 0 []) := iP (by omega)
  have hJ1 : (J.getD 0 []).length = (cQ j k).length := by
   rw [List.getD_eq_getElem?_getD, hJ0]; simp
  rw [show nO (.ok (vs, t)) = (vs, (t : Int), 0) from rfl]
  simp -dsimp -implicitDefEqProofs only [go_sem, ↓reduceIte, Tryz.f32, g0, gs, gJ]
  rw [hv.1, uY.1, hJl]
  refine ⟨by omega, by decide, by omega, Int.le_refl _, t7, by rw [List.length_map]; omega, ?_⟩
  simp -dsimp -implicitDefEqProofs only [go_sem, ↓reduceIte, Tryz.f32]
  rw [← List.map_take]
  refine aH.wn1 (aXV ((J.getD 0 []).take j.cE.toNat) (by rw [List.length_take]; omega)) z4 ?_
  rintro r l g ⟨y, oy, rfl, rfl⟩ wn z4
  simp -dsimp -implicitDefEqProofs only [go_sem, ↓reduceIte, Tryz.f32, oy.flat, oy.one]
  exact aB4 (e := [.v (I 0), .v (I ((vs.getD 0 []).getD 0 0)), y]) (by simp only [OV.eN, OV.b7, OV.jH]) ⟨y, rfl, oy⟩ (by rw [OV.dQ, OV.dQ, OV.dQ, OV.hU, OV.pD, OV.pD, List.append_nil]; exact wn) (by repeat' (first | exact aB.le_refl _ | refine aB.hZ ?_ | refine aB.aY (by first | assumption | (rw [aA _ _ _ _ (by assumption)]; assumption) | (rw [aA _ _ _ _ (by assumption), aA _ _ _ _ (by assumption)]; assumption) | (rw [aA _ _ _ _ (by assumption), aA _ _ _ _ (by assumption), aA _ _ _ _ (by assumption)]; assumption)) ?_))
theorem bHQ {j : eI} (hj : j.ok) {k : Nat} (hk : k < j.cB.length) : fL Tryz.prog 32 [.agg j.c, I k] (.agg (gT j k).c) := QA.eQ (a62 hj hk) (fun e he => e8.aCB he)
@[go_sem] def bAA : List Nat := [0, 1, 2, 4, 5, 6, 11]
@[go_sem] def bOP : List Nat := [2]
@[go_sem] def bOQ : Marks := fun _ => ([], .nil, [])
theorem bAB (j : eI) (k : Int) (hs : j.s ≤ 1048576) : x9 Tryz.prog 11 [.agg j.c, I k] (QA (l8 j k).1.o (fun y => .iI [y, I (l8 j k).2])) := by
 have hs' := j.tI
 simp only [kT] at hs'
 have hok := aHK j (by omega)
 have hhas := has j k (by omega)
 simp only [eI.aU] at hok hhas ⊢
 refine yA 20 bAA bOP bOQ mix Tryz.func11 rfl (by kernel_rfl) (by simp) fun h => ?_
 simp -dsimp -implicitDefEqProofs only [go_sem, ↓reduceIte, Tryz.f11]
 intro n4 z4
 try simp -dsimp -implicitDefEqProofs only [go_sem, ↓reduceIte, Tryz.f11]
 first | refine aH.mk (hok) ?_ | refine aF.mk (hok) ?_ | refine aH.bS (hok) ?_ | refine aF.mk (bM.eQ (hok)) ?_
 simp -dsimp -implicitDefEqProofs only [go_sem, ↓reduceIte, Tryz.f11]
 refine ⟨fun hn => ?_, fun hy => ?_⟩
 ·have hn' : ¬ j.ok := by simpa using hn
  rw [aJR hn']
  try simp -dsimp -implicitDefEqProofs only [go_sem, ↓reduceIte, Tryz.f11, aK]
  exact vV (z := [I 0, I 0, .bH]) aFT (aB3 [] [_]) (by repeat' (first | exact aB.le_refl _ | refine aB.hZ ?_ | refine aB.aY (by first | assumption | (rw [aA _ _ _ _ (by assumption)]; assumption) | (rw [aA _ _ _ _ (by assumption), aA _ _ _ _ (by assumption)]; assumption) | (rw [aA _ _ _ _ (by assumption), aA _ _ _ _ (by assumption), aA _ _ _ _ (by assumption)]; assumption)) ?_))
 have hj : j.ok := by simpa using hy
 try simp -dsimp -implicitDefEqProofs only [go_sem, ↓reduceIte, Tryz.f11]
 first | refine aH.mk (hhas) ?_ | refine aF.mk (hhas) ?_ | refine aH.bS (hhas) ?_ | refine aF.mk (bM.eQ (hhas)) ?_
 simp -dsimp -implicitDefEqProofs only [go_sem, ↓reduceIte, Tryz.f11]
 refine ⟨fun ht => ?_, fun ht => ?_⟩
 ·rw [aJS hj ht]
  try simp -dsimp -implicitDefEqProofs only [go_sem, ↓reduceIte, Tryz.f11, aK]
  exact vV (z := [I 0, I 0, .bH]) aFT (aB3 [] [_]) (by repeat' (first | exact aB.le_refl _ | refine aB.hZ ?_ | refine aB.aY (by first | assumption | (rw [aA _ _ _ _ (by assumption)]; assumption) | (rw [aA _ _ _ _ (by assumption), aA _ _ _ _ (by assumption)]; assumption) | (rw [aA _ _ _ _ (by assumption), aA _ _ _ _ (by assumption), aA _ _ _ _ (by assumption)]; assumption)) ?_))
 have hk1 := ht.1
 have hk2 := ht.2
 have hkl : k.toNat < j.cB.length := by omega
 have hp := a62 hj hkl
 rw [show ((k.toNat : Nat) : Int) = k by omega] at hp
 simp only [eI.aU] at hp
 rw [aA4 hj ht]
 refine aH.wn1 hp z4 ?_
 rintro r l g ⟨e, ⟨y, rfl, oy⟩, rfl, rfl⟩ wn z4
 simp -dsimp -implicitDefEqProofs only [go_sem, ↓reduceIte, Tryz.f11, OV.eN, OV.b7, OV.jH, oy.flat, oy.one]
 exact aB4 (e := [.v (I (gT j k.toNat).aS), .v (I (gT j k.toNat).kK), y]) (by simp only [OV.eN, OV.b7, OV.jH]) ⟨y, rfl, oy⟩ wn (by repeat' (first | exact aB.le_refl _ | refine aB.hZ ?_ | refine aB.aY (by first | assumption | (rw [aA _ _ _ _ (by assumption)]; assumption) | (rw [aA _ _ _ _ (by assumption), aA _ _ _ _ (by assumption)]; assumption) | (rw [aA _ _ _ _ (by assumption), aA _ _ _ _ (by assumption), aA _ _ _ _ (by assumption)]; assumption)) ?_))
set_option maxRecDepth 100000
open Go.Proofs
set_option linter.unusedVariables false
set_option linter.unusedSimpArgs false
def aHU (X : Out (List (List Int))) : List Int × Int × Int := match X with
 | .ok (vs, t) => (vs.map (·.getD 0 0), t, 0)
 | .error c => ([], 0, c)
theorem aO8 {X : Out (List (List Int))} {l : List (List Int)} {t : Nat} {c : Int} (h : jF X l t c) : aHU X = if c = 0 then (l.map (·.getD 0 0), (t : Int), 0) else ([], 0, c) := by
 cases X with
 |ok p =>
  obtain ⟨w, u⟩ := p
  obtain ⟨rfl, rfl, rfl⟩ := h
  rfl
 |error d =>
  obtain ⟨rfl, h⟩ := h
  rw [if_neg h]; rfl
theorem uE (l : List Int) (hl : l.length ≤ 1048576) : fL Tryz.prog 51 [ints l] (ints l) := aAN (aQ0 l hl)
@[go_sem] def bAC : List Nat := [0, 1, 4]
@[go_sem] def bOR : List Nat := []
@[go_sem] def bOS : Marks := fun _ => ([], .nil, [])
theorem a3C (a b : List Int) (ha : a.length ≤ 1000) (hb : b.length ≤ 1000) : fL Tryz.prog 60 [ints a, ints b] (ints (a ++ b)) := by
 refine rP 9 bAC bOR bOS mix Tryz.func60 rfl (by kernel_rfl) (by simp) fun h => ?_
 simp -dsimp -implicitDefEqProofs only [go_sem, ↓reduceIte, Tryz.f60]
 refine aH.wn0 (aQ0 a (by omega)) ?_
 rintro r l g ⟨y, oy, rfl, rfl⟩ wn
 rcases oy.aOJ with ⟨rfl, ha0⟩ | ⟨n, rfl⟩
 ·subst ha0
  simp -dsimp -implicitDefEqProofs only [go_sem, ↓reduceIte, Tryz.f60, OV.aKV]
  refine ⟨Nat.zero_lt_one, fun e => ?_, fun _ => ⟨by omega, by omega, fun n hn => (fH b hn (aB.le_refl _) rfl).trans (cM wn.le)⟩⟩
  have : b = [] := by simpa using e
  subst this
  exact Shift.of (Sub.loose _ _ _) wn.le
 ·rw [OV.vW]
  have gn : g n = some (.row 1 ((a.map fun n => [I n]).map (List.map .v))) := by
   rw [OV.iJ] at wn
   rw [← mS]
   exact wn.oV (n, _) List.mem_cons_self
  simp -dsimp -implicitDefEqProofs only [go_sem, ↓reduceIte, Tryz.f60, gn]
  refine ⟨Nat.zero_lt_one, Nat.le_refl _, by omega, by omega, fun m hm => ?_⟩
  rw [List.take_of_length_le (by simp), ← List.map_append, ← List.map_append]
  exact fH (a ++ b) (aB.le_none wn.le hm) (aB.hZ (aB.aY (wn.fresh n (by rw [OV.iJ]; simp [bE])) wn.le)) (by rw [List.length_append])
@[go_sem] def aLU : List Nat := [0, 1, 2, 6, 7, 8, 9, 10, 11, 12, 13, 14, 22, 46, 56]
@[go_sem] def a3D : List Nat := [18, 30, 31, 47, 52, 66]
@[go_sem] def a3E : Marks := fun id => match id with | 9 => ([4], (.op 0 (.op 1 (.op 2 (.op 3 (.op 4 (.op 5 (.op 6 (.op 7 .nil)))))))), []) | 15 => ([4], (.op 0 (.op 1 (.op 2 (.op 3 (.op 4 (.op 5 (.op 6 (.op 7 .nil)))))))), []) | _ => ([], .nil, [])
theorem aTO {p : aE} (hp : p.ok) (f : Int) (hf : 0 ≤ f ∧ f < p.aI.length) (args : List Int) (na : eD args) (hal : args.length ≤ 12) (hl : ∀ F, p.aI[f.toNat]? = some F → (args.length : Int) = F.aW) :
  fL Tryz.prog 61 [.ip 1 [p.c] 0 0, I f, ints args] (.iI [ints (aHU (vC p 1 f (args.map fun n => [n]))).1, I (aHU (vC p 1 f (args.map fun n => [n]))).2.1, I (aHU (vC p 1 f (args.map fun n => [n]))).2.2]) := by
 obtain ⟨F, ef, hF1, hF2, hF3, hF4⟩ := kR hp hf
 have hlF := hl F ef
 rw [aE.aU]
 refine rP 73 aLU a3D a3E mix Tryz.func61 rfl (by kernel_rfl) (by simp) fun h => ?_
 simp -dsimp -implicitDefEqProofs only [go_sem, ↓reduceIte, Tryz.f61]
 intro nb zb
 refine ⟨Nat.zero_lt_one, ?_⟩
 have hbd : bP.row 4 [[Cell.v (.ip 1 [[eZ 3 aT.c p.aI]] 0 0), Cell.v (I 1), Cell.v (I 0), Cell.v (I 0)]] = dX p 1 0 0 := rfl
 rw [hbd]
 have hB0 : (aR h nb (dX p 1 0 0)) nb = some (dX p 1 0 0) := aG _ _ _
 have hBl : h.le (aR h nb (dX p 1 0 0)) := aB.aY zb (aB.le_refl _)
 generalize hgB : aR h nb (dX p 1 0 0) = hB at hB0 hBl ⊢
 refine aB2 (keep := aLU) (ib := a3D) (mk := a3E) mix (by kernel_rfl) (fun x : Nat × Option Nat => [(0, .ip 1 [[eZ 3 aT.c p.aI]] 0 0), (1, I f), (2, ints args), (9, .op nb 4 0 0), (10, jC 1 (args.take x.1).length x.2), (11, I x.1)]) (fun x => cK hB (.row 1 ((((args.take x.1).map fun n => [n]).map fun s => [ints s]).map (List.map .v))) x.2) (fun x => x.1 ≤ args.length ∧ fK hB (args.take x.1) x.2) (fun x => args.length - x.1) (0, none) ⟨by simp [cV, bZ, jC], by simp only [aO]; exact aB.jN (aB.le_refl _), Nat.zero_le _, by simp [fK]⟩ ?_
 rintro ⟨k, o⟩ ⟨hk, hos⟩
 simp only at hk hos ⊢
 rcases Nat.lt_or_ge k args.length with hlt | hge
 ·have ea : args[k]? = some args[k] := List.getElem?_eq_getElem hlt
  have hy : args.take (k + 1) = args.take k ++ [args[k]] := List.take_succ_eq_append_getElem hlt
  have hlk : (args.take k).length = k := by rw [List.length_take]; omega
  cases o with
  |none =>
   rw [bD] at hos
   rw [hos] at hy ⊢
   simp -dsimp -implicitDefEqProofs only [go_sem, ↓reduceIte, Tryz.f61, bO, aO, hlt, ea]
   intro _
   refine ⟨Nat.zero_lt_one, Nat.zero_lt_one, Nat.zero_lt_one, Nat.zero_lt_one, Nat.zero_lt_one, fun b hb => ⟨(k + 1, some b), ?_⟩⟩
   simp only [hy]
   refine ⟨⟨rfl, by rw [IntWalk.i64_in _ (by omega)]; rfl⟩, zR (A := []) (x := .sl 1 [[I args[k]]] true) (y := ints [args[k]]) (aG _ _ _) (Sub.loose _ _ _) (by rw [aK]; exact aB.le_refl _), ⟨by omega, hb⟩, by omega⟩
  |some n =>
   rw [aV] at hos
   simp -dsimp -implicitDefEqProofs only [go_sem, ↓reduceIte, Tryz.f61, aX, aJ, hlt, ea]
   intro _
   refine ⟨Nat.zero_lt_one, Nat.zero_lt_one, Nat.zero_lt_one, Nat.zero_lt_one, Nat.zero_lt_one, Nat.le_refl _, by omega, by omega, fun b hb => ⟨(k + 1, some b), ?_⟩⟩
   simp only [hy, aJ, aX, aV]
   refine ⟨⟨by rw [List.length_append]; rfl, by rw [IntWalk.i64_in _ (by omega)]; rfl⟩, zR (x := .sl 1 [[I args[k]]] true) (y := ints [args[k]]) (aG _ _ _) (Sub.loose _ _ _) ?_, ⟨by omega, hb.2⟩, by omega⟩
   have hl2 : (args.take k).length = ((args.take k).map fun n => [n]).length := by rw [List.length_map]
   rw [aK, List.map_append, show ((args.take k).map fun n => [n]) ++ [args[k]].map (fun n => [n]) = ((args.take k).map fun n => [n]) ++ [[args[k]]] from rfl, ← fI ints, hl2]
   exact kU hos
 have hk' : k = args.length := by omega
 subst hk'
 rw [List.take_length] at hos ⊢
 have hserA : ∀ s ∈ args.map (fun n => [n]), bN 1 s := fun s hs => by
  obtain ⟨n, hn, rfl⟩ := List.mem_map.1 hs
  refine ⟨rfl, fun x hx => ?_⟩
  rw [List.mem_singleton.1 hx]
  exact na n hn
 have hlA : ((args.map fun n => [n]).length : Int) = F.aW := by rw [List.length_map]; exact hlF
 have hnbB : ∀ {m : Nat}, hB m = none → ¬ nb = m := fun hm e => by rw [← e, hB0] at hm; cases hm
 cases o with
 |none =>
  rw [bD] at hos
  subst hos
  simp -dsimp -implicitDefEqProofs only [go_sem, ↓reduceIte, Tryz.f61, bO, aO, Nat.lt_irrefl, Int.lt_irrefl, ef]
  refine ⟨hf.1, by omega, ?_⟩
  have ho := aFS (run hp (by decide : 1 ≤ 1 ∧ 1 ≤ 1048576) 3001) hB nb 0 0 F [] f hB0 (by omega) (by omega) (by omega) (by rw [List.length_map] at hlA; rw [show (([] : List (List Int)).length : Int) = F.aW from hlA]; exact hF4) hf.1 (by omega) (by simp) (by simp)
  refine aH.fG (iH.sub (.cons (.refl _) (.cons (Sub.ip (by rw [List.getElem?_map, ef]; rfl) (by simp [aT.aU])) (.cons (Sub.loose _ _ _) .nil))) ho) ?_
  rintro r h' ⟨vs, t, c, rfl, rfl, hvl, hvs, a1, a2, a3⟩
  have hCl : h.le (aR hB nb (dX p 1 t c)) := aB.aY zb hBl
  have hCn : (aR hB nb (dX p 1 t c)) nb = some (.row 4 [[.v (.ip 1 [p.c] 0 0), .v (I 1), .v (I t), .v (I c)]]) := aG _ _ _
  generalize aR hB nb (dX p 1 t c) = hC at hCn hCl ⊢
  rw [cU, ← hF3] at a3
  simp -dsimp -implicitDefEqProofs only [go_sem, ↓reduceIte, Tryz.f61, hCn]
  have qT := aO8 (show jF (vC p 1 f _) vs t c from a3)
  refine ⟨fun hc => ⟨Nat.zero_lt_one, ?_⟩, fun hc => ⟨Nat.zero_lt_one, ?_⟩⟩
  ·try simp only [List.map_nil]
   rw [qT, if_neg hc]
   exact Shift.of (Sub.iI (.cons (Sub.loose _ _ _) (.cons (.refl _) (.cons (.refl _) .nil)))) hCl
  subst hc
  rw [if_pos rfl] at qT
  have hcv : (vs.map fun s => s.getD 0 0).length = vs.length := List.length_map _
  refine cS (keep := aLU) (ib := a3D) (mk := a3E) mix (by kernel_rfl) (fun x : Nat × Option Nat => [(9, .op nb 4 0 0), (12, c7 vs), (13, jC 1 ((vs.map fun s => s.getD 0 0).take x.1).length x.2), (14, I x.1)]) (fun x => cK hC (.row 1 ((((vs.map fun s => s.getD 0 0).take x.1).map fun n => [I n]).map (List.map .v))) x.2) (fun x => x.1 ≤ vs.length ∧ fK hC ((vs.map fun s => s.getD 0 0).take x.1) x.2) (fun x => vs.length - x.1) (0, none) ⟨by simp [cV, bZ, jC], by simp only [aO]; exact aB.le_refl _, Nat.zero_le _, by simp [fK]⟩ ?_
  rintro ⟨k, o⟩ ⟨hk, hos⟩
  simp only at hk hos ⊢
  rcases Nat.lt_or_ge k vs.length with hlt | hge
  ·have ea : vs[k]? = some vs[k] := List.getElem?_eq_getElem hlt
   have h0 := hvs _ (List.getElem_mem hlt)
   have e0 : (vs[k])[Int.toNat 0]? = some (vs[k].getD 0 0) := dS (by rw [h0.1]; decide)
   have h0l := h0.1
   have hy : (vs.map fun s => s.getD 0 0).take (k + 1) = (vs.map fun s => s.getD 0 0).take k ++ [(vs.map fun s => s.getD 0 0)[k]'(by omega)] := List.take_succ_eq_append_getElem (by omega)
   have hlk : ((vs.map fun s => s.getD 0 0).take k).length = k := by rw [List.length_take]; omega
   rw [List.getElem_map] at hy
   cases o with
   |none =>
    rw [bD] at hos
    rw [hos] at hy ⊢
    simp -dsimp -implicitDefEqProofs only [go_sem, ↓reduceIte, Tryz.f61, bO, aO, hlt, ea, e0]
    repeat' (with_reducible first | intro _ | refine And.intro ?_ ?_)
    all_goals try (first | omega | decide)
    rename_i b hb
    refine ⟨(k + 1, some b), ?_⟩
    simp only [hy]
    refine ⟨⟨rfl, ?_⟩, aB.le_refl _, ⟨by omega, hb⟩, by omega⟩
    rw [IntWalk.i64_in _ (by omega)]; rfl
   |some n =>
    rw [aV] at hos
    simp -dsimp -implicitDefEqProofs only [go_sem, ↓reduceIte, Tryz.f61, aX, aJ, hlt, ea, e0]
    repeat' (with_reducible first | intro _ | refine And.intro ?_ ?_)
    all_goals try (first | omega | decide | exact Nat.le_refl _)
    rename_i b hb
    refine ⟨(k + 1, some b), ?_⟩
    simp only [hy, aJ, aX, aV]
    refine ⟨⟨by rw [List.length_append]; rfl, ?_⟩, ?_, ⟨by omega, hb.2⟩, by omega⟩
    ·rw [IntWalk.i64_in _ (by omega)]; rfl
    ·rw [← fI]; exact kU hos
  ·have hk' : k = vs.length := by omega
   subst hk'
   rw [List.take_of_length_le (by omega)] at hos ⊢
   cases o with
   |none =>
    rw [bD] at hos
    simp -dsimp -implicitDefEqProofs only [go_sem, ↓reduceIte, Tryz.f61, bO, aO, Nat.lt_irrefl, Int.lt_irrefl, hCn]
    intro _
    try simp only [List.map_nil]
    rw [qT, hos]
    exact Shift.of (Sub.iI (.cons (Sub.loose _ _ _) (.cons (.refl _) (.cons (.refl _) .nil)))) hCl
   |some n =>
    rw [aV] at hos
    have jP : ¬ n = nb := fun e => by rw [e, hCn] at hos; cases hos
    have kN : ¬ nb = n := Ne.symm jP
    have gU : (n = nb) = False := eq_false jP
    have gV : (nb = n) = False := eq_false kN
    simp -dsimp -implicitDefEqProofs only [go_sem, ↓reduceIte, Tryz.f61, aX, aJ, Nat.lt_irrefl, Int.lt_irrefl, aA, gU, gV, hCn]
    intro _
    try simp only [List.map_nil]
    rw [qT]
    refine Shift.trans (l7 ((vs.map fun s => s.getD 0 0).map fun n => [I n]) hos (aB.le_refl _) (by simp [fY, fZ]) ?_) (cM hCl)
    simp [aD.fE, lV, List.take_of_length_le]
 |some n =>
  rw [aV] at hos
  simp -dsimp -implicitDefEqProofs only [go_sem, ↓reduceIte, Tryz.f61, aX, aJ, Nat.lt_irrefl, Int.lt_irrefl, ef]
  intro _
  refine ⟨hf.1, by omega, ?_⟩
  have hnn := hnbB hos
  refine aH.aYG rfl rfl hnn (by rw [List.length_map, List.length_map]) hos ?_
  have ho := aFS (run hp (by decide : 1 ≤ 1 ∧ 1 ≤ 1048576) 3001) (aR hB n .gone) nb 0 0 F (args.map fun n => [n]) f (by rw [aA _ _ _ _ hnn]; exact hB0) (by omega) (by omega) (by omega) (by rw [hlA]; exact hF4) hf.1 (by omega) hserA (by rw [List.length_map]; omega)
  refine iH.mono (iH.sub (.cons (.refl _) (.cons (Sub.ip (by rw [List.getElem?_map, ef]; rfl) (by simp [aT.aU])) (.cons (.refl _) .nil))) ho) ?_
  rintro r h' ⟨vs, t, c, rfl, rfl, hvl, hvs, a1, a2, a3⟩
  have hhn : h n = none := by rw [← hgB, aA _ _ _ _ (Ne.symm hnn)] at hos; exact hos
  have hCl : h.le (aR (aR hB n .gone) nb (dX p 1 t c)) := aB.aY zb (aB.aY hhn hBl)
  have hCn : (aR (aR hB n .gone) nb (dX p 1 t c)) nb = some (.row 4 [[.v (.ip 1 [p.c] 0 0), .v (I 1), .v (I t), .v (I c)]]) := aG _ _ _
  generalize aR (aR hB n .gone) nb (dX p 1 t c) = hC at hCn hCl ⊢
  rw [cU, ← hF3] at a3
  simp -dsimp -implicitDefEqProofs only [go_sem, ↓reduceIte, Tryz.f61, hCn]
  have qT := aO8 (show jF (vC p 1 f _) vs t c from a3)
  refine ⟨fun hc => ⟨Nat.zero_lt_one, ?_⟩, fun hc => ⟨Nat.zero_lt_one, ?_⟩⟩
  ·try simp only [List.map_nil]
   rw [qT, if_neg hc]
   exact Shift.of (Sub.iI (.cons (Sub.loose _ _ _) (.cons (.refl _) (.cons (.refl _) .nil)))) hCl
  subst hc
  rw [if_pos rfl] at qT
  have hcv : (vs.map fun s => s.getD 0 0).length = vs.length := List.length_map _
  refine cS (keep := aLU) (ib := a3D) (mk := a3E) mix (by kernel_rfl) (fun x : Nat × Option Nat => [(9, .op nb 4 0 0), (12, c7 vs), (13, jC 1 ((vs.map fun s => s.getD 0 0).take x.1).length x.2), (14, I x.1)]) (fun x => cK hC (.row 1 ((((vs.map fun s => s.getD 0 0).take x.1).map fun n => [I n]).map (List.map .v))) x.2) (fun x => x.1 ≤ vs.length ∧ fK hC ((vs.map fun s => s.getD 0 0).take x.1) x.2) (fun x => vs.length - x.1) (0, none) ⟨by simp [cV, bZ, jC], by simp only [aO]; exact aB.le_refl _, Nat.zero_le _, by simp [fK]⟩ ?_
  rintro ⟨k, o⟩ ⟨hk, hos⟩
  simp only at hk hos ⊢
  rcases Nat.lt_or_ge k vs.length with hlt | hge
  ·have ea : vs[k]? = some vs[k] := List.getElem?_eq_getElem hlt
   have h0 := hvs _ (List.getElem_mem hlt)
   have e0 : (vs[k])[Int.toNat 0]? = some (vs[k].getD 0 0) := dS (by rw [h0.1]; decide)
   have h0l := h0.1
   have hy : (vs.map fun s => s.getD 0 0).take (k + 1) = (vs.map fun s => s.getD 0 0).take k ++ [(vs.map fun s => s.getD 0 0)[k]'(by omega)] := List.take_succ_eq_append_getElem (by omega)
   have hlk : ((vs.map fun s => s.getD 0 0).take k).length = k := by rw [List.length_take]; omega
   rw [List.getElem_map] at hy
   cases o with
   |none =>
    rw [bD] at hos
    rw [hos] at hy ⊢
    simp -dsimp -implicitDefEqProofs only [go_sem, ↓reduceIte, Tryz.f61, bO, aO, hlt, ea, e0]
    repeat' (with_reducible first | intro _ | refine And.intro ?_ ?_)
    all_goals try (first | omega | decide)
    rename_i b hb
    refine ⟨(k + 1, some b), ?_⟩
    simp only [hy]
    refine ⟨⟨rfl, ?_⟩, aB.le_refl _, ⟨by omega, hb⟩, by omega⟩
    rw [IntWalk.i64_in _ (by omega)]; rfl
   |some n =>
    rw [aV] at hos
    simp -dsimp -implicitDefEqProofs only [go_sem, ↓reduceIte, Tryz.f61, aX, aJ, hlt, ea, e0]
    repeat' (with_reducible first | intro _ | refine And.intro ?_ ?_)
    all_goals try (first | omega | decide | exact Nat.le_refl _)
    rename_i b hb
    refine ⟨(k + 1, some b), ?_⟩
    simp only [hy, aJ, aX, aV]
    refine ⟨⟨by rw [List.length_append]; rfl, ?_⟩, ?_, ⟨by omega, hb.2⟩, by omega⟩
    ·rw [IntWalk.i64_in _ (by omega)]; rfl
    ·rw [← fI]; exact kU hos
  ·have hk' : k = vs.length := by omega
   subst hk'
   rw [List.take_of_length_le (by omega)] at hos ⊢
   cases o with
   |none =>
    rw [bD] at hos
    simp -dsimp -implicitDefEqProofs only [go_sem, ↓reduceIte, Tryz.f61, bO, aO, Nat.lt_irrefl, Int.lt_irrefl, hCn]
    intro _
    try simp only [List.map_nil]
    rw [qT, hos]
    exact Shift.of (Sub.iI (.cons (Sub.loose _ _ _) (.cons (.refl _) (.cons (.refl _) .nil)))) hCl
   |some n =>
    rw [aV] at hos
    have jP : ¬ n = nb := fun e => by rw [e, hCn] at hos; cases hos
    have kN : ¬ nb = n := Ne.symm jP
    have gU : (n = nb) = False := eq_false jP
    have gV : (nb = n) = False := eq_false kN
    simp -dsimp -implicitDefEqProofs only [go_sem, ↓reduceIte, Tryz.f61, aX, aJ, Nat.lt_irrefl, Int.lt_irrefl, aA, gU, gV, hCn]
    intro _
    try simp only [List.map_nil]
    rw [qT]
    refine Shift.trans (l7 ((vs.map fun s => s.getD 0 0).map fun n => [I n]) hos (aB.le_refl _) (by simp [fY, fZ]) ?_) (cM hCl)
    simp [aD.fE, lV, List.take_of_length_le]
set_option maxRecDepth 100000
open Go.Proofs
set_option linter.unusedVariables false
set_option linter.unusedSimpArgs false
@[go_sem] def aTP : List Nat := [0, 1, 2, 3, 8, 9, 10, 11, 12, 13, 31, 41]
@[go_sem] def a64 : List Nat := [32, 37, 50]
@[go_sem] def a65 : Marks := fun id => match id with | 4 => ([4], (.op 0 (.op 1 (.op 2 (.op 3 (.op 4 (.op 5 (.op 6 .nil))))))), []) | _ => ([], .nil, [])
theorem a3F {p : aE} (hp : p.ok) {sz : Nat} (hsz : 1 ≤ sz ∧ sz ≤ 1048576) (f : Int) (hf : 0 ≤ f ∧ f < p.aI.length) (args : List (List Int)) (ha : ∀ s ∈ args, bN sz s) (hl : ∀ F, p.aI[f.toNat]? = some F → (args.length : Int) = F.aW) :
  fL Tryz.prog 150 [.ip 1 [p.c] 0 0, I f, c7 args, I sz] (.iI [c7 (nO (vC p sz f args)).1, I (nO (vC p sz f args)).2.2]) := by
 obtain ⟨F, ef, hF1, hF2, hF3, hF4⟩ := kR hp hf
 have hlF := hl F ef
 rw [aE.aU]
 refine rP 53 aTP a64 a65 mix Tryz.func150 rfl (by kernel_rfl) (by simp) fun h => ?_
 simp -dsimp -implicitDefEqProofs only [go_sem, ↓reduceIte, Tryz.f150, ef]
 intro nb zb
 refine ⟨hf.1, by omega, ?_⟩
 refine aH.fG (iH.sub (.cons (.refl _) (.cons (Sub.ip (by rw [List.getElem?_map, ef]; rfl) (by simp [aT.aU])) (.cons (.refl _) .nil))) (aFS (run hp hsz 3001) (aR h nb (dX p sz 0 0)) nb 0 0 F args f (aG _ _ _) (by omega) (by omega) (by omega) (by rw [hlF]; exact hF4) hf.1 (by omega) ha (by omega))) ?_
 rintro r h' ⟨vs, t, c, rfl, rfl, hvl, hvs, a1, a2, a3⟩
 rw [cU, ← hF3] at a3
 have qT := aO6 (show jF (vC p sz f args) vs t c from a3)
 rw [aK]
 have hBn : (aR h nb (dX p sz t c)) nb = some (.row 4 [[.v (.ip 1 [p.c] 0 0), .v (I sz), .v (I t), .v (I c)]]) := aG _ _ _
 have hBl : h.le (aR h nb (dX p sz t c)) := aB.aY zb (aB.le_refl _)
 generalize aR h nb (dX p sz t c) = hB at hBn hBl ⊢
 simp -dsimp -implicitDefEqProofs only [go_sem, ↓reduceIte, Tryz.f150, hBn]
 refine ⟨fun hc => ⟨Nat.zero_lt_one, ?_⟩, fun hc => ⟨Nat.zero_lt_one, ?_⟩⟩
 ·rw [qT, if_neg hc]
  exact Shift.of (Sub.iI (.cons (Sub.loose _ _ _) (.cons (.refl _) .nil))) hBl
 subst hc
 rw [if_pos rfl] at qT
 refine cS (keep := aTP) (ib := a64) (mk := a65) mix (by kernel_rfl) (fun x : Nat × Option Nat => [(10, .op nb 4 0 0), (11, c7 vs), (12, jC 1 (vs.take x.1).length x.2), (13, I x.1)]) (fun x => cK hB (.row 1 (((vs.take x.1).map fun s => [ints s]).map (List.map .v))) x.2) (fun x => x.1 ≤ vs.length ∧ fK hB (vs.take x.1) x.2) (fun x => vs.length - x.1) (0, none) ⟨by simp [cV, bZ, jC], by simp only [aO]; exact aB.le_refl _, Nat.zero_le _, by simp [fK]⟩ ?_
 rintro ⟨k, o⟩ ⟨hk, hos⟩
 simp only at hk hos ⊢
 rcases Nat.lt_or_ge k vs.length with hlt | hge
 ·have ea : vs[k]? = some vs[k] := List.getElem?_eq_getElem hlt
  have hy : vs.take (k + 1) = vs.take k ++ [vs[k]] := List.take_succ_eq_append_getElem hlt
  have hlk : (vs.take k).length = k := by rw [List.length_take]; omega
  have hsk := hvs _ (List.getElem_mem hlt)
  cases o with
  |none =>
   rw [bD] at hos
   rw [hos] at hy ⊢
   simp -dsimp -implicitDefEqProofs only [go_sem, ↓reduceIte, Tryz.f150, bO, aO, hlt, ea]
   intro _
   first | refine aH.mk (uE vs[k] (by rw [hsk.1]; omega)) ?_ | refine aF.mk (uE vs[k] (by rw [hsk.1]; omega)) ?_ | refine aH.bS (uE vs[k] (by rw [hsk.1]; omega)) ?_ | refine aF.mk (bM.eQ (uE vs[k] (by rw [hsk.1]; omega))) ?_
   simp -dsimp -implicitDefEqProofs only [go_sem, ↓reduceIte, Tryz.f150]
   repeat' (with_reducible first | intro _ | refine And.intro ?_ ?_)
   all_goals try (first | omega | decide)
   rename_i b hb
   refine ⟨(k + 1, some b), ?_⟩
   simp only [hy]
   refine ⟨⟨rfl, ?_⟩, aB.le_refl _, ⟨by omega, hb⟩, by omega⟩
   rw [IntWalk.i64_in _ (by omega)]; rfl
  |some n =>
   rw [aV] at hos
   simp -dsimp -implicitDefEqProofs only [go_sem, ↓reduceIte, Tryz.f150, aX, aJ, hlt, ea]
   intro _
   first | refine aH.mk (uE vs[k] (by rw [hsk.1]; omega)) ?_ | refine aF.mk (uE vs[k] (by rw [hsk.1]; omega)) ?_ | refine aH.bS (uE vs[k] (by rw [hsk.1]; omega)) ?_ | refine aF.mk (bM.eQ (uE vs[k] (by rw [hsk.1]; omega))) ?_
   simp -dsimp -implicitDefEqProofs only [go_sem, ↓reduceIte, Tryz.f150]
   repeat' (with_reducible first | intro _ | refine And.intro ?_ ?_)
   all_goals try (first | omega | decide | exact Nat.le_refl _)
   rename_i b hb
   refine ⟨(k + 1, some b), ?_⟩
   simp only [hy, aJ, aX, aV]
   refine ⟨⟨by rw [List.length_append]; rfl, ?_⟩, ?_, ⟨by omega, hb.2⟩, by omega⟩
   ·rw [IntWalk.i64_in _ (by omega)]; rfl
   ·rw [← fI]; exact kU hos
 ·have hk' : k = vs.length := by omega
  subst hk'
  rw [List.take_length] at hos ⊢
  cases o with
  |none =>
   rw [bD] at hos
   simp -dsimp -implicitDefEqProofs only [go_sem, ↓reduceIte, Tryz.f150, bO, aO, Nat.lt_irrefl, Int.lt_irrefl]
   intro _
   rw [qT, hos]
   exact Shift.of (Sub.iI (.cons (Sub.loose _ _ _) (.cons (.refl _) .nil))) hBl
  |some n =>
   rw [aV] at hos
   simp -dsimp -implicitDefEqProofs only [go_sem, ↓reduceIte, Tryz.f150, aX, aJ, Nat.lt_irrefl, Int.lt_irrefl]
   intro _
   rw [qT]
   refine Shift.trans (l7 (vs.map fun s => [ints s]) hos (aB.le_refl _) (by simp [fY, fZ]) ?_) (cM hBl)
   simp [aD.fE, lV, List.take_of_length_le]
theorem aJT (n : Int) : x9 Tryz.prog 135 [I n, I 2] (QS (OS (oP I) 1 [n, 0])) := by
 refine yA 14 aLK aYJ aYK mix Tryz.func135 rfl (by kernel_rfl) (by simp) fun h => ?_
 simp -dsimp -implicitDefEqProofs only [go_sem, ↓reduceIte, Tryz.f135, n0, n2, a93]
 refine ⟨Nat.zero_lt_one, by decide, fun m hm => ⟨fun _ => ⟨by decide, ?_⟩, fun q => absurd (by decide) q⟩⟩
 rw [aK]
 exact w6 (c := I) (l := [n, 0]) hm
@[go_sem] def a3G : List Nat := [0, 1, 4, 5]
@[go_sem] def bHR : List Nat := []
@[go_sem] def bHS : Marks := fun _ => ([], .nil, [])
theorem aFU (n i : Nat) (hn : n ≤ 1048576) (hi : i < n) : fL Tryz.prog 122 [I n, I i] (ints (gF n i)) := by
 have e1 : (List.replicate n [aD.int .i64 0])[i]? = some [aD.int .i64 0] := by rw [List.getElem?_replicate, if_pos hi]
 refine rP 12 a3G bHR bHS mix Tryz.func122 rfl (by kernel_rfl) (by simp) fun h => ?_
 simp -dsimp -implicitDefEqProofs only [go_sem, ↓reduceIte, Tryz.f122, e1, Int.toNat_natCast]
 refine ⟨Nat.zero_lt_one, Nat.le_refl _, by omega, by omega, fun m hm => ⟨by omega, ?_⟩⟩
 rw [aK, rL, vB I]
 exact fH (gF n i) hm (aB.le_refl _) (by simp [gF])
theorem eU.aYT {h g : aB} {n : Nat} {o : bP} (w : eU h [(n, o)] g) : h n = none ∧ g = aR h n o := by
 refine ⟨w.fresh n (by simp [bE]), ?_⟩
 funext q
 rw [c6]
 split
 ·rename_i e; rw [e]; exact w.oV (n, o) List.mem_cons_self
 ·rename_i e; exact w.upto q (by simp [bE, e])
@[go_sem] def aTQ : List Nat := [0, 1, 2, 6, 7, 8, 9, 14, 25]
@[go_sem] def a66 : List Nat := [10, 34]
@[go_sem] def a67 : Marks := fun _ => ([], .nil, [])
theorem aCM (args dir : List Int) (hd : dir.length = args.length) (hal : args.length ≤ 1048576) : fL Tryz.prog 151 [ints args, ints dir, I 1] (c7 (cY args dir)) := by
 have hc := zS hd
 refine rP 37 aTQ a66 a67 mix Tryz.func151 rfl (by kernel_rfl) (by simp) fun h => ?_
 simp -dsimp -implicitDefEqProofs only [go_sem, ↓reduceIte, Tryz.f151]
 refine ⟨Nat.zero_lt_one, ?_⟩
 refine aB2 (keep := aTQ) (ib := a66) (mk := a67) mix (by kernel_rfl) (fun x : Nat × Option Nat => [(0, ints args), (1, ints dir), (2, I 1), (7, jC 1 ((cY args dir).take x.1).length x.2), (8, I x.1)]) (fun x => cK h (.row 1 ((((cY args dir).take x.1).map fun s => [ints s]).map (List.map .v))) x.2) (fun x => x.1 ≤ args.length ∧ fK h ((cY args dir).take x.1) x.2) (fun x => args.length - x.1) (0, none) ⟨by simp [cV, bZ, jC], by simp only [aO]; exact aB.jN (aB.le_refl _), Nat.zero_le _, by simp [fK]⟩ ?_
 rintro ⟨k, o⟩ ⟨hk, hos⟩
 simp only at hk hos ⊢
 rcases Nat.lt_or_ge k args.length with hlt | hge
 ·have ea : args[k]? = some args[k] := List.getElem?_eq_getElem hlt
  have ed : dir[k]? = some (dir[k]'(by omega)) := List.getElem?_eq_getElem (by omega)
  have hy : (cY args dir).take (k + 1) = (cY args dir).take k ++ [(cY args dir)[k]'(by omega)] := List.take_succ_eq_append_getElem (by omega)
  have hv : (cY args dir)[k]'(by omega) = [args[k], dir[k]'(by omega)] := by simp [cY]
  have hlk : ((cY args dir).take k).length = k := by rw [List.length_take]; omega
  rw [hv] at hy
  cases o with
  |none =>
   rw [bD] at hos
   rw [hos] at hy ⊢
   simp -dsimp -implicitDefEqProofs only [go_sem, ↓reduceIte, Tryz.f151, bO, aO, hlt, ea, ed, w2]
   intro _
   refine aH.wn0 (aJT args[k]) ?_
   rintro r l g ⟨y, oy, rfl, rfl⟩ wn
   rcases oy.aOJ with ⟨_, q⟩ | ⟨m, rfl⟩
   ·cases q
   rw [OV.vW]
   rw [OV.iJ, oW, mS] at wn
   obtain ⟨z_m, rfl⟩ := wn.aYT
   simp -dsimp -implicitDefEqProofs only [go_sem, ↓reduceIte, Tryz.f151, ea, ed, w2, n0, n1, n2, aK]
   refine ⟨fun _ => ⟨by omega, by decide, Nat.zero_lt_one, Nat.zero_lt_one, Nat.zero_lt_one, ?_⟩, fun q => absurd (by decide) q⟩
   intro b aL
   have fJ : ¬ b = m := by first | exact aL.1 | exact aL | exact aL.2.1 | exact aL.2 | exact aL.2.2.1 | exact aL.2.2 | exact aL.2.2.2.1 | exact aL.2.2.2 | exact aL.2.2.2.2.1 | exact aL.2.2.2.2 | exact aL.2.2.2.2.2.1 | exact aL.2.2.2.2.2 | exact aL.2.2.2.2.2.2.1 | exact aL.2.2.2.2.2.2 | exact aL.2.2.2.2.2.2.2.1 | exact aL.2.2.2.2.2.2.2 | exact aL.2.2.2.2.2.2.2.2.1 | exact aL.2.2.2.2.2.2.2.2 | exact aL.2.2.2.2.2.2.2.2.2.1 | exact aL.2.2.2.2.2.2.2.2.2 | exact aL.2.2.2.2.2.2.2.2.2.2.1 | exact aL.2.2.2.2.2.2.2.2.2.2 | exact aL.2.2.2.2.2.2.2.2.2.2.2.1 | exact aL.2.2.2.2.2.2.2.2.2.2.2 | exact aL.2.2.2.2.2.2.2.2.2.2.2.2.1 | exact aL.2.2.2.2.2.2.2.2.2.2.2.2 | exact aL.2.2.2.2.2.2.2.2.2.2.2.2.2.1 | exact aL.2.2.2.2.2.2.2.2.2.2.2.2.2
   have kF : (b = m) = False := eq_false fJ
   have kG : (m = b) = False := eq_false (Ne.symm fJ)
   have lC : ¬ m = b := Ne.symm fJ
   have z_b : h b = none := by first | exact aL.1 | exact aL | exact aL.2.1 | exact aL.2 | exact aL.2.2.1 | exact aL.2.2 | exact aL.2.2.2.1 | exact aL.2.2.2 | exact aL.2.2.2.2.1 | exact aL.2.2.2.2 | exact aL.2.2.2.2.2.1 | exact aL.2.2.2.2.2 | exact aL.2.2.2.2.2.2.1 | exact aL.2.2.2.2.2.2 | exact aL.2.2.2.2.2.2.2.1 | exact aL.2.2.2.2.2.2.2 | exact aL.2.2.2.2.2.2.2.2.1 | exact aL.2.2.2.2.2.2.2.2 | exact aL.2.2.2.2.2.2.2.2.2.1 | exact aL.2.2.2.2.2.2.2.2.2 | exact aL.2.2.2.2.2.2.2.2.2.2.1 | exact aL.2.2.2.2.2.2.2.2.2.2 | exact aL.2.2.2.2.2.2.2.2.2.2.2.1 | exact aL.2.2.2.2.2.2.2.2.2.2.2 | exact aL.2.2.2.2.2.2.2.2.2.2.2.2.1 | exact aL.2.2.2.2.2.2.2.2.2.2.2.2 | exact aL.2.2.2.2.2.2.2.2.2.2.2.2.2.1 | exact aL.2.2.2.2.2.2.2.2.2.2.2.2.2
   refine ⟨(k + 1, some b), ?_⟩
   simp only [hy]
   refine ⟨⟨rfl, by rw [IntWalk.i64_in _ (by omega)]; rfl⟩, aCJ (m := m) (b := b) [] [args[k], dir[k]'(by omega)] (by rw [aA _ _ _ _ lC, aG]; rfl) (by rw [aG]; rfl) fJ (by simp only [aJ]; exact (j7 (by repeat' (first | exact iM _ _ | refine j8 (by simp only [c6, ↓reduceIte, eq_self, if_true, kF, kG]) ?_ | refine gB (by first | exact .inr (by assumption) | exact .inl (by simp)) ?_)))), ⟨by omega, z_b⟩, by omega⟩
  |some n =>
   rw [aV] at hos
   simp -dsimp -implicitDefEqProofs only [go_sem, ↓reduceIte, Tryz.f151, aX, aJ, hlt, ea, ed, w2]
   intro _
   refine aH.wn1 (aJT args[k]) hos ?_
   rintro r l g ⟨y, oy, rfl, rfl⟩ wn g_n
   rcases oy.aOJ with ⟨_, q⟩ | ⟨m, rfl⟩
   ·cases q
   rw [OV.vW]
   rw [OV.iJ, oW, mS] at wn
   obtain ⟨z_m, rfl⟩ := wn.aYT
   have aCK : ¬ n = m := fun e => by rw [e, aG] at g_n; cases g_n
   have uD : ¬ m = n := Ne.symm aCK
   have m8 : (n = m) = False := eq_false aCK
   have m7 : (m = n) = False := eq_false uD
   simp -dsimp -implicitDefEqProofs only [go_sem, ↓reduceIte, Tryz.f151, ea, ed, w2, n0, n1, n2, aK, aA, m8, m7]
   refine ⟨fun _ => ⟨by omega, by decide, Nat.zero_lt_one, Nat.zero_lt_one, Nat.zero_lt_one, Nat.le_refl _, by omega, by omega, ?_⟩, fun q => absurd (by decide) q⟩
   intro b aL
   have nA : ¬ b = n := by first | exact aL.1 | exact aL | exact aL.2.1 | exact aL.2 | exact aL.2.2.1 | exact aL.2.2 | exact aL.2.2.2.1 | exact aL.2.2.2 | exact aL.2.2.2.2.1 | exact aL.2.2.2.2 | exact aL.2.2.2.2.2.1 | exact aL.2.2.2.2.2 | exact aL.2.2.2.2.2.2.1 | exact aL.2.2.2.2.2.2 | exact aL.2.2.2.2.2.2.2.1 | exact aL.2.2.2.2.2.2.2 | exact aL.2.2.2.2.2.2.2.2.1 | exact aL.2.2.2.2.2.2.2.2 | exact aL.2.2.2.2.2.2.2.2.2.1 | exact aL.2.2.2.2.2.2.2.2.2 | exact aL.2.2.2.2.2.2.2.2.2.2.1 | exact aL.2.2.2.2.2.2.2.2.2.2 | exact aL.2.2.2.2.2.2.2.2.2.2.2.1 | exact aL.2.2.2.2.2.2.2.2.2.2.2 | exact aL.2.2.2.2.2.2.2.2.2.2.2.2.1 | exact aL.2.2.2.2.2.2.2.2.2.2.2.2 | exact aL.2.2.2.2.2.2.2.2.2.2.2.2.2.1 | exact aL.2.2.2.2.2.2.2.2.2.2.2.2.2
   have kH : (b = n) = False := eq_false nA
   have kI : (n = b) = False := eq_false (Ne.symm nA)
   have nP : ¬ n = b := Ne.symm nA
   have fJ : ¬ b = m := by first | exact aL.1 | exact aL | exact aL.2.1 | exact aL.2 | exact aL.2.2.1 | exact aL.2.2 | exact aL.2.2.2.1 | exact aL.2.2.2 | exact aL.2.2.2.2.1 | exact aL.2.2.2.2 | exact aL.2.2.2.2.2.1 | exact aL.2.2.2.2.2 | exact aL.2.2.2.2.2.2.1 | exact aL.2.2.2.2.2.2 | exact aL.2.2.2.2.2.2.2.1 | exact aL.2.2.2.2.2.2.2 | exact aL.2.2.2.2.2.2.2.2.1 | exact aL.2.2.2.2.2.2.2.2 | exact aL.2.2.2.2.2.2.2.2.2.1 | exact aL.2.2.2.2.2.2.2.2.2 | exact aL.2.2.2.2.2.2.2.2.2.2.1 | exact aL.2.2.2.2.2.2.2.2.2.2 | exact aL.2.2.2.2.2.2.2.2.2.2.2.1 | exact aL.2.2.2.2.2.2.2.2.2.2.2 | exact aL.2.2.2.2.2.2.2.2.2.2.2.2.1 | exact aL.2.2.2.2.2.2.2.2.2.2.2.2 | exact aL.2.2.2.2.2.2.2.2.2.2.2.2.2.1 | exact aL.2.2.2.2.2.2.2.2.2.2.2.2.2
   have kF : (b = m) = False := eq_false fJ
   have kG : (m = b) = False := eq_false (Ne.symm fJ)
   have lC : ¬ m = b := Ne.symm fJ
   have z_b : h b = none := by first | exact aL.1 | exact aL | exact aL.2.1 | exact aL.2 | exact aL.2.2.1 | exact aL.2.2 | exact aL.2.2.2.1 | exact aL.2.2.2 | exact aL.2.2.2.2.1 | exact aL.2.2.2.2 | exact aL.2.2.2.2.2.1 | exact aL.2.2.2.2.2 | exact aL.2.2.2.2.2.2.1 | exact aL.2.2.2.2.2.2 | exact aL.2.2.2.2.2.2.2.1 | exact aL.2.2.2.2.2.2.2 | exact aL.2.2.2.2.2.2.2.2.1 | exact aL.2.2.2.2.2.2.2.2 | exact aL.2.2.2.2.2.2.2.2.2.1 | exact aL.2.2.2.2.2.2.2.2.2 | exact aL.2.2.2.2.2.2.2.2.2.2.1 | exact aL.2.2.2.2.2.2.2.2.2.2 | exact aL.2.2.2.2.2.2.2.2.2.2.2.1 | exact aL.2.2.2.2.2.2.2.2.2.2.2 | exact aL.2.2.2.2.2.2.2.2.2.2.2.2.1 | exact aL.2.2.2.2.2.2.2.2.2.2.2.2 | exact aL.2.2.2.2.2.2.2.2.2.2.2.2.2.1 | exact aL.2.2.2.2.2.2.2.2.2.2.2.2.2
   refine ⟨(k + 1, some b), ?_⟩
   simp only [hy, aJ, aX, aV]
   refine ⟨⟨by rw [List.length_append]; rfl, by rw [IntWalk.i64_in _ (by omega)]; rfl⟩, aCJ (m := m) (b := b) ((cY args dir).take k) [args[k], dir[k]'(by omega)] (by simp only [c6, kF, kH, kG, m7, kI, m8, ↓reduceIte]; rfl) ?_ fJ (j7 (by repeat' (first | exact iM _ _ | refine j8 (by simp only [c6, ↓reduceIte, eq_self, if_true, kF, kH, kG, m7, kI, m8]) ?_ | refine gB (by first | exact .inr (by assumption) | exact .inl (by simp)) ?_))), ⟨by omega, z_b⟩, by omega⟩
   rw [aG, List.take_of_length_le (by simp)]
   rfl
 ·have hk' : k = args.length := by omega
  subst hk'
  rw [List.take_of_length_le (by omega)] at hos ⊢
  cases o with
  |none =>
   rw [bD] at hos
   simp -dsimp -implicitDefEqProofs only [go_sem, ↓reduceIte, Tryz.f151, bO, aO, Nat.lt_irrefl, Int.lt_irrefl]
   intro _
   rw [hos]
   exact Shift.of (Sub.loose _ _ _) (aB.le_refl _)
  |some n =>
   rw [aV] at hos
   simp -dsimp -implicitDefEqProofs only [go_sem, ↓reduceIte, Tryz.f151, aX, aJ, Nat.lt_irrefl, Int.lt_irrefl]
   intro _
   exact l3 _ hos (aB.le_refl _) rfl
@[go_sem] def a3H : List Nat := [0, 1, 2, 3, 4, 10, 11]
@[go_sem] def bHT : List Nat := []
@[go_sem] def bHU : Marks := fun _ => ([], .nil, [])
theorem aQ6 {p : aE} (hp : p.ok) (f : Int) (hf : 0 ≤ f ∧ f < p.aI.length) (args dir : List Int) (hd : dir.length = args.length) (hal : args.length ≤ 1048576) (na : eD args) (nd : eD dir) (hl : ∀ F, p.aI[f.toNat]? = some F → (args.length : Int) = F.aW) :
  fL Tryz.prog 121 [.ip 1 [p.c] 0 0, I f, ints args, ints dir, I 1] (.iI [c7 (nO (vC p 2 f (cY args dir))).1, I (nO (vC p 2 f (cY args dir))).2.2]) := by
 have qT := a3F hp (sz := 2) (by decide) f hf (cY args dir) (pS na nd) (fun F hF => by rw [zS hd]; exact hl F hF)
 rw [show (((2 : Nat) : Int)) = 2 from rfl, aE.aU] at qT
 rw [aE.aU]
 refine fT 23 a3H bHT bHU mix Tryz.func121 rfl (by kernel_rfl) (by simp) fun h => ?_
 simp -dsimp -implicitDefEqProofs only [go_sem, ↓reduceIte, Tryz.f121, w2]
 first | refine aH.mk (aCM args dir hd hal) ?_ | refine aF.mk (aCM args dir hd hal) ?_ | refine aH.bS (aCM args dir hd hal) ?_ | refine aF.mk (bM.eQ (aCM args dir hd hal)) ?_
 simp -dsimp -implicitDefEqProofs only [go_sem, ↓reduceIte, Tryz.f121]
 rw [w2]
 first | refine aH.mk (qT) ?_ | refine aF.mk (qT) ?_ | refine aH.bS (qT) ?_ | refine aF.mk (bM.eQ (qT)) ?_
 simp -dsimp -implicitDefEqProofs only [go_sem, ↓reduceIte, Tryz.f121]
end Go.Hl

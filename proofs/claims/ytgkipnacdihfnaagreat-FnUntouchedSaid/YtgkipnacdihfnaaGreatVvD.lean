/-
  Contracts of functions and laws of the layer over the walk.
-/
import Derived.Test.YtgkipnacdihfnaaGreatVvC
import Derived.Test.YtgkipnacdihfnaaGreatHlD
import Derived.Test.YtgkipnacdihfnaaGreatVvB
import Derived.Test.YtgkipnacdihfnaaGreatGn
namespace Go.Hl
set_option maxRecDepth 100000
open Go.Proofs
set_option linter.unusedVariables false
set_option linter.unusedSimpArgs false
theorem aXS {e : aB} (h : e.aK.length = 1) : e.aK = [e.mJ 0] := by
 have h0 := aB.tD (e := e) (i := 0) (by omega)
 rw [h0]
 apply List.ext_getElem (by simp [h])
 intro i hi hi2
 match i, hi2 with
 |0, _ => rfl
theorem aXT {e : aB} (h : e.aK.length = 2) : e.aK = [e.mJ 0, e.mJ 1] := by
 have h0 := aB.tD (e := e) (i := 0) (by omega)
 have h1 := aB.tD (e := e) (i := 1) (by omega)
 rw [h0, h1]
 apply List.ext_getElem (by simp [h])
 intro i hi hi2
 match i, hi2 with
 |0, _ => rfl
 |1, _ => rfl
theorem a8I {p : aE} {sz n st : Nat} {e : aB} {env : List (List Int)} (h3 : ¬ st = 3000) (hk : e.aO = 7) (hl : e.aK.length = 1) : iU p sz (n + 1) st e env = (iU p sz n (st + 1) (e.mJ 0) env).andThen fun v t => .ok (nI v 1000002, t) := by
 rw [oH h3 (by omega), aXS hl, hk]
 simp only [lJ, Out.lF, Out.andThen_ok, opE]
 rfl
theorem zI {p : aE} {sz n st : Nat} {e : aB} {env : List (List Int)} (h3 : ¬ st = 3000) (hk : e.aO = 3 ∨ e.aO = 4 ∨ e.aO = 5 ∨ e.aO = 6) (hl : e.aK.length = 2) : iU p sz (n + 1) st e env = (iU p sz n (st + 1) (e.mJ 0) env).andThen fun a t => (iU p sz n t (e.mJ 1) env).andThen fun b t => opE e.aO [a, b] t := by
 rw [oH h3 (by omega), aXT hl]
 simp only [lJ, Out.lF, Out.andThen_ok]
theorem a8J {p : aE} (hp : p.ok) {sz n : Nat} (hsz : 1 ≤ sz ∧ sz ≤ 1048576) (hv : rC p sz n) (h : aA) (nb st : Nat) (e : aB) (env : List (List Int)) (funcs : Int) (hb : h nb = some (eN p sz st 0)) (hst : st < 3000) (hn : 3001 ≤ n + 1 + st)
  (hok : e.ok p funcs env.length) (eH : 0 ≤ funcs) (hf : funcs ≤ p.aI.length) (henv : ∀ s ∈ env, cV sz s) (hel : env.length ≤ 412 + st) (hk : e.aO = 7) :
  fF Tryz.prog 116 [.op nb 4 0 0, .ip 5 [e.c] 0 0, fE env] h (RnQ h nb p sz st 0 (iU p sz (n + 1) st e env)) := by
 have hb' := hb
 unfold eN at hb'
 have e3 : ((st : Int) = 3000) = False := eq_false (by omega)
 have ew : IntKind.i64.wrap ((st : Int) + 1) = ((st + 1 : Nat) : Int) := by rw [IntWalk.i64_in _ (by omega)]; rfl
 have hnode := (aB.cR _ _ _ _).1 hok
 have h3 : ¬ st = 3000 := by omega
 have hlen := dB hok (by omega)
 rw [hk, show dN 7 = 1 from rfl] at hlen
 have g0 : e.aK[Int.toNat 0]? = some (e.mJ 0) := aB.gE (by omega)
 have o0 := aB.eP hok (i := 0) (by omega)
 rw [gT (by omega)] at o0
 rw [aB.aR]
 refine gK 186 oU xO xP mix Tryz.func116 rfl (by kernel_rfl) (by simp) ?_
 simp -dsimp -implicitDefEqProofs only [go_sem, ↓reduceIte, Tryz.f116, hb', e3, ew, hk, g0]
 refine ⟨by omega, ?_⟩
 refine aH.eM (hv.at g0 (aT h nb (eN p sz (st + 1) 0)) nb (st + 1) 0 env funcs (aG _ _ _) (by omega) (by omega) o0 eH hf henv (by omega)) ?_
 rintro r h' ⟨s1, t1, c1, rfl, rfl, kM, a1, a2, a3⟩
 simp -dsimp -implicitDefEqProofs only [go_sem, ↓reduceIte, Tryz.f116]
 first | refine aH.mk (rA s1 1000002 (by unfold kI; omega) (by rw [kM.1]; omega) kM.2) ?_ | refine aF.mk (rA s1 1000002 (by unfold kI; omega) (by rw [kM.1]; omega) kM.2) ?_ | refine aH.bY (rA s1 1000002 (by unfold kI; omega) (by rw [kM.1]; omega) kM.2) ?_ | refine aF.mk (bQ.fJ (rA s1 1000002 (by unfold kI; omega) (by rw [kM.1]; omega) kM.2)) ?_
 simp -dsimp -implicitDefEqProofs only [go_sem, ↓reduceIte, Tryz.f116]
 refine ⟨_, aT h nb (eN p sz t1 c1), cI (by rw [aM]; exact aA.le_refl _), _, t1, c1, rfl, rfl, mP _ kM, by omega, a2, ?_⟩
 rw [a8I h3 hk (by omega)]
 exact a3.dY (gR _ _ _)
theorem a8K {p : aE} (hp : p.ok) {sz n : Nat} (hsz : 1 ≤ sz ∧ sz ≤ 1048576) (hv : rC p sz n) (h : aA) (nb st : Nat) (e : aB) (env : List (List Int)) (funcs : Int) (hb : h nb = some (eN p sz st 0)) (hst : st < 3000) (hn : 3001 ≤ n + 1 + st)
  (hok : e.ok p funcs env.length) (eH : 0 ≤ funcs) (hf : funcs ≤ p.aI.length) (henv : ∀ s ∈ env, cV sz s) (hel : env.length ≤ 412 + st) (hk : e.aO = 3) :
  fF Tryz.prog 116 [.op nb 4 0 0, .ip 5 [e.c] 0 0, fE env] h (RnQ h nb p sz st 0 (iU p sz (n + 1) st e env)) := by
 have hb' := hb
 unfold eN at hb'
 have e3 : ((st : Int) = 3000) = False := eq_false (by omega)
 have ew : IntKind.i64.wrap ((st : Int) + 1) = ((st + 1 : Nat) : Int) := by rw [IntWalk.i64_in _ (by omega)]; rfl
 have hnode := (aB.cR _ _ _ _).1 hok
 have h3 : ¬ st = 3000 := by omega
 have hlen := dB hok (by omega)
 rw [hk, show dN 3 = 2 from rfl] at hlen
 have g0 : e.aK[Int.toNat 0]? = some (e.mJ 0) := aB.gE (by omega)
 have g1 : e.aK[Int.toNat 1]? = some (e.mJ 1) := aB.gE (by omega)
 have o0 := aB.eP hok (i := 0) (by omega)
 have o1 := aB.eP hok (i := 1) (by omega)
 rw [gT (by omega)] at o0 o1
 rw [aB.aR]
 refine gK 186 oU xO xP mix Tryz.func116 rfl (by kernel_rfl) (by simp) ?_
 simp -dsimp -implicitDefEqProofs only [go_sem, ↓reduceIte, Tryz.f116, hb', e3, ew, hk, g0]
 refine ⟨by omega, ?_⟩
 refine aH.eM (hv.at g0 (aT h nb (eN p sz (st + 1) 0)) nb (st + 1) 0 env funcs (aG _ _ _) (by omega) (by omega) o0 eH hf henv (by omega)) ?_
 rintro r h' ⟨s1, t1, c1, rfl, rfl, kM, a1, a2, a3⟩
 simp -dsimp -implicitDefEqProofs only [go_sem, ↓reduceIte, Tryz.f116, g1]
 refine ⟨by omega, ?_⟩
 rw [aM]
 refine aH.eM (hv.at g1 (aT h nb (eN p sz t1 c1)) nb t1 c1 env funcs (aG _ _ _) (by omega) (by omega) o1 eH hf henv (by omega)) ?_
 rintro r h' ⟨s2, t2, c2, rfl, rfl, oI, b1, b2, b3⟩
 rw [aM]
 simp -dsimp -implicitDefEqProofs only [go_sem, ↓reduceIte, Tryz.f116, hk]
 first | refine aH.mk (yP s1 s2 (by rw [kM.1, oI.1]) (by rw [kM.1]; omega) kM.2 oI.2) ?_ | refine aF.mk (yP s1 s2 (by rw [kM.1, oI.1]) (by rw [kM.1]; omega) kM.2 oI.2) ?_ | refine aH.bY (yP s1 s2 (by rw [kM.1, oI.1]) (by rw [kM.1]; omega) kM.2 oI.2) ?_ | refine aF.mk (bQ.fJ (yP s1 s2 (by rw [kM.1, oI.1]) (by rw [kM.1]; omega) kM.2 oI.2)) ?_
 simp -dsimp -implicitDefEqProofs only [go_sem, ↓reduceIte, Tryz.f116]
 refine ⟨_, aT h nb (eN p sz t2 c2), cI (aA.le_refl _), _, t2, c2, rfl, rfl, vJ kM oI, by omega, b2, ?_⟩
 rw [zI h3 (by omega) (by omega), hk]
 exact a3.dY (b3.dY (gR _ _ _))
theorem a8L {p : aE} (hp : p.ok) {sz n : Nat} (hsz : 1 ≤ sz ∧ sz ≤ 1048576) (hv : rC p sz n) (h : aA) (nb st : Nat) (e : aB) (env : List (List Int)) (funcs : Int) (hb : h nb = some (eN p sz st 0)) (hst : st < 3000) (hn : 3001 ≤ n + 1 + st)
  (hok : e.ok p funcs env.length) (eH : 0 ≤ funcs) (hf : funcs ≤ p.aI.length) (henv : ∀ s ∈ env, cV sz s) (hel : env.length ≤ 412 + st) (hk : e.aO = 4) :
  fF Tryz.prog 116 [.op nb 4 0 0, .ip 5 [e.c] 0 0, fE env] h (RnQ h nb p sz st 0 (iU p sz (n + 1) st e env)) := by
 have hb' := hb
 unfold eN at hb'
 have e3 : ((st : Int) = 3000) = False := eq_false (by omega)
 have ew : IntKind.i64.wrap ((st : Int) + 1) = ((st + 1 : Nat) : Int) := by rw [IntWalk.i64_in _ (by omega)]; rfl
 have hnode := (aB.cR _ _ _ _).1 hok
 have h3 : ¬ st = 3000 := by omega
 have hlen := dB hok (by omega)
 rw [hk, show dN 4 = 2 from rfl] at hlen
 have g0 : e.aK[Int.toNat 0]? = some (e.mJ 0) := aB.gE (by omega)
 have g1 : e.aK[Int.toNat 1]? = some (e.mJ 1) := aB.gE (by omega)
 have o0 := aB.eP hok (i := 0) (by omega)
 have o1 := aB.eP hok (i := 1) (by omega)
 rw [gT (by omega)] at o0 o1
 rw [aB.aR]
 refine gK 186 oU xO xP mix Tryz.func116 rfl (by kernel_rfl) (by simp) ?_
 simp -dsimp -implicitDefEqProofs only [go_sem, ↓reduceIte, Tryz.f116, hb', e3, ew, hk, g0]
 refine ⟨by omega, ?_⟩
 refine aH.eM (hv.at g0 (aT h nb (eN p sz (st + 1) 0)) nb (st + 1) 0 env funcs (aG _ _ _) (by omega) (by omega) o0 eH hf henv (by omega)) ?_
 rintro r h' ⟨s1, t1, c1, rfl, rfl, kM, a1, a2, a3⟩
 simp -dsimp -implicitDefEqProofs only [go_sem, ↓reduceIte, Tryz.f116, g1]
 refine ⟨by omega, ?_⟩
 rw [aM]
 refine aH.eM (hv.at g1 (aT h nb (eN p sz t1 c1)) nb t1 c1 env funcs (aG _ _ _) (by omega) (by omega) o1 eH hf henv (by omega)) ?_
 rintro r h' ⟨s2, t2, c2, rfl, rfl, oI, b1, b2, b3⟩
 rw [aM]
 simp -dsimp -implicitDefEqProofs only [go_sem, ↓reduceIte, Tryz.f116, hk]
 first | refine aH.mk (aK8 s1 s2 (by rw [kM.1, oI.1]) (by rw [kM.1]; omega) kM.2 oI.2) ?_ | refine aF.mk (aK8 s1 s2 (by rw [kM.1, oI.1]) (by rw [kM.1]; omega) kM.2 oI.2) ?_ | refine aH.bY (aK8 s1 s2 (by rw [kM.1, oI.1]) (by rw [kM.1]; omega) kM.2 oI.2) ?_ | refine aF.mk (bQ.fJ (aK8 s1 s2 (by rw [kM.1, oI.1]) (by rw [kM.1]; omega) kM.2 oI.2)) ?_
 simp -dsimp -implicitDefEqProofs only [go_sem, ↓reduceIte, Tryz.f116]
 refine ⟨_, aT h nb (eN p sz t2 c2), cI (aA.le_refl _), _, t2, c2, rfl, rfl, zC kM oI, by omega, b2, ?_⟩
 rw [zI h3 (by omega) (by omega), hk]
 exact a3.dY (b3.dY (gR _ _ _))
theorem a8M {p : aE} (hp : p.ok) {sz n : Nat} (hsz : 1 ≤ sz ∧ sz ≤ 1048576) (hv : rC p sz n) (h : aA) (nb st : Nat) (e : aB) (env : List (List Int)) (funcs : Int) (hb : h nb = some (eN p sz st 0)) (hst : st < 3000) (hn : 3001 ≤ n + 1 + st)
  (hok : e.ok p funcs env.length) (eH : 0 ≤ funcs) (hf : funcs ≤ p.aI.length) (henv : ∀ s ∈ env, cV sz s) (hel : env.length ≤ 412 + st) (hk : e.aO = 5) :
  fF Tryz.prog 116 [.op nb 4 0 0, .ip 5 [e.c] 0 0, fE env] h (RnQ h nb p sz st 0 (iU p sz (n + 1) st e env)) := by
 have hb' := hb
 unfold eN at hb'
 have e3 : ((st : Int) = 3000) = False := eq_false (by omega)
 have ew : IntKind.i64.wrap ((st : Int) + 1) = ((st + 1 : Nat) : Int) := by rw [IntWalk.i64_in _ (by omega)]; rfl
 have hnode := (aB.cR _ _ _ _).1 hok
 have h3 : ¬ st = 3000 := by omega
 have hlen := dB hok (by omega)
 rw [hk, show dN 5 = 2 from rfl] at hlen
 have g0 : e.aK[Int.toNat 0]? = some (e.mJ 0) := aB.gE (by omega)
 have g1 : e.aK[Int.toNat 1]? = some (e.mJ 1) := aB.gE (by omega)
 have o0 := aB.eP hok (i := 0) (by omega)
 have o1 := aB.eP hok (i := 1) (by omega)
 rw [gT (by omega)] at o0 o1
 rw [aB.aR]
 refine gK 186 oU xO xP mix Tryz.func116 rfl (by kernel_rfl) (by simp) ?_
 simp -dsimp -implicitDefEqProofs only [go_sem, ↓reduceIte, Tryz.f116, hb', e3, ew, hk, g0]
 refine ⟨by omega, ?_⟩
 refine aH.eM (hv.at g0 (aT h nb (eN p sz (st + 1) 0)) nb (st + 1) 0 env funcs (aG _ _ _) (by omega) (by omega) o0 eH hf henv (by omega)) ?_
 rintro r h' ⟨s1, t1, c1, rfl, rfl, kM, a1, a2, a3⟩
 simp -dsimp -implicitDefEqProofs only [go_sem, ↓reduceIte, Tryz.f116, g1]
 refine ⟨by omega, ?_⟩
 rw [aM]
 refine aH.eM (hv.at g1 (aT h nb (eN p sz t1 c1)) nb t1 c1 env funcs (aG _ _ _) (by omega) (by omega) o1 eH hf henv (by omega)) ?_
 rintro r h' ⟨s2, t2, c2, rfl, rfl, oI, b1, b2, b3⟩
 rw [aM]
 simp -dsimp -implicitDefEqProofs only [go_sem, ↓reduceIte, Tryz.f116, hk]
 first | refine aH.mk (aK9 s1 s2 (by rw [kM.1, oI.1]) (by rw [kM.1]; omega) kM.2 oI.2) ?_ | refine aF.mk (aK9 s1 s2 (by rw [kM.1, oI.1]) (by rw [kM.1]; omega) kM.2 oI.2) ?_ | refine aH.bY (aK9 s1 s2 (by rw [kM.1, oI.1]) (by rw [kM.1]; omega) kM.2 oI.2) ?_ | refine aF.mk (bQ.fJ (aK9 s1 s2 (by rw [kM.1, oI.1]) (by rw [kM.1]; omega) kM.2 oI.2)) ?_
 simp -dsimp -implicitDefEqProofs only [go_sem, ↓reduceIte, Tryz.f116]
 refine ⟨_, aT h nb (eN p sz t2 c2), cI (aA.le_refl _), _, t2, c2, rfl, rfl, zD _ kM, by omega, b2, ?_⟩
 rw [zI h3 (by omega) (by omega), hk]
 exact a3.dY (b3.dY (gR _ _ _))
theorem a8N {p : aE} (hp : p.ok) {sz n : Nat} (hsz : 1 ≤ sz ∧ sz ≤ 1048576) (hv : rC p sz n) (h : aA) (nb st : Nat) (e : aB) (env : List (List Int)) (funcs : Int) (hb : h nb = some (eN p sz st 0)) (hst : st < 3000) (hn : 3001 ≤ n + 1 + st)
  (hok : e.ok p funcs env.length) (eH : 0 ≤ funcs) (hf : funcs ≤ p.aI.length) (henv : ∀ s ∈ env, cV sz s) (hel : env.length ≤ 412 + st) (hk : e.aO = 6) :
  fF Tryz.prog 116 [.op nb 4 0 0, .ip 5 [e.c] 0 0, fE env] h (RnQ h nb p sz st 0 (iU p sz (n + 1) st e env)) := by
 have hb' := hb
 unfold eN at hb'
 have e3 : ((st : Int) = 3000) = False := eq_false (by omega)
 have ew : IntKind.i64.wrap ((st : Int) + 1) = ((st + 1 : Nat) : Int) := by rw [IntWalk.i64_in _ (by omega)]; rfl
 have hnode := (aB.cR _ _ _ _).1 hok
 have h3 : ¬ st = 3000 := by omega
 have hlen := dB hok (by omega)
 rw [hk, show dN 6 = 2 from rfl] at hlen
 have g0 : e.aK[Int.toNat 0]? = some (e.mJ 0) := aB.gE (by omega)
 have g1 : e.aK[Int.toNat 1]? = some (e.mJ 1) := aB.gE (by omega)
 have o0 := aB.eP hok (i := 0) (by omega)
 have o1 := aB.eP hok (i := 1) (by omega)
 rw [gT (by omega)] at o0 o1
 rw [aB.aR]
 refine gK 186 oU xO xP mix Tryz.func116 rfl (by kernel_rfl) (by simp) ?_
 simp -dsimp -implicitDefEqProofs only [go_sem, ↓reduceIte, Tryz.f116, hb', e3, ew, hk, g0]
 refine ⟨by omega, ?_⟩
 refine aH.eM (hv.at g0 (aT h nb (eN p sz (st + 1) 0)) nb (st + 1) 0 env funcs (aG _ _ _) (by omega) (by omega) o0 eH hf henv (by omega)) ?_
 rintro r h' ⟨s1, t1, c1, rfl, rfl, kM, a1, a2, a3⟩
 simp -dsimp -implicitDefEqProofs only [go_sem, ↓reduceIte, Tryz.f116, g1]
 refine ⟨by omega, ?_⟩
 rw [aM]
 refine aH.eM (hv.at g1 (aT h nb (eN p sz t1 c1)) nb t1 c1 env funcs (aG _ _ _) (by omega) (by omega) o1 eH hf henv (by omega)) ?_
 rintro r h' ⟨s2, t2, c2, rfl, rfl, oI, b1, b2, b3⟩
 rw [aM]
 have gs : s2[Int.toNat 0]? = some (s2.getD 0 0) := cX (by rw [oI.1]; omega)
 simp -dsimp -implicitDefEqProofs only [go_sem, ↓reduceIte, Tryz.f116, hk, eN, gs]
 refine ⟨fun hc => ?_, fun hc => ?_⟩
 ·subst hc
  refine ⟨by rw [oI.1]; omega, fun hz => ?_, fun hz => ?_⟩
  ·refine aH.eM (aSX (aT h nb (eN p sz t2 0)) nb p sz t2 0 6 (aG _ _ _) hsz.2) ?_
   rintro r h' ⟨rfl, rfl⟩
   simp -dsimp -implicitDefEqProofs only [go_sem, ↓reduceIte, Tryz.f116]
   refine ⟨_, aT h nb (eN p sz t2 6), cI (by rw [aM]; exact aA.le_refl _), _, t2, 6, rfl, rfl, e7 jT, by omega, b2, ?_⟩
   rw [zI h3 (by omega) (by omega), hk]
   refine a3.dY (b3.dY ?_)
   have : opE 6 [s1, s2] t2 = .error 6 := by rw [opE, if_neg (by decide), if_neg (by decide), if_neg (by decide), if_neg (by decide)]; exact if_pos hz
   rw [dC, this]
   exact eX _ _ (by decide)
  ·refine aH.mk (a8C s1 s2 (by rw [kM.1, oI.1]) (by rw [kM.1]; omega) (by rw [kM.1]; omega) kM.2 oI.2) ?_
   simp -dsimp -implicitDefEqProofs only [go_sem, ↓reduceIte, Tryz.f116]
   refine ⟨_, aT h nb (eN p sz t2 0), cI (aA.le_refl _), _, t2, 0, rfl, rfl, zE _ kM, by omega, b2, ?_⟩
   rw [zI h3 (by omega) (by omega), hk]
   refine a3.dY (b3.dY ?_)
   have : opE 6 [s1, s2] t2 = .ok (nJ s1 s2, t2) := by rw [opE, if_neg (by decide), if_neg (by decide), if_neg (by decide), if_neg (by decide)]; exact if_neg hz
   rw [dC, this]
   exact kR _ _
 ·refine aH.eM (aSX (aT h nb (eN p sz t2 c2)) nb p sz t2 c2 6 (aG _ _ _) hsz.2) ?_
  rintro r h' ⟨rfl, rfl⟩
  simp -dsimp -implicitDefEqProofs only [go_sem, ↓reduceIte, Tryz.f116]
  refine ⟨_, aT h nb (eN p sz t2 c2), cI (by rw [aM, if_neg hc]; exact aA.le_refl _), _, t2, c2, rfl, rfl, e7 jT, by omega, b2, ?_⟩
  rw [zI h3 (by omega) (by omega), hk]
  exact a3.dY (b3.dY (by rw [iG _ hc]; exact eX _ _ hc))
theorem run {p : aE} (hp : p.ok) {sz : Nat} (hsz : 1 ≤ sz ∧ sz ≤ 1048576) : ∀ n, rC p sz n
 |0 => fun h nb st c e env funcs hb hst hn => by omega
 |n + 1 => fun h nb st c e env funcs hb hst hn hok eH hf henv hel => by
  have hv := run hp hsz n
  by_cases hs : ¬ c = 0 ∨ st = 3000
  ·exact aUM hsz h nb st c e env hb hst hs
  have hc : c = 0 := Classical.byContradiction fun q => hs (.inl q)
  have h3 : st < 3000 := by
   rcases Nat.lt_or_ge st 3000 with h | h
   ·exact h
   ·exact absurd (.inr (by omega)) hs
  subst hc
  rcases pD ((aB.cR _ _ _ _).1 hok).1 with hk | hk | hk | hk | hk | hk | hk | hk | hk | hk | hk
  ·exact a8E hp hsz hv h nb st e env funcs hb h3 hn hok eH hf henv hel hk
  ·exact a8F hp hsz hv h nb st e env funcs hb h3 hn hok eH hf henv hel hk
  ·exact a8K hp hsz hv h nb st e env funcs hb h3 hn hok eH hf henv hel hk
  ·exact a8L hp hsz hv h nb st e env funcs hb h3 hn hok eH hf henv hel hk
  ·exact a8M hp hsz hv h nb st e env funcs hb h3 hn hok eH hf henv hel hk
  ·exact a8N hp hsz hv h nb st e env funcs hb h3 hn hok eH hf henv hel hk
  ·exact a8J hp hsz hv h nb st e env funcs hb h3 hn hok eH hf henv hel hk
  ·exact a8G hp hsz hv h nb st e env funcs hb h3 hn hok eH hf henv hel hk
  ·exact a8H hp hsz hv h nb st e env funcs hb h3 hn hok eH hf henv hel hk
  ·exact a1U hp hsz hv h nb st e env funcs hb h3 hn hok eH hf henv hel hk
  ·exact a1V hp hsz hv h nb st e env funcs hb h3 hn hok eH hf henv hel hk
set_option maxRecDepth 100000
open Go.Proofs
set_option linter.unusedVariables false
set_option linter.unusedSimpArgs false
theorem aXU (l : List Int) : e8 ((l.map fun n => [I n]).map (List.map Cell.v)) = l.map fun n => [I n] := nH _
theorem jP {h h' : aA} {n sz : Nat} {x r : aD} (es : List (List aD)) (h0 : h n = none) (hl : (aT h n (.row sz (es.map (List.map .v)))).le h') (hb : gA n sz es.length x = true) (hr : x.fK n es = r) : Shift x h' r h := by
 subst hr
 refine (Shift.of (Sub.refl _) hl).trans ((Shift.fK (aG _ _ _) (by rw [List.length_map]; exact hb)).trans ?_)
 rw [nH]
 exact cI ((aP h0).2 ((aP h0).2 (aA.le_refl h)))
theorem aH.a5W {P : Program} {f : FuncId} {args args' : List aD} {h : aA} {K : aD → aA → Prop} {t : Tag K} {r : aD} {n sz : Nat} {es : List (List aD)} (a : gV P f args' r) (hb : gB n sz es.length args = true) (he : lM n es args = args') (k : K r (aT h n .gone)) :
  aH P f args (aT h n (.row sz (es.map (List.map .v)))) K t := by
 refine aH.aWN n (aG _ _ _) (by rw [List.length_map]; exact hb) ?_
 rw [aM, nH, he]
 exact gV.call a k
theorem aSY {h g : aA} {m b : Nat} (rows : List (List Int)) (s : List Int) (hm : h m = some (.row 1 ((s.map fun n => [I n]).map (List.map .v)))) (hb : h b = some (.row 1 ((rows.map fun s => [ints s]).map (List.map .v) ++ [[.v (.os m 1 0 s.length)]]))) (hne : ¬ b = m)
  (hg : g.le (aT (aT h m .gone) b (.row 1 (((rows ++ [s]).map fun s => [ints s]).map (List.map .v))))) : g.wk h := by
 have hat : ∀ (es : List (List Cell)) i j x, iW es i j = some x → ∃ e ∈ es, x ∈ e := fun es i j x hx => by
  obtain ⟨e, h1, h2⟩ := mH hx
  exact ⟨e, List.mem_of_getElem? h1, List.mem_of_getElem? h2⟩
 have hw := aA.a1W hm hb hne (fun i j x hx => by
  obtain ⟨e, he, hxe⟩ := hat _ i j _ hx
  rcases List.mem_append.1 he with he | he
  ·obtain ⟨e1, h1, rfl⟩ := List.mem_map.1 he
   obtain ⟨r, _, rfl⟩ := List.mem_map.1 h1
   simp only [List.map_cons, List.map_nil, List.mem_singleton, Cell.v.injEq] at hxe
   subst hxe; rfl
  ·rw [List.mem_singleton.1 he] at hxe
   simp only [List.mem_singleton, Cell.v.injEq] at hxe
   subst hxe
   simp [gA])
 refine aA.wk.trans (aA.j7 ?_) hw
 have : ((rows.map fun s => [ints s]).map (List.map Cell.v) ++ [[Cell.v (.os m 1 0 s.length)]]).map (List.map (Cell.aBX m (e8 ((s.map fun n => [I n]).map (List.map Cell.v))))) = ((rows ++ [s]).map fun s => [ints s]).map (List.map .v) := by
  rw [aXU, List.map_append, List.map_append, List.map_append]
  congr 1
  ·simp only [List.map_map]
   exact List.map_congr_left fun r _ => rfl
  ·simp only [List.map_cons, List.map_nil, Cell.aBX, aD.fK, if_true, List.drop_zero]
   rw [List.take_of_length_le (by rw [List.length_map]; exact Nat.le_refl _)]
 rw [this]
 exact hg
theorem aFG {h g : aA} {b : Nat} {A : List (List Cell)} {x y : aD} (hb : h b = some (.row 1 (A ++ [[.v x]]))) (s : Sub x y) (hg : g.le (aT h b (.row 1 (A ++ [[.v y]])))) : g.wk h :=
 aA.wk.trans (aA.j7 hg) (aA.a7D (m := b) (fun q hq => aC _ _ _ _ hq) hb (aG _ _ _) (mS.sub (.cons s .nil) A))
@[go_sem] def aXV : List Nat := [0, 2, 3, 5, 7, 8, 9, 10]
@[go_sem] def bFD : List Nat := [6, 15, 16]
@[go_sem] def bFE : Marks := fun _ => ([], .nil, [])
theorem a1X (l : List Int) (hl : l.length ≤ 1048576) : gV Tryz.prog 65 [ints l] (fE (l.map fun n => [n])) := by
 refine uU 20 aXV bFD bFE mix Tryz.func65 rfl (by kernel_rfl) (by simp) fun h => ?_
 simp -dsimp -implicitDefEqProofs only [go_sem, ↓reduceIte, Tryz.f65]
 refine ⟨Nat.zero_lt_one, fun _ => ?_⟩
 refine aN7 (keep := aXV) (ib := bFD) (mk := bFE) mix (by kernel_rfl) (fun x : Nat × Option Nat => [(3, jM 1 (l.take x.1).length x.2), (7, ints l), (8, I l.length), (9, I x.1)]) (fun x => cQ h (.row 1 ((((l.take x.1).map fun n => [n]).map fun s => [ints s]).map (List.map .v))) x.2) (fun x => x.1 ≤ l.length ∧ gX h (l.take x.1) x.2) (fun x => l.length - x.1) (0, none) ⟨by simp [dF, b6, jM], by simp only [aQ]; exact aA.j7 (aA.le_refl _), Nat.zero_le _, by simp [gX]⟩ ?_
 rintro ⟨k, o⟩ ⟨hk, hos⟩
 simp only at hk hos ⊢
 rcases Nat.lt_or_ge k l.length with hlt | hge
 ·have ea : l[k]? = some l[k] := List.getElem?_eq_getElem hlt
  have hy : l.take (k + 1) = l.take k ++ [l[k]] := List.take_succ_eq_append_getElem hlt
  have hlk : (l.take k).length = k := by rw [List.length_take]; omega
  cases o with
  |none =>
   rw [bH] at hos
   rw [hos] at hy ⊢
   simp -dsimp -implicitDefEqProofs only [go_sem, ↓reduceIte, Tryz.f65, bU, aQ, hlt, ea]
   refine ⟨Nat.zero_lt_one, Nat.zero_lt_one, Nat.zero_lt_one, Nat.zero_lt_one, Nat.zero_lt_one, fun b hb => ⟨(k + 1, some b), ?_⟩⟩
   simp only [hy]
   refine ⟨⟨rfl, by rw [IntWalk.i64_in _ (by omega)]; rfl⟩, aFG (A := []) (x := .sl 1 [[I l[k]]] true) (y := ints [l[k]]) (aG _ _ _) (Sub.loose _ _ _) (by rw [aM]; exact aA.le_refl _), ⟨by omega, hb⟩, by omega⟩
  |some n =>
   rw [aV] at hos
   simp -dsimp -implicitDefEqProofs only [go_sem, ↓reduceIte, Tryz.f65, aY, aJ, hlt, ea]
   refine ⟨Nat.zero_lt_one, Nat.zero_lt_one, Nat.zero_lt_one, Nat.zero_lt_one, Nat.zero_lt_one, Nat.le_refl _, by omega, by omega, fun b hb => ⟨(k + 1, some b), ?_⟩⟩
   simp only [hy, aJ, aY, aV]
   refine ⟨⟨by rw [List.length_append]; rfl, by rw [IntWalk.i64_in _ (by omega)]; rfl⟩, aFG (x := .sl 1 [[I l[k]]] true) (y := ints [l[k]]) (aG _ _ _) (Sub.loose _ _ _) ?_, ⟨by omega, hb.2⟩, by omega⟩
   have hl2 : (l.take k).length = ((l.take k).map fun n => [n]).length := by rw [List.length_map]
   rw [aM, List.map_append, show ((l.take k).map fun n => [n]) ++ [l[k]].map (fun n => [n]) = ((l.take k).map fun n => [n]) ++ [[l[k]]] from rfl, ← fO ints, hl2]
   exact lN hos
 ·have hk' : k = l.length := by omega
  subst hk'
  rw [List.take_length] at hos ⊢
  cases o with
  |none =>
   rw [bH] at hos
   simp -dsimp -implicitDefEqProofs only [go_sem, ↓reduceIte, Tryz.f65, bU, aQ, Nat.lt_irrefl, Int.lt_irrefl]
   subst hos
   exact Shift.of (Sub.loose _ _ _) (aA.le_refl _)
  |some n =>
   rw [aV] at hos
   simp -dsimp -implicitDefEqProofs only [go_sem, ↓reduceIte, Tryz.f65, aY, aJ, Nat.lt_irrefl, Int.lt_irrefl]
   exact yQ _ hos (aA.le_refl _) (by rw [List.length_map])
@[go_sem] def aXW : List Nat := [0, 2, 3, 5, 7, 8, 9, 10]
@[go_sem] def bFF : List Nat := [6, 17]
@[go_sem] def bFG : Marks := fun _ => ([], .nil, [])
theorem yR (l : List (List Int)) (hl : l.length ≤ 1048576) (hne : ∀ s ∈ l, 0 < s.length) : gV Tryz.prog 43 [fE l] (ints (l.map fun s => s.getD 0 0)) := by
 have hc : (l.map fun s => s.getD 0 0).length = l.length := List.length_map _
 refine uU 21 aXW bFF bFG mix Tryz.func43 rfl (by kernel_rfl) (by simp) fun h => ?_
 simp -dsimp -implicitDefEqProofs only [go_sem, ↓reduceIte, Tryz.f43]
 refine ⟨Nat.zero_lt_one, fun _ => ?_⟩
 refine dA (keep := aXW) (ib := bFF) (mk := bFG) mix (by kernel_rfl) (fun x : Nat × Option Nat => [(7, fE l), (8, I l.length), (3, jM 1 ((l.map fun s => s.getD 0 0).take x.1).length x.2), (9, I x.1)]) (fun x => cQ h (.row 1 ((((l.map fun s => s.getD 0 0).take x.1).map fun n => [I n]).map (List.map .v))) x.2) (fun x => x.1 ≤ l.length ∧ gX h ((l.map fun s => s.getD 0 0).take x.1) x.2) (fun x => l.length - x.1) (0, none) ⟨by simp [dF, b6, jM], by simp only [aQ]; exact aA.le_refl _, Nat.zero_le _, by simp [gX]⟩ ?_
 rintro ⟨k, o⟩ ⟨hk, hos⟩
 simp only at hk hos ⊢
 rcases Nat.lt_or_ge k l.length with hlt | hge
 ·have ea : l[k]? = some l[k] := List.getElem?_eq_getElem hlt
  have h0 := hne _ (List.getElem_mem hlt)
  have e0 : (l[k])[Int.toNat 0]? = some (l[k].getD 0 0) := cX h0
  have hy : (l.map fun s => s.getD 0 0).take (k + 1) = (l.map fun s => s.getD 0 0).take k ++ [(l.map fun s => s.getD 0 0)[k]'(by omega)] := List.take_succ_eq_append_getElem (by omega)
  have hlk : ((l.map fun s => s.getD 0 0).take k).length = k := by rw [List.length_take]; omega
  rw [List.getElem_map] at hy
  cases o with
  |none =>
   rw [bH] at hos
   rw [hos] at hy ⊢
   simp -dsimp -implicitDefEqProofs only [go_sem, ↓reduceIte, Tryz.f43, bU, aQ, hlt, ea, e0]
   repeat' (with_reducible first | intro _ | refine And.intro ?_ ?_)
   all_goals try (first | omega | decide)
   rename_i b hb
   refine ⟨(k + 1, some b), ?_⟩
   simp only [hy]
   refine ⟨⟨rfl, ?_⟩, aA.le_refl _, ⟨by omega, hb⟩, by omega⟩
   rw [IntWalk.i64_in _ (by omega)]; rfl
  |some n =>
   rw [aV] at hos
   simp -dsimp -implicitDefEqProofs only [go_sem, ↓reduceIte, Tryz.f43, aY, aJ, hlt, ea, e0]
   repeat' (with_reducible first | intro _ | refine And.intro ?_ ?_)
   all_goals try (first | omega | decide | exact Nat.le_refl _)
   rename_i b hb
   refine ⟨(k + 1, some b), ?_⟩
   simp only [hy, aJ, aY, aV]
   refine ⟨⟨by rw [List.length_append]; rfl, ?_⟩, ?_, ⟨by omega, hb.2⟩, by omega⟩
   ·rw [IntWalk.i64_in _ (by omega)]; rfl
   ·rw [← fO]; exact lN hos
 ·have hk' : k = l.length := by omega
  subst hk'
  rw [List.take_of_length_le (by omega)] at hos ⊢
  cases o with
  |none =>
   rw [bH] at hos
   simp -dsimp -implicitDefEqProofs only [go_sem, ↓reduceIte, Tryz.f43, bU, aQ, Nat.lt_irrefl, Int.lt_irrefl]
   rw [hos]
   exact Shift.of (Sub.loose _ _ _) (aA.le_refl _)
  |some n =>
   rw [aV] at hos
   simp -dsimp -implicitDefEqProofs only [go_sem, ↓reduceIte, Tryz.f43, aY, aJ, Nat.lt_irrefl, Int.lt_irrefl]
   exact fQ _ hos (aA.le_refl _) hc.symm
set_option maxRecDepth 100000
open Go.Proofs
set_option linter.unusedVariables false
set_option linter.unusedSimpArgs false
def pQ (X : Out (List (List Int))) : List (List Int) × Int × Int := match X with
 | .ok (vs, t) => (vs, t, 0)
 | .error c => ([], 0, c)
theorem aXX {X : Out (List (List Int))} {l : List (List Int)} {t : Nat} {c : Int} (h : jB X l t c) : pQ X = if c = 0 then (l, (t : Int), 0) else ([], 0, c) := by
 cases X with
 |ok p =>
  obtain ⟨w, u⟩ := p
  obtain ⟨rfl, rfl, rfl⟩ := h
  rfl
 |error d =>
  obtain ⟨rfl, h⟩ := h
  rw [if_neg h]; rfl
theorem yS (l : List Int) (hl : l.length ≤ 1048576) : gV Tryz.prog 67 [ints l] (ints l) := aBU (aW6 l hl)
@[go_sem] def aXY : List Nat := [0, 1, 2, 3, 4, 8, 9, 10, 11, 12, 13, 15, 33, 39, 40, 41, 42]
@[go_sem] def bFH : List Nat := [4, 38, 48]
@[go_sem] def bFI : Marks := fun id => match id with | 4 => ([3], (.op 0 (.op 1 (.op 2 (.op 3 (.op 4 (.op 5 (.op 6 .nil))))))), []) | 11 => ([4], (.op 0 (.op 1 (.op 2 (.op 3 (.op 4 (.op 5 (.op 6 (.op 7 .nil)))))))), []) | _ => ([], .nil, [])
theorem aJH {p : aE} (hp : p.ok) {sz : Nat} (hsz : 1 ≤ sz ∧ sz ≤ 1048576) (f : Int) (hf : 0 ≤ f ∧ f < p.aI.length) (args : List (List Int)) (ha : ∀ s ∈ args, cV sz s) (hl : ∀ F, p.aI[f.toNat]? = some F → (args.length : Int) = F.aZ) :
  gV Tryz.prog 64 [.agg p.c, I f, fE args, I ((sz : Int) - 1)] (.kL [fE (pQ (xW p sz f args)).1, I (pQ (xW p sz f args)).2.1, I (pQ (xW p sz f args)).2.2]) := by
 obtain ⟨F, ef, hF1, hF2, hF3, hF4⟩ := nN hp hf
 have hlF := hl F ef
 rw [aE.aR]
 refine uU 56 aXY bFH bFI mix Tryz.func64 rfl (by kernel_rfl) (by simp) fun h => ?_
 simp -dsimp -implicitDefEqProofs only [go_sem, ↓reduceIte, Tryz.f64, ef, aS.aR]
 intro nb zb
 refine ⟨hf.1, by omega, ?_⟩
 refine aH.eM (wM (value hp hsz 3001) (aT h nb (dO p sz 0 0)) nb 0 0 F.aW args f (aG _ _ _) (by omega) (by omega) (by omega) (by rw [hlF]; exact hF4) hf.1 (by omega) ha (by omega)) ?_
 rintro r h' ⟨vs, t, c, rfl, rfl, hvl, hvs, a1, a2, a3⟩
 rw [dC, ← hF3] at a3
 rw [aXX (show jB (xW p sz f args) vs t c from a3)]
 rw [aM]
 have hBn : (aT h nb (dO p sz t c)) nb = some (.row 4 [[.v (eI 3 aS.c p.aI), .v (I ((sz : Int) - 1)), .v (I t), .v (I c)]]) := aG _ _ _
 have hBl : h.le (aT h nb (dO p sz t c)) := aA.aP zb (aA.le_refl _)
 generalize aT h nb (dO p sz t c) = hB at hBn hBl ⊢
 simp -dsimp -implicitDefEqProofs only [go_sem, ↓reduceIte, Tryz.f64, hBn]
 refine ⟨fun hc => ?_, fun hc => ?_⟩
 ·have hc' : ¬ c = 0 := by simpa using hc
  rw [if_neg hc']
  exact Shift.of (Sub.kL (.cons (Sub.nil 1 false) (.cons (.refl _) (.cons (.refl _) .nil)))) hBl
 ·have hc' : c = 0 := by simpa using hc
  subst hc'
  rw [if_pos rfl]
  refine ⟨Nat.zero_lt_one, fun _ => ?_⟩
  refine dA (keep := aXY) (ib := bFH) (mk := bFI) mix (by kernel_rfl) (fun x : Nat × Option Nat => [(11, .op nb 4 0 0), (13, jM 1 (vs.take x.1).length x.2), (39, fE vs), (40, I vs.length), (41, I x.1)]) (fun x => cQ hB (.row 1 (((vs.take x.1).map fun s => [ints s]).map (List.map .v))) x.2) (fun x => x.1 ≤ vs.length ∧ gX hB (vs.take x.1) x.2) (fun x => vs.length - x.1) (0, none) ⟨by simp [dF, b6, jM], by simp only [aQ]; exact aA.le_refl _, Nat.zero_le _, by simp [gX]⟩ ?_
  rintro ⟨k, o⟩ ⟨hk, hos⟩
  simp only at hk hos ⊢
  rcases Nat.lt_or_ge k vs.length with hlt | hge
  ·have ea : vs[k]? = some vs[k] := List.getElem?_eq_getElem hlt
   have hy : vs.take (k + 1) = vs.take k ++ [vs[k]] := List.take_succ_eq_append_getElem hlt
   have hlk : (vs.take k).length = k := by rw [List.length_take]; omega
   have hsk := hvs _ (List.getElem_mem hlt)
   cases o with
   |none =>
    rw [bH] at hos
    rw [hos] at hy ⊢
    simp -dsimp -implicitDefEqProofs only [go_sem, ↓reduceIte, Tryz.f64, bU, aQ, hlt, ea]
    first | refine aH.mk (yS vs[k] (by rw [hsk.1]; omega)) ?_ | refine aF.mk (yS vs[k] (by rw [hsk.1]; omega)) ?_ | refine aH.bY (yS vs[k] (by rw [hsk.1]; omega)) ?_ | refine aF.mk (bQ.fJ (yS vs[k] (by rw [hsk.1]; omega))) ?_
    simp -dsimp -implicitDefEqProofs only [go_sem, ↓reduceIte, Tryz.f64]
    repeat' (with_reducible first | intro _ | refine And.intro ?_ ?_)
    all_goals try (first | omega | decide)
    rename_i b hb
    refine ⟨(k + 1, some b), ?_⟩
    simp only [hy]
    refine ⟨⟨rfl, ?_⟩, aA.le_refl _, ⟨by omega, hb⟩, by omega⟩
    rw [IntWalk.i64_in _ (by omega)]; rfl
   |some n =>
    rw [aV] at hos
    simp -dsimp -implicitDefEqProofs only [go_sem, ↓reduceIte, Tryz.f64, aY, aJ, hlt, ea]
    first | refine aH.mk (yS vs[k] (by rw [hsk.1]; omega)) ?_ | refine aF.mk (yS vs[k] (by rw [hsk.1]; omega)) ?_ | refine aH.bY (yS vs[k] (by rw [hsk.1]; omega)) ?_ | refine aF.mk (bQ.fJ (yS vs[k] (by rw [hsk.1]; omega))) ?_
    simp -dsimp -implicitDefEqProofs only [go_sem, ↓reduceIte, Tryz.f64]
    repeat' (with_reducible first | intro _ | refine And.intro ?_ ?_)
    all_goals try (first | omega | decide | exact Nat.le_refl _)
    rename_i b hb
    refine ⟨(k + 1, some b), ?_⟩
    simp only [hy, aJ, aY, aV]
    refine ⟨⟨by rw [List.length_append]; rfl, ?_⟩, ?_, ⟨by omega, hb.2⟩, by omega⟩
    ·rw [IntWalk.i64_in _ (by omega)]; rfl
    ·rw [← fO]; exact lN hos
  ·have hk' : k = vs.length := by omega
   subst hk'
   rw [List.take_length] at hos ⊢
   cases o with
   |none =>
    rw [bH] at hos
    subst hos
    simp -dsimp -implicitDefEqProofs only [go_sem, ↓reduceIte, Tryz.f64, bU, aQ, Nat.lt_irrefl, hBn]
    exact Shift.of (Sub.kL (.cons (Sub.loose _ _ _) (.cons (.refl _) (.cons (.refl _) .nil)))) hBl
   |some n =>
    rw [aV] at hos
    have pR : ¬ n = nb := fun e => by rw [e, hBn] at hos; cases hos
    have wO : ¬ nb = n := Ne.symm pR
    have qL : (n = nb) = False := eq_false pR
    have qM : (nb = n) = False := eq_false wO
    simp -dsimp -implicitDefEqProofs only [go_sem, ↓reduceIte, Tryz.f64, aY, aJ, Nat.lt_irrefl, aC, qL, qM, hBn]
    refine Shift.trans (jP (vs.map fun s => [ints s]) hos (aA.le_refl _) (by simp [gA, gB]) ?_) (cI hBl)
    simp [aD.fK, lM, List.take_of_length_le]
@[go_sem] def aLE : List Nat := [0, 1, 4, 5, 7, 10, 11, 12, 13]
@[go_sem] def a1Y : List Nat := []
@[go_sem] def a1Z : Marks := fun _ => ([], .nil, [])
theorem aSZ (n : Nat) (hn : n ≤ 1048576) : gV Tryz.prog 94 [I n, .bI] (ints (List.replicate n 0)) := by
 refine uU 27 aLE a1Y a1Z mix Tryz.func94 rfl (by kernel_rfl) (by simp) fun h => ?_
 simp -dsimp -implicitDefEqProofs only [go_sem, ↓reduceIte, Tryz.f94]
 refine ⟨Nat.zero_lt_one, by omega, by omega, by omega, fun m hm => ?_⟩
 rw [wI]
 refine oN (keep := aLE) (ib := a1Y) (mk := a1Z) mix (by kernel_rfl) (fun _ : Unit => [(5, .os m 1 0 n), (10, .bI), (11, I 0), (12, I 0)]) (fun _ => True) (fun _ => 0) () ⟨by simp [dF, b6], trivial⟩ ?_
 intro _ _
 simp -dsimp -implicitDefEqProofs only [go_sem, ↓reduceIte, Tryz.f94, Int.lt_irrefl]
 exact fQ _ hm (aA.le_refl _) (by rw [List.length_replicate])
theorem aS0 (n i : Nat) (hn : n ≤ 1048576) (hi : i < n) : gV Tryz.prog 94 [I n, .sl 1 [[I i]] true] (ints ((List.replicate n 0).set i 1)) := by
 refine uU 27 aLE a1Y a1Z mix Tryz.func94 rfl (by kernel_rfl) (by simp) fun h => ?_
 simp -dsimp -implicitDefEqProofs only [go_sem, ↓reduceIte, Tryz.f94]
 refine ⟨Nat.zero_lt_one, by omega, by omega, by omega, fun m hm => ?_⟩
 rw [wI]
 refine r8 (keep := aLE) (ib := a1Y) (mk := a1Z) mix (by kernel_rfl) (fun k : Nat => [(5, .os m 1 0 n), (10, .sl 1 [[I i]] true), (11, I 1), (12, I k)]) m (fun k => .row 1 (((if k = 0 then List.replicate n (0 : Int) else (List.replicate n 0).set i 1).map fun n => [I n]).map (List.map .v))) (fun k => k ≤ 1) (fun k => 1 - k) 0 ⟨by simp [dF, b6], by rw [aG, if_pos rfl], Nat.zero_le _⟩ ?_
 intro k hk
 rcases Nat.lt_or_ge k 1 with hlt | hge
 ·have : k = 0 := by omega
  subst this
  have e1 : (List.replicate n (0 : Int))[i]? = some 0 := by rw [List.getElem?_replicate, if_pos hi]
  rw [if_pos rfl]
  simp -dsimp -implicitDefEqProofs only [go_sem, ↓reduceIte, Tryz.f94, aM, e1, List.length_replicate, Int.toNat_natCast]
  refine ⟨fun _ => ⟨Nat.zero_lt_one, hi, hi, 1, by decide, ?_, by omega, by omega⟩, fun q => absurd (by decide) q⟩
  rw [if_neg (by decide), show (IntKind.i64.wrap (0 + 1)).tmod 1000003 = 1 by decide, ← aAM I]
  exact aA.le_refl _
 ·have : k = 1 := by omega
  subst this
  rw [if_neg (by decide)]
  simp -dsimp -implicitDefEqProofs only [go_sem, ↓reduceIte, Tryz.f94, Int.lt_irrefl]
  refine ⟨fun q => absurd q (by decide), fun _ => ?_⟩
  rw [aM]
  exact fQ ((List.replicate n 0).set i 1) hm (aA.le_refl _) (by rw [List.length_set, List.length_replicate])
def gY (args dir : List Int) : List (List Int) := List.zipWith (fun a d => [a, d]) args dir
theorem w2 : IntKind.i64.wrap (1 + 1) = 2 := by decide
theorem n0 : Int.toNat 0 = 0 := rfl
theorem n1 : Int.toNat 1 = 1 := rfl
theorem n2 : Int.toNat 2 = 2 := rfl
theorem bFJ (x : List aD) : List.replicate 2 x = [x, x] := rfl
@[go_sem] def aS1 : List Nat := [0, 1, 2, 3, 4, 5, 10, 11, 12, 13, 14, 15, 16, 18, 20, 21, 22, 23, 34]
@[go_sem] def a5X : List Nat := [5, 19, 43]
@[go_sem] def a5Y : Marks := fun _ => ([], .nil, [])
theorem a8P {p : aE} (hp : p.ok) (f : Int) (hf : 0 ≤ f ∧ f < p.aI.length) (args dir : List Int) (hd : dir.length = args.length) (hal : args.length ≤ 1048576) (na : fG args) (nd : fG dir) (hl : ∀ F, p.aI[f.toNat]? = some F → (args.length : Int) = F.aZ) :
  gV Tryz.prog 119 [.agg p.c, I f, ints args, ints dir, I 1] (.kL [fE (pQ (xW p 2 f (gY args dir))).1, I (pQ (xW p 2 f (gY args dir))).2.2]) := by
 rw [aE.aR]
 refine uU 57 aS1 a5X a5Y mix Tryz.func119 rfl (by kernel_rfl) (by simp) fun h => ?_
 simp -dsimp -implicitDefEqProofs only [go_sem, ↓reduceIte, Tryz.f119]
 refine ⟨Nat.zero_lt_one, fun _ => ?_⟩
 have hc : (gY args dir).length = args.length := by simp [gY, hd]
 refine aN7 (keep := aS1) (ib := a5X) (mk := a5Y) mix (by kernel_rfl) (fun x : Nat × Option Nat => [(1, I f), (3, ints dir), (4, I 1), (5, .ip 1 [[eI 3 aS.c p.aI]] 0 0), (12, jM 1 ((gY args dir).take x.1).length x.2), (20, ints args), (21, I args.length), (22, I x.1)]) (fun x => cQ h (.row 1 ((((gY args dir).take x.1).map fun s => [ints s]).map (List.map .v))) x.2) (fun x => x.1 ≤ args.length ∧ gX h ((gY args dir).take x.1) x.2) (fun x => args.length - x.1) (0, none) ⟨by simp [dF, b6, jM], by simp only [aQ]; exact aA.j7 (aA.le_refl _), Nat.zero_le _, by simp [gX]⟩ ?_
 rintro ⟨k, o⟩ ⟨hk, hos⟩
 simp only at hk hos ⊢
 rcases Nat.lt_or_ge k args.length with hlt | hge
 ·have ea : args[k]? = some args[k] := List.getElem?_eq_getElem hlt
  have ed : dir[k]? = some (dir[k]'(by omega)) := List.getElem?_eq_getElem (by omega)
  have hy : (gY args dir).take (k + 1) = (gY args dir).take k ++ [(gY args dir)[k]'(by omega)] := List.take_succ_eq_append_getElem (by omega)
  have hv : (gY args dir)[k]'(by omega) = [args[k], dir[k]'(by omega)] := by simp [gY]
  have hlk : ((gY args dir).take k).length = k := by rw [List.length_take]; omega
  rw [hv] at hy
  cases o with
  |none =>
   rw [bH] at hos
   rw [hos] at hy ⊢
   simp -dsimp -implicitDefEqProofs only [go_sem, ↓reduceIte, Tryz.f119, bU, aQ, hlt, ea, ed, w2, n0, n1, n2, bFJ, aM]
   refine ⟨Nat.zero_lt_one, by decide, fun m z_m => ⟨by decide, fun _ => ⟨by omega, by decide, Nat.zero_lt_one, Nat.zero_lt_one, Nat.zero_lt_one, ?_⟩, fun q => absurd (by decide) q⟩⟩
   intro b aN
   have fW : ¬ b = m := by first | exact aN.1 | exact aN | exact aN.2.1 | exact aN.2 | exact aN.2.2.1 | exact aN.2.2 | exact aN.2.2.2.1 | exact aN.2.2.2 | exact aN.2.2.2.2.1 | exact aN.2.2.2.2 | exact aN.2.2.2.2.2.1 | exact aN.2.2.2.2.2 | exact aN.2.2.2.2.2.2.1 | exact aN.2.2.2.2.2.2 | exact aN.2.2.2.2.2.2.2.1 | exact aN.2.2.2.2.2.2.2 | exact aN.2.2.2.2.2.2.2.2.1 | exact aN.2.2.2.2.2.2.2.2 | exact aN.2.2.2.2.2.2.2.2.2.1 | exact aN.2.2.2.2.2.2.2.2.2 | exact aN.2.2.2.2.2.2.2.2.2.2.1 | exact aN.2.2.2.2.2.2.2.2.2.2 | exact aN.2.2.2.2.2.2.2.2.2.2.2.1 | exact aN.2.2.2.2.2.2.2.2.2.2.2 | exact aN.2.2.2.2.2.2.2.2.2.2.2.2.1 | exact aN.2.2.2.2.2.2.2.2.2.2.2.2 | exact aN.2.2.2.2.2.2.2.2.2.2.2.2.2.1 | exact aN.2.2.2.2.2.2.2.2.2.2.2.2.2
   have kT : (b = m) = False := eq_false fW
   have kU : (m = b) = False := eq_false (Ne.symm fW)
   have mV : ¬ m = b := Ne.symm fW
   have z_b : h b = none := by first | exact aN.1 | exact aN | exact aN.2.1 | exact aN.2 | exact aN.2.2.1 | exact aN.2.2 | exact aN.2.2.2.1 | exact aN.2.2.2 | exact aN.2.2.2.2.1 | exact aN.2.2.2.2 | exact aN.2.2.2.2.2.1 | exact aN.2.2.2.2.2 | exact aN.2.2.2.2.2.2.1 | exact aN.2.2.2.2.2.2 | exact aN.2.2.2.2.2.2.2.1 | exact aN.2.2.2.2.2.2.2 | exact aN.2.2.2.2.2.2.2.2.1 | exact aN.2.2.2.2.2.2.2.2 | exact aN.2.2.2.2.2.2.2.2.2.1 | exact aN.2.2.2.2.2.2.2.2.2 | exact aN.2.2.2.2.2.2.2.2.2.2.1 | exact aN.2.2.2.2.2.2.2.2.2.2 | exact aN.2.2.2.2.2.2.2.2.2.2.2.1 | exact aN.2.2.2.2.2.2.2.2.2.2.2 | exact aN.2.2.2.2.2.2.2.2.2.2.2.2.1 | exact aN.2.2.2.2.2.2.2.2.2.2.2.2 | exact aN.2.2.2.2.2.2.2.2.2.2.2.2.2.1 | exact aN.2.2.2.2.2.2.2.2.2.2.2.2.2
   refine ⟨(k + 1, some b), ?_⟩
   simp only [hy]
   refine ⟨⟨rfl, by rw [IntWalk.i64_in _ (by omega)]; rfl⟩, aSY (m := m) (b := b) [] [args[k], dir[k]'(by omega)] (by rw [aC _ _ _ _ mV, aG]; rfl) (by rw [aG]; rfl) fW (by simp only [aJ]; exact (iD (by repeat' (first | exact fS _ _ | refine iE (by simp only [dP, ↓reduceIte, eq_self, if_true, kT, kU]) ?_ | refine eY (by first | exact .inr (by assumption) | exact .inl (by simp)) ?_)))), ⟨by omega, z_b⟩, by omega⟩
  |some n =>
   rw [aV] at hos
   simp -dsimp -implicitDefEqProofs only [go_sem, ↓reduceIte, Tryz.f119, aY, aJ, hlt, ea, ed, w2, n0, n1, n2, bFJ, aM]
   refine ⟨Nat.zero_lt_one, by decide, ?_⟩
   intro m iX
   have rV : ¬ m = n := by first | exact iX.1 | exact iX | exact iX.2.1 | exact iX.2 | exact iX.2.2.1 | exact iX.2.2 | exact iX.2.2.2.1 | exact iX.2.2.2 | exact iX.2.2.2.2.1 | exact iX.2.2.2.2 | exact iX.2.2.2.2.2.1 | exact iX.2.2.2.2.2 | exact iX.2.2.2.2.2.2.1 | exact iX.2.2.2.2.2.2 | exact iX.2.2.2.2.2.2.2.1 | exact iX.2.2.2.2.2.2.2 | exact iX.2.2.2.2.2.2.2.2.1 | exact iX.2.2.2.2.2.2.2.2 | exact iX.2.2.2.2.2.2.2.2.2.1 | exact iX.2.2.2.2.2.2.2.2.2 | exact iX.2.2.2.2.2.2.2.2.2.2.1 | exact iX.2.2.2.2.2.2.2.2.2.2 | exact iX.2.2.2.2.2.2.2.2.2.2.2.1 | exact iX.2.2.2.2.2.2.2.2.2.2.2 | exact iX.2.2.2.2.2.2.2.2.2.2.2.2.1 | exact iX.2.2.2.2.2.2.2.2.2.2.2.2 | exact iX.2.2.2.2.2.2.2.2.2.2.2.2.2.1 | exact iX.2.2.2.2.2.2.2.2.2.2.2.2.2
   have tF : (m = n) = False := eq_false rV
   have tG : (n = m) = False := eq_false (Ne.symm rV)
   have rD : ¬ n = m := Ne.symm rV
   have z_m : h m = none := by first | exact iX.1 | exact iX | exact iX.2.1 | exact iX.2 | exact iX.2.2.1 | exact iX.2.2 | exact iX.2.2.2.1 | exact iX.2.2.2 | exact iX.2.2.2.2.1 | exact iX.2.2.2.2 | exact iX.2.2.2.2.2.1 | exact iX.2.2.2.2.2 | exact iX.2.2.2.2.2.2.1 | exact iX.2.2.2.2.2.2 | exact iX.2.2.2.2.2.2.2.1 | exact iX.2.2.2.2.2.2.2 | exact iX.2.2.2.2.2.2.2.2.1 | exact iX.2.2.2.2.2.2.2.2 | exact iX.2.2.2.2.2.2.2.2.2.1 | exact iX.2.2.2.2.2.2.2.2.2 | exact iX.2.2.2.2.2.2.2.2.2.2.1 | exact iX.2.2.2.2.2.2.2.2.2.2 | exact iX.2.2.2.2.2.2.2.2.2.2.2.1 | exact iX.2.2.2.2.2.2.2.2.2.2.2 | exact iX.2.2.2.2.2.2.2.2.2.2.2.2.1 | exact iX.2.2.2.2.2.2.2.2.2.2.2.2 | exact iX.2.2.2.2.2.2.2.2.2.2.2.2.2.1 | exact iX.2.2.2.2.2.2.2.2.2.2.2.2.2
   refine ⟨by decide, fun _ => ⟨by omega, by decide, Nat.zero_lt_one, Nat.zero_lt_one, Nat.zero_lt_one, ?_⟩, fun q => absurd (by decide) q⟩
   simp -dsimp -implicitDefEqProofs only [go_sem, ↓reduceIte, Tryz.f119, aC, tG, tF]
   refine ⟨Nat.le_refl _, by omega, by omega, ?_⟩
   intro b aN
   have aXZ : ¬ b = n := by first | exact aN.1 | exact aN | exact aN.2.1 | exact aN.2 | exact aN.2.2.1 | exact aN.2.2 | exact aN.2.2.2.1 | exact aN.2.2.2 | exact aN.2.2.2.2.1 | exact aN.2.2.2.2 | exact aN.2.2.2.2.2.1 | exact aN.2.2.2.2.2 | exact aN.2.2.2.2.2.2.1 | exact aN.2.2.2.2.2.2 | exact aN.2.2.2.2.2.2.2.1 | exact aN.2.2.2.2.2.2.2 | exact aN.2.2.2.2.2.2.2.2.1 | exact aN.2.2.2.2.2.2.2.2 | exact aN.2.2.2.2.2.2.2.2.2.1 | exact aN.2.2.2.2.2.2.2.2.2 | exact aN.2.2.2.2.2.2.2.2.2.2.1 | exact aN.2.2.2.2.2.2.2.2.2.2 | exact aN.2.2.2.2.2.2.2.2.2.2.2.1 | exact aN.2.2.2.2.2.2.2.2.2.2.2 | exact aN.2.2.2.2.2.2.2.2.2.2.2.2.1 | exact aN.2.2.2.2.2.2.2.2.2.2.2.2 | exact aN.2.2.2.2.2.2.2.2.2.2.2.2.2.1 | exact aN.2.2.2.2.2.2.2.2.2.2.2.2.2
   have aS2 : (b = n) = False := eq_false aXZ
   have aS3 : (n = b) = False := eq_false (Ne.symm aXZ)
   have aX0 : ¬ n = b := Ne.symm aXZ
   have fW : ¬ b = m := by first | exact aN.1 | exact aN | exact aN.2.1 | exact aN.2 | exact aN.2.2.1 | exact aN.2.2 | exact aN.2.2.2.1 | exact aN.2.2.2 | exact aN.2.2.2.2.1 | exact aN.2.2.2.2 | exact aN.2.2.2.2.2.1 | exact aN.2.2.2.2.2 | exact aN.2.2.2.2.2.2.1 | exact aN.2.2.2.2.2.2 | exact aN.2.2.2.2.2.2.2.1 | exact aN.2.2.2.2.2.2.2 | exact aN.2.2.2.2.2.2.2.2.1 | exact aN.2.2.2.2.2.2.2.2 | exact aN.2.2.2.2.2.2.2.2.2.1 | exact aN.2.2.2.2.2.2.2.2.2 | exact aN.2.2.2.2.2.2.2.2.2.2.1 | exact aN.2.2.2.2.2.2.2.2.2.2 | exact aN.2.2.2.2.2.2.2.2.2.2.2.1 | exact aN.2.2.2.2.2.2.2.2.2.2.2 | exact aN.2.2.2.2.2.2.2.2.2.2.2.2.1 | exact aN.2.2.2.2.2.2.2.2.2.2.2.2 | exact aN.2.2.2.2.2.2.2.2.2.2.2.2.2.1 | exact aN.2.2.2.2.2.2.2.2.2.2.2.2.2
   have kT : (b = m) = False := eq_false fW
   have kU : (m = b) = False := eq_false (Ne.symm fW)
   have mV : ¬ m = b := Ne.symm fW
   have z_b : h b = none := by first | exact aN.1 | exact aN | exact aN.2.1 | exact aN.2 | exact aN.2.2.1 | exact aN.2.2 | exact aN.2.2.2.1 | exact aN.2.2.2 | exact aN.2.2.2.2.1 | exact aN.2.2.2.2 | exact aN.2.2.2.2.2.1 | exact aN.2.2.2.2.2 | exact aN.2.2.2.2.2.2.1 | exact aN.2.2.2.2.2.2 | exact aN.2.2.2.2.2.2.2.1 | exact aN.2.2.2.2.2.2.2 | exact aN.2.2.2.2.2.2.2.2.1 | exact aN.2.2.2.2.2.2.2.2 | exact aN.2.2.2.2.2.2.2.2.2.1 | exact aN.2.2.2.2.2.2.2.2.2 | exact aN.2.2.2.2.2.2.2.2.2.2.1 | exact aN.2.2.2.2.2.2.2.2.2.2 | exact aN.2.2.2.2.2.2.2.2.2.2.2.1 | exact aN.2.2.2.2.2.2.2.2.2.2.2 | exact aN.2.2.2.2.2.2.2.2.2.2.2.2.1 | exact aN.2.2.2.2.2.2.2.2.2.2.2.2 | exact aN.2.2.2.2.2.2.2.2.2.2.2.2.2.1 | exact aN.2.2.2.2.2.2.2.2.2.2.2.2.2
   refine ⟨(k + 1, some b), ?_⟩
   simp only [hy, aJ, aY, aV]
   refine ⟨⟨by rw [List.length_append]; rfl, by rw [IntWalk.i64_in _ (by omega)]; rfl⟩, aSY (m := m) (b := b) ((gY args dir).take k) [args[k], dir[k]'(by omega)] (by simp only [dP, kT, aS2, kU, tF, aS3, tG, ↓reduceIte]; rfl) ?_ fW (iD (by repeat' (first | exact fS _ _ | refine iE (by simp only [dP, ↓reduceIte, eq_self, if_true, kT, aS2, kU, tF, aS3, tG]) ?_ | refine eY (by first | exact .inr (by assumption) | exact .inl (by simp)) ?_))), ⟨by omega, z_b⟩, by omega⟩
   rw [aG, List.take_of_length_le (by simp)]
   rfl
 ·have hk' : k = args.length := by omega
  subst hk'
  rw [List.take_of_length_le (by omega)] at hos ⊢
  have vC := aJH hp (sz := 2) (by decide) f hf (gY args dir) (fun s hs => by
   obtain ⟨i, hi, rfl⟩ := List.mem_iff_getElem.1 hs
   simp only [gY, List.getElem_zipWith]
   refine ⟨rfl, fun x hx => ?_⟩
   simp only [List.mem_cons, List.not_mem_nil, or_false] at hx
   rcases hx with rfl | rfl
   ·exact na _ (List.getElem_mem _)
   ·exact nd _ (List.getElem_mem _)) (fun F hF => by rw [hc]; exact hl F hF)
  rw [show (((2 : Nat) : Int) - 1) = 1 from rfl, aE.aR] at vC
  cases o with
  |none =>
   rw [bH] at hos
   simp -dsimp -implicitDefEqProofs only [go_sem, ↓reduceIte, Tryz.f119, bU, aQ, Nat.lt_irrefl, Int.lt_irrefl]
   refine aH.mk (gV.sub (.cons (.refl _) (.cons (.refl _) (.cons ?_ (.cons (.refl _) .nil)))) vC) ?_
   ·rw [hos]; exact Sub.loose _ _ _
   simp -dsimp -implicitDefEqProofs only [go_sem, ↓reduceIte, Tryz.f119]
   exact bD _ _
  |some n =>
   rw [aV] at hos
   simp -dsimp -implicitDefEqProofs only [go_sem, ↓reduceIte, Tryz.f119, aY, aJ, Nat.lt_irrefl, Int.lt_irrefl]
   refine aH.a5W (es := (gY args dir).map fun s => [ints s]) vC (by simp [gB, gA]) ?_ ?_
   ·simp [lM, aD.fK, List.take_of_length_le]
   simp -dsimp -implicitDefEqProofs only [go_sem, ↓reduceIte, Tryz.f119]
   exact cI (aA.aP hos (aA.le_refl _))
theorem aDM {args dir : List Int} (hd : dir.length = args.length) : (gY args dir).length = args.length := by simp [gY, hd]
theorem aDN {args dir : List Int} (na : fG args) (nd : fG dir) : ∀ s ∈ gY args dir, cV 2 s := fun s hs => by
 obtain ⟨i, hi, rfl⟩ := List.mem_iff_getElem.1 hs
 simp only [gY, List.getElem_zipWith]
 refine ⟨rfl, fun x hx => ?_⟩
 simp only [List.mem_cons, List.not_mem_nil, or_false] at hx
 rcases hx with rfl | rfl
 ·exact na _ (List.getElem_mem _)
 ·exact nd _ (List.getElem_mem _)
theorem aUN {X : Out (List (List Int))} {sz n : Nat} (h : okP (fun l => aUJ sz n l) X) : (∀ s ∈ (pQ X).1, cV sz s) ∧ (pQ X).1.length ≤ n := by
 cases X with
 |ok p =>
  obtain ⟨v, t⟩ := p
  have := h v t rfl
  exact ⟨this.2, Nat.le_of_eq this.1⟩
 |error c => exact ⟨(fun s hs => by cases hs), Nat.zero_le _⟩
theorem aX1 {p : aE} (hp : p.ok) (f : Int) (hf : 0 ≤ f ∧ f < p.aI.length) (args dir : List Int) (hd : dir.length = args.length) (na : fG args) (nd : fG dir) (hl : ∀ F, p.aI[f.toNat]? = some F → (args.length : Int) = F.aZ) :
  (∀ s ∈ (pQ (xW p 2 f (gY args dir))).1, cV 2 s) ∧ (pQ (xW p 2 f (gY args dir))).1.length ≤ 1048576 := by
 have h := aUN (aK2 hp (sz := 2) (by omega) f hf (gY args dir) (aDN na nd) (fun F hF => by rw [aDM hd]; exact hl F hF))
 obtain ⟨F, ef, hF1, hF2, hF3, hF4⟩ := nN hp hf
 refine ⟨h.1, ?_⟩
 have := h.2
 rw [hF3] at this
 omega
def wP (X : List (List Int) × Int × Int) : List Int × List Int × Int := if X.2.2 = 0 then (X.1.map (·.getD 0 0), X.1.map (·.getD 1 0), 0) else ([], [], X.2.2)
@[go_sem] def aX2 : List Nat := [0, 1, 2, 3, 4, 8, 9, 10, 11, 12, 13, 15, 25, 28, 29, 30, 31]
@[go_sem] def bFK : List Nat := [4, 27, 38]
@[go_sem] def bFL : Marks := fun _ => ([], .nil, [])
theorem aEQ {p : aE} (hp : p.ok) (f : Int) (hf : 0 ≤ f ∧ f < p.aI.length) (args dir : List Int) (hd : dir.length = args.length) (hal : args.length ≤ 1048576) (na : fG args) (nd : fG dir) (hl : ∀ F, p.aI[f.toNat]? = some F → (args.length : Int) = F.aZ) :
  gV Tryz.prog 93 [.agg p.c, I f, ints args, ints dir] (.kL [ints (wP (pQ (xW p 2 f (gY args dir)))).1, ints (wP (pQ (xW p 2 f (gY args dir)))).2.1, I (wP (pQ (xW p 2 f (gY args dir)))).2.2]) := by
 have a8Q := a8P hp f hf args dir hd hal na nd hl
 obtain ⟨hser, hlen⟩ := aX1 hp f hf args dir hd na nd hl
 generalize pQ (xW p 2 f (gY args dir)) = X at *
 obtain ⟨vs, st, c⟩ := X
 simp only at a8Q hser hlen ⊢
 rw [aE.aR] at a8Q ⊢
 refine uU 44 aX2 bFK bFL mix Tryz.func93 rfl (by kernel_rfl) (by simp) fun h => ?_
 simp -dsimp -implicitDefEqProofs only [go_sem, ↓reduceIte, Tryz.f93]
 refine aH.mk a8Q ?_
 simp -dsimp -implicitDefEqProofs only [go_sem, ↓reduceIte, Tryz.f93]
 refine ⟨fun hc => ?_, fun hc => ?_⟩
 ·have hc' : ¬ c = 0 := by simpa using hc
  rw [wP, if_neg hc']
  try simp -dsimp -implicitDefEqProofs only [go_sem, ↓reduceIte, Tryz.f93]
  exact Shift.of (Sub.kL (.cons (Sub.nil 1 false) (.cons (Sub.nil 1 false) (.cons (.refl _) .nil)))) (aA.le_refl _)
 have hc' : c = 0 := by simpa using hc
 subst hc'
 rw [wP, if_pos rfl]
 try simp -dsimp -implicitDefEqProofs only [go_sem, ↓reduceIte, Tryz.f93]
 refine ⟨Nat.zero_lt_one, fun _ => ?_⟩
 have hcl : (vs.map fun s => s.getD 1 0).length = vs.length := List.length_map _
 refine dA (keep := aX2) (ib := bFK) (mk := bFL) mix (by kernel_rfl) (fun x : Nat × Option Nat => [(11, fE vs), (28, fE vs), (29, I vs.length), (13, jM 1 ((vs.map fun s => s.getD 1 0).take x.1).length x.2), (30, I x.1)]) (fun x => cQ h (.row 1 ((((vs.map fun s => s.getD 1 0).take x.1).map fun n => [I n]).map (List.map .v))) x.2) (fun x => x.1 ≤ vs.length ∧ gX h ((vs.map fun s => s.getD 1 0).take x.1) x.2) (fun x => vs.length - x.1) (0, none) ⟨by simp [dF, b6, jM], by simp only [aQ]; exact aA.le_refl _, Nat.zero_le _, by simp [gX]⟩ ?_
 rintro ⟨k, o⟩ ⟨hk, hos⟩
 simp only at hk hos ⊢
 rcases Nat.lt_or_ge k vs.length with hlt | hge
 ·have ea : vs[k]? = some vs[k] := List.getElem?_eq_getElem hlt
  have h0 := hser _ (List.getElem_mem hlt)
  have e0 : (vs[k])[Int.toNat 1]? = some (vs[k].getD 1 0) := cX (by rw [h0.1]; omega)
  have h0l := h0.1
  have hy : (vs.map fun s => s.getD 1 0).take (k + 1) = (vs.map fun s => s.getD 1 0).take k ++ [(vs.map fun s => s.getD 1 0)[k]'(by omega)] := List.take_succ_eq_append_getElem (by omega)
  have hlk : ((vs.map fun s => s.getD 1 0).take k).length = k := by rw [List.length_take]; omega
  rw [List.getElem_map] at hy
  cases o with
  |none =>
   rw [bH] at hos
   rw [hos] at hy ⊢
   simp -dsimp -implicitDefEqProofs only [go_sem, ↓reduceIte, Tryz.f93, bU, aQ, hlt, ea, e0]
   repeat' (with_reducible first | intro _ | refine And.intro ?_ ?_)
   all_goals try (first | omega | decide)
   rename_i b hb
   refine ⟨(k + 1, some b), ?_⟩
   simp only [hy]
   refine ⟨⟨rfl, ?_⟩, aA.le_refl _, ⟨by omega, hb⟩, by omega⟩
   rw [IntWalk.i64_in _ (by omega)]; rfl
  |some n =>
   rw [aV] at hos
   simp -dsimp -implicitDefEqProofs only [go_sem, ↓reduceIte, Tryz.f93, aY, aJ, hlt, ea, e0]
   repeat' (with_reducible first | intro _ | refine And.intro ?_ ?_)
   all_goals try (first | omega | decide | exact Nat.le_refl _)
   rename_i b hb
   refine ⟨(k + 1, some b), ?_⟩
   simp only [hy, aJ, aY, aV]
   refine ⟨⟨by rw [List.length_append]; rfl, ?_⟩, ?_, ⟨by omega, hb.2⟩, by omega⟩
   ·rw [IntWalk.i64_in _ (by omega)]; rfl
   ·rw [← fO]; exact lN hos
 ·have hk' : k = vs.length := by omega
  subst hk'
  rw [List.take_of_length_le (by omega)] at hos ⊢
  cases o with
  |none =>
   rw [bH] at hos
   simp -dsimp -implicitDefEqProofs only [go_sem, ↓reduceIte, Tryz.f93, bU, aQ, Nat.lt_irrefl, Int.lt_irrefl]
   first | refine aH.mk (yR vs (by omega) (fun s hs => by rw [(hser s hs).1]; omega)) ?_ | refine aF.mk (yR vs (by omega) (fun s hs => by rw [(hser s hs).1]; omega)) ?_ | refine aH.bY (yR vs (by omega) (fun s hs => by rw [(hser s hs).1]; omega)) ?_ | refine aF.mk (bQ.fJ (yR vs (by omega) (fun s hs => by rw [(hser s hs).1]; omega))) ?_
   simp -dsimp -implicitDefEqProofs only [go_sem, ↓reduceIte, Tryz.f93]
   rw [hos]
   exact Shift.of (Sub.kL (.cons (.refl _) (.cons (Sub.loose _ _ _) (.cons (.refl _) .nil)))) (aA.le_refl _)
  |some n =>
   rw [aV] at hos
   simp -dsimp -implicitDefEqProofs only [go_sem, ↓reduceIte, Tryz.f93, aY, aJ, Nat.lt_irrefl, Int.lt_irrefl]
   first | refine aH.mk (yR vs (by omega) (fun s hs => by rw [(hser s hs).1]; omega)) ?_ | refine aF.mk (yR vs (by omega) (fun s hs => by rw [(hser s hs).1]; omega)) ?_ | refine aH.bY (yR vs (by omega) (fun s hs => by rw [(hser s hs).1]; omega)) ?_ | refine aF.mk (bQ.fJ (yR vs (by omega) (fun s hs => by rw [(hser s hs).1]; omega))) ?_
   simp -dsimp -implicitDefEqProofs only [go_sem, ↓reduceIte, Tryz.f93]
   refine jP ((vs.map fun s => s.getD 1 0).map fun n => [I n]) hos (aA.le_refl _) (by simp [gA, gB]) ?_
   simp [aD.fK, lM, List.take_of_length_le]
set_option maxRecDepth 100000
open Go.Proofs
set_option linter.unusedVariables false
set_option linter.unusedSimpArgs false
def rW (n i : Nat) : List Int := (List.replicate n 0).set i 1
def nK (p : aE) (f : Int) (args : List Int) (i : Nat) : List Int := (wP (pQ (xW p 2 f (gY args (rW args.length i))))).2.1
def vO (S : Nat → List Int) (m i k : Nat) : List (List Int) := (List.range m).map fun r => (List.range (if r < k then i + 1 else i)).map fun j => (S j).getD r 0
theorem aBY (S : Nat → List Int) (m i k : Nat) : (vO S m i k).length = m := by simp [vO]
theorem aUO (S : Nat → List Int) (m : Nat) : vO S m 0 0 = List.replicate m [] := by
 rw [vO]
 simp [List.map_const']
theorem aUP (S : Nat → List Int) (m i : Nat) : vO S m i m = vO S m (i + 1) 0 := by
 refine List.map_congr_left fun r hr => ?_
 rw [if_pos (List.mem_range.1 hr), if_neg (Nat.not_lt_zero _)]
theorem aHB (S : Nat → List Int) {m i k : Nat} (hk : k < m) : (vO S m i k)[k]? = some ((List.range i).map fun j => (S j).getD k 0) := by
 rw [vO, List.getElem?_map, List.getElem?_range hk]
 simp
theorem aOV (S : Nat → List Int) {m i k : Nat} (hk : k < m) : vO S m i (k + 1) = (vO S m i k).set k (((List.range i).map fun j => (S j).getD k 0) ++ [(S i).getD k 0]) := by
 apply List.ext_getElem?
 intro r
 rw [List.getElem?_set, aBY]
 rcases Nat.lt_trichotomy r k with h | h | h
 ·rw [if_neg (by omega)]
  simp only [vO, List.getElem?_map]
  rcases Nat.lt_or_ge r m with hr | hr
  ·rw [List.getElem?_range hr]
   simp [h, Nat.lt_succ_of_lt h]
  ·rw [List.getElem?_eq_none (by simpa using hr)]; rfl
 ·subst h
  rw [if_pos rfl, if_pos hk]
  simp only [vO, List.getElem?_map]
  rw [List.getElem?_range hk]
  simp [List.range_succ]
 ·rw [if_neg (by omega)]
  simp only [vO, List.getElem?_map]
  rcases Nat.lt_or_ge r m with hr | hr
  ·rw [List.getElem?_range hr]
   have h1 : ¬ r < k := by omega
   have h2 : ¬ r < k + 1 := by omega
   simp [h1, h2]
  ·rw [List.getElem?_eq_none (by simpa using hr)]; rfl
theorem aS4 {args : List Int} : ∀ {l : List Int} {dir : List Int}, dir.length = l.length → eR (l.map fun n => [n]) (gY l dir)
 | [], [], _ => trivial
 |a :: l, d :: dir, h => ⟨.inr ⟨a, [], [d], rfl, rfl⟩, aS4 (args := args) (by simpa using h)⟩
 | [], _ :: _, h => by simp at h
 | _ :: _, [], h => by simp at h
theorem aS5 {p : aE} (hp : p.ok) {f : Int} (hf : 0 ≤ f ∧ f < p.aI.length) {args dir : List Int} (hd : dir.length = args.length) (na : fG args) (nd : fG dir) (hl : ∀ F, p.aI[f.toNat]? = some F → (args.length : Int) = F.aZ) {vs : List (List Int)} {t : Nat} (hok : xW p 1 f (args.map fun n => [n]) = .ok (vs, t)) :
  ∃ ws, pQ (xW p 2 f (gY args dir)) = (ws, (t : Int), 0) ∧ ws.length = (p.outs f).length ∧ ∀ s ∈ ws, cV 2 s := by
 have h := aXD p 0 1 f _ _ (aS4 (args := args) hd)
 have hs := aK2 hp (sz := 2) (by omega) f hf (gY args dir) (aDN na nd) (fun F hF => by rw [aDM hd]; exact hl F hF)
 rw [hok] at h
 cases hX : xW p 2 f (gY args dir) with
 |ok q =>
  obtain ⟨ws, u⟩ := q
  rw [hX] at h
  have := h.2
  subst this
  have h2 := hs ws t hX
  exact ⟨ws, rfl, h2.1, h2.2⟩
 |error c => rw [hX] at h; exact h.elim
theorem aAE : ∀ k, OV.cC (List.replicate k [OV.nil 1]) = []
 |0 => by simp [OV.cC]
 |k + 1 => by rw [List.replicate_succ, oM, aAE k, OV.fD, OV.jG, OV.qW]; rfl
@[go_sem] def aLF : List Nat := [0, 1, 2, 3, 6, 7, 8, 10, 11, 12, 14, 16, 17, 30, 34, 35, 36, 43, 44, 45, 60, 61, 62, 63]
@[go_sem] def a15 : List Nat := [3, 38, 39, 54, 74]
@[go_sem] def a18 : Marks := fun id => match id with | 1 => ([], (.op 0 (.op 1 (.op 2 (.op 3 (.op 4 (.op 5 (.op 6 (.op 7 (.op 8 (.op 9 (.op 10 (.op 11 (.op 12 (.op 13 .nil)))))))))))))), []) | 12 => ([], (.op 0 (.op 1 (.op 2 (.op 3 (.op 4 (.op 5 (.op 6 (.op 7 (.op 8 (.op 9 (.op 10 (.op 11 (.op 12 (.op 13 (.op 14 (.op 15 .nil)))))))))))))))), []) | _ => ([], .nil, [])
theorem aUQ {p : aE} (hp : p.ok) (f : Int) (hf : 0 ≤ f ∧ f < p.aI.length) (args : List Int) (hal : args.length ≤ 1048576) (na : fG args) (hl : ∀ F, p.aI[f.toNat]? = some F → (args.length : Int) = F.aZ) {vs : List (List Int)} {t : Nat} (hok : xW p 1 f (args.map fun n => [n]) = .ok (vs, t)) :
  FnN Tryz.prog 66 [.agg p.c, I f, ints args] (QS (OS (oL I) 1 (vO (nK p f args) (p.outs f).length args.length 0)) (fun y => .kL [y, I 0])) := by
 obtain ⟨F, ef, hF1, hF2, hF3, hF4⟩ := nN hp hf
 have hm : 1 ≤ (p.outs f).length ∧ (p.outs f).length ≤ 12 := by rw [hF3]; exact hF1
 generalize hM : (p.outs f).length = M at *
 have nz : fG (List.replicate args.length 0) := fun x hx => by rw [(List.mem_replicate.1 hx).2]; exact jT
 obtain ⟨ws, hw1, hw2, hw3⟩ := aS5 hp hf (dir := List.replicate args.length 0) (by simp) na nz hl hok
 have hdir := aEQ hp f hf args (List.replicate args.length 0) (by simp) hal na nz hl
 rw [hw1, wP, if_pos rfl, aE.aR] at hdir
 rw [aE.aR]
 refine aIM 80 aLF a15 a18 mix Tryz.func66 rfl (by kernel_rfl) (by simp) fun h => ?_
 simp -dsimp -implicitDefEqProofs only [go_sem, ↓reduceIte, Tryz.f66]
 first | refine aH.mk (aSZ args.length hal) ?_ | refine aF.mk (aSZ args.length hal) ?_ | refine aH.bY (aSZ args.length hal) ?_ | refine aF.mk (bQ.fJ (aSZ args.length hal)) ?_
 simp -dsimp -implicitDefEqProofs only [go_sem, ↓reduceIte, Tryz.f66]
 refine aF.mk hdir ?_
 simp -dsimp -implicitDefEqProofs only [go_sem, ↓reduceIte, Tryz.f66]
 refine ⟨Nat.zero_lt_one, fun n0_ hn0 _ => ?_⟩
 refine dA (keep := aLF) (ib := a15) (mk := a18) mix (by kernel_rfl) (fun x : Nat × Nat => [(1, I f), (2, ints args), (3, .ip 1 [[eI 3 aS.c p.aI]] 0 0), (11, .os x.2 1 0 x.1), (34, I M), (35, I x.1)]) (fun x => aT h x.2 (.row 1 (List.replicate x.1 [Cell.v (.sl 1 [] true)]))) (fun x => x.1 ≤ M ∧ h x.2 = none) (fun x => M - x.1) (0, n0_) ⟨by simp [dF, b6, hw2, hM], aA.le_refl _, Nat.zero_le _, hn0⟩ ?_
 rintro ⟨k, b⟩ ⟨hk, hb⟩
 simp only at hk hb ⊢
 rcases Nat.lt_or_ge k M with hlt | hge
 ·simp -dsimp -implicitDefEqProofs only [go_sem, ↓reduceIte, Tryz.f66, hlt, List.length_replicate]
  refine ⟨Nat.zero_lt_one, Nat.zero_lt_one, Nat.zero_lt_one, Nat.zero_lt_one, Nat.le_refl _, by omega, by omega, fun b2 kE => ⟨(k + 1, b2), ⟨rfl, by rw [IntWalk.i64_in _ (by omega)]; rfl⟩, ?_, ⟨by omega, kE.2⟩, by simp only; omega⟩⟩
  rw [List.take_of_length_le (by rw [List.length_replicate]; exact Nat.le_refl _), ← List.replicate_succ']
  exact lN hb
 have hk' : k = M := by omega
 subst hk'
 simp -dsimp -implicitDefEqProofs only [go_sem, ↓reduceIte, Tryz.f66, Nat.lt_irrefl, Int.lt_irrefl]
 intro _
 have hcell : List.replicate k [Cell.v (.sl 1 [] true)] = OV.cells (List.replicate k [OV.nil 1]) := by simp [OV.cells, OV.val]
 rw [hcell]
 generalize hS : nK p f args = S at *
 refine dA (keep := aLF) (ib := a15) (mk := a18) mix (by kernel_rfl) (fun x : Nat × List (List OV) × aA => [(1, I f), (2, ints args), (3, .ip 1 [[eI 3 aS.c p.aI]] 0 0), (11, .os b 1 0 k), (43, I args.length), (44, I x.1)]) (fun x => x.2.2) (fun x => x.1 ≤ args.length ∧ OR (oL I) (vO S k x.1 0) x.2.1 ∧ fM h (OV.b5 [OV.sl b 1 x.2.1]) x.2.2) (fun x => args.length - x.1) (0, List.replicate k [OV.nil 1], aT h b (.row 1 (OV.cells (List.replicate k [OV.nil 1])))) ⟨by simp [dF, b6], aA.le_refl _, Nat.zero_le _, by simp only; rw [aUO]; exact OR.bDO ⟨_, rfl, OS.nil⟩ _, ?_⟩ ?_
 ·simp only
  rw [OV.fD, OV.jG, List.append_nil, OV.jF]
  rw [aAE]
  exact fM.one hb
 rintro ⟨i, es, g⟩ ⟨hi, hes, hnw⟩
 simp only at hi hes hnw ⊢
 have hgb : g b = some (.row 1 (OV.cells es)) := hnw.a4V []
 have hel : es.length = k := by rw [← hes.length, aBY]
 rcases Nat.lt_or_ge i args.length with hlt | hge
 ·have hun : fG (rW args.length i) := fun x hx => by
   rcases List.mem_or_eq_of_mem_set hx with hx | rfl
   ·rw [(List.mem_replicate.1 hx).2]; exact jT
   ·unfold kI; omega
  obtain ⟨us, hu1, hu2, hu3⟩ := aS5 hp hf (dir := rW args.length i) (by simp [rW]) na hun hl hok
  have hdi := aEQ hp f hf args (rW args.length i) (by simp [rW]) hal na hun hl
  have hSi : S i = us.map fun s => s.getD 1 0 := by rw [← hS, nK, hu1]; rfl
  rw [hu1, wP, if_pos rfl, ← hSi, aE.aR] at hdi
  simp -dsimp -implicitDefEqProofs only [go_sem, ↓reduceIte, Tryz.f66, hlt]
  refine ⟨Nat.zero_lt_one, Nat.zero_lt_one, ?_⟩
  first | refine aH.mk (aS0 args.length i hal hlt) ?_ | refine aF.mk (aS0 args.length i hal hlt) ?_ | refine aH.bY (aS0 args.length i hal hlt) ?_ | refine aF.mk (bQ.fJ (aS0 args.length i hal hlt)) ?_
  simp -dsimp -implicitDefEqProofs only [go_sem, ↓reduceIte, Tryz.f66]
  refine aF.mk hdi ?_
  simp -dsimp -implicitDefEqProofs only [go_sem, ↓reduceIte, Tryz.f66]
  have hSl : (S i).length = k := by rw [hSi, List.length_map, hu2]; exact hM
  intro _
  refine dA (keep := aLF) (ib := a15) (mk := a18) mix (by kernel_rfl) (fun x : Nat × List (List OV) × aA => [(1, I f), (2, ints args), (3, .ip 1 [[eI 3 aS.c p.aI]] 0 0), (11, .os b 1 0 k), (43, I args.length), (44, I i), (60, ints (S i)), (61, I k), (62, I x.1)]) (fun x => x.2.2) (fun x => x.1 ≤ k ∧ OR (oL I) (vO S k i x.1) x.2.1 ∧ fM h (OV.b5 [OV.sl b 1 x.2.1]) x.2.2) (fun x => k - x.1) (0, es, g) ⟨by simp [dF, b6, hSl], aA.le_refl _, Nat.zero_le _, hes, hnw⟩ ?_
  rintro ⟨j, es, g⟩ ⟨hj, hes, hnw⟩
  simp only at hj hes hnw ⊢
  have hgb : g b = some (.row 1 (OV.cells es)) := hnw.a4V []
  have hel : es.length = k := by rw [← hes.length, aBY]
  rcases Nat.lt_or_ge j k with nD | aKZ
  ·have eS := cX (l := S i) (i := j) (by omega)
   obtain ⟨e, he, y, rfl, hy⟩ := hes.a7F j _ (aHB S nD)
   have hcg := aI8 he
   have hyl : ((List.range i).map fun n => (S n).getD j 0).length = i := by simp
   rcases hy.aQE with ⟨rfl, h0⟩ | ⟨n, rfl⟩
   ·simp -dsimp -implicitDefEqProofs only [go_sem, ↓reduceIte, Tryz.f66, nD, eS, hgb, hcg, OV.aKM, cK, hel]
    refine ⟨by omega, Nat.zero_lt_one, Nat.zero_lt_one, Nat.zero_lt_one, fun m hm => ?_⟩
    have mV : ¬ m = b := fun e => by rw [e, hgb] at hm; cases hm
    have fW : ¬ b = m := Ne.symm mV
    have kU : (m = b) = False := eq_false mV
    have kT : (b = m) = False := eq_false fW
    simp -dsimp -implicitDefEqProofs only [go_sem, ↓reduceIte, Tryz.f66, aC, kU, kT, hgb, cK, hel, nD, hcg]
    obtain ⟨g3, w1, w2⟩ := hnw.a5V (c := I) (x := (S i).getD j 0) (F := aT (aT g m (.row 1 [[.v (I ((S i).getD j 0))]])) b (.row 1 ((OV.cells es).set j [.v (.os m 1 0 1)]))) he hy hm (fun q _ => by rw [h0]; rfl)
    refine ⟨(j + 1, _, g3), by rw [IntWalk.i64_in _ (by omega)]; rfl, w1, ⟨by omega, ?_, w2⟩, by simp only; omega⟩
    simp only
    rw [aOV S nD]
    exact hes.set j _ _ ⟨_, rfl, OS.mk (aGS _)⟩
   ·obtain ⟨hgn, aX0⟩ := hnw.bFC he
    have aS3 : (n = b) = False := eq_false aX0
    have aS2 : (b = n) = False := eq_false (Ne.symm aX0)
    simp -dsimp -implicitDefEqProofs only [go_sem, ↓reduceIte, Tryz.f66, nD, eS, hgb, hcg, OV.aN9, cK, hel, hgn]
    rw [List.length_range]
    refine ⟨by omega, Nat.zero_lt_one, Nat.zero_lt_one, Nat.zero_lt_one, Nat.le_refl _, by omega, by omega, fun m hm => ?_⟩
    have mV : ¬ m = b := fun e => by rw [e, hgb] at hm; cases hm
    have fW : ¬ b = m := Ne.symm mV
    have kU : (m = b) = False := eq_false mV
    have kT : (b = m) = False := eq_false fW
    have rV : ¬ m = n := fun e => by rw [e, hgn] at hm; cases hm
    have rD : ¬ n = m := Ne.symm rV
    have tF : (m = n) = False := eq_false rV
    have tG : (n = m) = False := eq_false rD
    simp -dsimp -implicitDefEqProofs only [go_sem, ↓reduceIte, Tryz.f66, aC, kU, tF, kT, aS2, tG, aS3, hgb, cK, hel, nD, hcg]
    have hgr := fO I ((List.range i).map fun n => (S n).getD j 0) ((S i).getD j 0)
    rw [hyl] at hgr
    rw [hgr]
    obtain ⟨g3, w1, w2⟩ := hnw.a5V (c := I) (x := (S i).getD j 0) (F := aT (aT (aT g n .gone) m (.row 1 (((((List.range i).map fun n => (S n).getD j 0) ++ [(S i).getD j 0]).map fun n => [I n]).map (List.map .v)))) b (.row 1 ((OV.cells es).set j [.v (.os m 1 0 (i + 1))]))) he hy hm (fun q hq => by
     rw [hyl]
     have hqn := hq n _ _ rfl
     simp only [dP, if_neg hqn])
    refine ⟨(j + 1, _, g3), by rw [IntWalk.i64_in _ (by omega)]; rfl, w1, ⟨by omega, ?_, w2⟩, by simp only; omega⟩
    simp only
    rw [aOV S nD]
    exact hes.set j _ _ ⟨_, rfl, OS.mk (aGS _)⟩
  ·have hj' : j = k := by omega
   subst hj'
   simp -dsimp -implicitDefEqProofs only [go_sem, ↓reduceIte, Tryz.f66, Nat.lt_irrefl, Int.lt_irrefl]
   exact ⟨(i + 1, es, g), by rw [IntWalk.i64_in _ (by omega)]; rfl, aA.le_refl _, ⟨by omega, by simp only; rw [← aUP]; exact hes, hnw⟩, by simp only; omega⟩
 ·have hi' : i = args.length := by omega
  subst hi'
  simp -dsimp -implicitDefEqProofs only [go_sem, ↓reduceIte, Tryz.f66, Nat.lt_irrefl, Int.lt_irrefl]
  rw [OV.fD, OV.jG, List.append_nil] at hnw
  exact ⟨_, g, _, bD _ _, ⟨OV.sl b 1 es, OS.mk hes, by rw [OV.yK, hel], rfl⟩, hnw⟩
set_option maxRecDepth 100000
open Go.Proofs
set_option linter.unusedVariables false
set_option linter.unusedSimpArgs false
theorem a19 (n : Nat) (hn : n ≤ 1048576) (h : aA) : fF Tryz.prog 112 [.bI, I n] h fun r h' => (n = 0 ∧ r = .bI ∧ h' = h) ∨ (0 < n ∧ ∃ m, h m = none ∧ r = .os m 1 0 0 ∧ h' = aT h m (.row 1 [])) := by
 refine ⟨by kernel_rfl, fun E w vs R hL => ?_⟩
 have hvs : vs = [.slice none 0 0, .int .i64 n] := by
  match vs, hL with
  | [a, b], hL => rw [show a = .slice none 0 0 by cases hL.1; rfl, kC hL.2.1]
 subst hvs
 rcases Nat.eq_zero_or_pos n with rfl | h0
 ·refine (aLD w).mono ?_
  rintro e w' ⟨rfl, rfl⟩
  exact ⟨.bI, h, E, .inl ⟨rfl, rfl, rfl⟩, .refl _ _ _, R, .bI⟩
 ·obtain ⟨i, u, hi, hu, hsz, hby, hd, hag, hz⟩ := pI ty2
  cases hiz : i.zero with
  |none => rw [hiz] at hz; simp at hz
  |some z =>
  have hb8 : i.bytes = 8 := hby.symm
  have kM : i.size = 1 := hsz.symm
  have hrz := fun ty => Lib.run_append_nil_zeros (P := Tryz.prog) w 27 3 ty 2 i z .i64 .i64 (by kernel_rfl) (by kernel_rfl) hi hiz n h0 (by omega) (by omega) (by rw [hb8]; omega)
  have hge := grownCap_ge w n 0 2
  have hmx := grownCap_le_maxLen w n 0 2 (by unfold maxLen; omega)
  have hzs : z.cells.size = 1 := by
   rw [hiz] at hz
   have := congrArg List.length hz
   simp at this
   exact this.symm
  have hcz : (Builtin.zeroCells z.cells n ++ Builtin.zeroCells z.cells (grownCap w n 0 2 - n)).size = grownCap w n 0 2 := by
   rw [Array.size_append, sS, sS, hzs]; omega
  refine (aLC n _ w _ h0 hn hge hmx hrz).mono ?_
  rintro e w' ⟨rfl, rfl⟩
  generalize Builtin.zeroCells z.cells n ++ Builtin.zeroCells z.cells (grownCap w n 0 2 - n) = cs at hcz ⊢
  obtain ⟨m, hm⟩ := R.fresh
  have hal := R.aIY hm 1 [] (by simp) cs 2 w.drew.drawn (fun _ _ => undef) (by simp) (by simp [iW])
  have vC := Ev.alloc R hm (.cells cs 2 (0, 0)) (.row 1 []) w.drew.drawn
  refine ⟨.os m 1 0 0, aT h m (.row 1 []), E.add m w.heap.size, .inr ⟨h0, m, R.none hm, rfl, rfl⟩, vC, hal, ?_⟩
  refine fL.os m 1 0 0 w.heap.size 0 (grownCap w n 0 2) 2 cs.size (by simp [Env.add]) (by simp [Env.add]) (Nat.zero_le _) hmx ?_ (by rw [hcz]; omega)
  exact k8 (f := (0, 0)) (rZ w (.cells cs 2 (0, 0)) w.drew.drawn)
def yT (a b : List Int) : Nat → List Int
 |0 => []
 |1 => a
 | _ => a ++ b
@[go_sem] def aLG : List Nat := [0, 2, 3, 5, 6, 8, 9, 10, 11, 12, 20, 25, 26, 27, 28]
@[go_sem] def a2A : List Nat := []
@[go_sem] def a2B : Marks := fun _ => ([], .nil, [])
theorem a2C (a b : List Int) (ha : a.length ≤ 1000) (hb : b.length ≤ 1000) : gV Tryz.prog 85 [.sl 1 [[ints a], [ints b]] true] (ints (a ++ b)) := by
 refine uU 36 aLG a2A a2B mix Tryz.func85 rfl (by kernel_rfl) (by simp) fun h => ?_
 simp -dsimp -implicitDefEqProofs only [go_sem, ↓reduceIte, Tryz.f85]
 refine oN (keep := aLG) (ib := a2A) (mk := a2B) mix (by kernel_rfl) (fun k : Nat => [(0, .sl 1 [[ints a], [ints b]] true), (3, I (yT a b k).length), (9, .sl 1 [[ints a], [ints b]] true), (10, I 2), (11, I k)]) (fun k => k ≤ 2) (fun k => 2 - k) 0 ⟨by simp [dF, b6, yT], by omega⟩ ?_
 intro k hk
 have hk3 : k = 0 ∨ k = 1 ∨ k = 2 := by omega
 rcases hk3 with rfl | rfl | rfl
 ·simp -dsimp -implicitDefEqProofs only [go_sem, ↓reduceIte, Tryz.f85]
  have e0 : (yT a b 0).length = 0 := rfl
  have e1 : yT a b 1 = a := rfl
  refine ⟨fun _ => ⟨by decide, fun _ => ?_⟩, fun q => absurd (by decide) q⟩
  rw [IntWalk.i64_in _ (by omega)]
  exact ⟨fun q => absurd q (by omega), fun _ => ⟨1, ⟨by rw [e1]; omega, by decide⟩, by omega, by omega⟩⟩
 ·simp -dsimp -implicitDefEqProofs only [go_sem, ↓reduceIte, Tryz.f85]
  have e1 : yT a b 1 = a := rfl
  have e2 : (yT a b 2).length = a.length + b.length := by simp [yT]
  refine ⟨fun _ => ⟨by decide, fun _ => ?_⟩, fun q => absurd (by decide) q⟩
  rw [e1, IntWalk.i64_in _ (by omega)]
  exact ⟨fun q => absurd q (by omega), fun _ => ⟨2, ⟨by rw [e2]; omega, by decide⟩, by omega, by omega⟩⟩
 ·simp -dsimp -implicitDefEqProofs only [go_sem, ↓reduceIte, Tryz.f85]
  have e2 : (yT a b 2).length = a.length + b.length := by simp [yT]
  refine ⟨fun q => absurd q (by decide), fun _ => ?_⟩
  refine aH.eM (a19 _ (by omega) h) ?_
  rintro r h' (⟨hz, rfl, rfl⟩ | ⟨hp, m, hm, rfl, rfl⟩)
  ·have ha0 : a = [] := List.length_eq_zero_iff.1 (by omega)
   have hb0 : b = [] := List.length_eq_zero_iff.1 (by omega)
   subst ha0
   subst hb0
   simp -dsimp -implicitDefEqProofs only [go_sem, ↓reduceIte, Tryz.f85]
   refine oN (keep := aLG) (ib := a2A) (mk := a2B) mix (by kernel_rfl) (fun k : Nat => [(6, .bI), (25, .sl 1 [[ints []], [ints []]] true), (26, I 2), (27, I k)]) (fun k => k ≤ 2) (fun k => 2 - k) 0 ⟨by simp [dF, b6], by omega⟩ ?_
   intro k hk
   have hk3 : k = 0 ∨ k = 1 ∨ k = 2 := by omega
   rcases hk3 with rfl | rfl | rfl
   ·simp -dsimp -implicitDefEqProofs only [go_sem, ↓reduceIte, Tryz.f85]
    exact ⟨fun _ => ⟨by decide, Nat.zero_lt_one, 1, by decide, by omega, by omega⟩, fun q => absurd (by decide) q⟩
   ·simp -dsimp -implicitDefEqProofs only [go_sem, ↓reduceIte, Tryz.f85]
    exact ⟨fun _ => ⟨by decide, Nat.zero_lt_one, 2, by decide, by omega, by omega⟩, fun q => absurd (by decide) q⟩
   ·simp -dsimp -implicitDefEqProofs only [go_sem, ↓reduceIte, Tryz.f85]
    exact ⟨fun q => absurd q (by decide), fun _ => Shift.of (Sub.nil 1 false) (aA.le_refl _)⟩
  ·simp -dsimp -implicitDefEqProofs only [go_sem, ↓reduceIte, Tryz.f85]
   refine dA (keep := aLG) (ib := a2A) (mk := a2B) mix (by kernel_rfl) (fun x : Nat × Nat => [(6, .os x.2 1 0 (yT a b x.1).length), (25, .sl 1 [[ints a], [ints b]] true), (26, I 2), (27, I x.1)]) (fun x => aT h x.2 (.row 1 (((yT a b x.1).map fun n => [I n]).map (List.map .v)))) (fun x => x.1 ≤ 2 ∧ h x.2 = none) (fun x => 2 - x.1) (0, m) ⟨by simp [dF, b6, yT], aA.le_refl _, by simp only; omega, hm⟩ ?_
   rintro ⟨k, m⟩ ⟨hk, hm⟩
   simp only at hk hm ⊢
   have hk3 : k = 0 ∨ k = 1 ∨ k = 2 := by omega
   rcases hk3 with rfl | rfl | rfl
   ·simp -dsimp -implicitDefEqProofs only [go_sem, ↓reduceIte, Tryz.f85]
    have e0 : yT a b 0 = [] := rfl
    have e1 : yT a b 1 = a := rfl
    rw [e0, List.length_nil, Nat.zero_add]
    refine ⟨fun _ => ⟨by decide, Nat.zero_lt_one, Nat.le_refl _, by omega, by omega, fun c hc => ⟨(1, c), ⟨by rw [e1], by simp only; decide⟩, ?_, ⟨by simp only; omega, hc.2⟩, by simp only; omega⟩⟩, fun q => absurd (by decide) q⟩
    simp only [e1]
    exact lN hm
   ·simp -dsimp -implicitDefEqProofs only [go_sem, ↓reduceIte, Tryz.f85]
    have e1 : yT a b 1 = a := rfl
    have e2 : yT a b 2 = a ++ b := rfl
    rw [e1]
    refine ⟨fun _ => ⟨by decide, Nat.zero_lt_one, Nat.le_refl _, by omega, by omega, fun c hc => ⟨(2, c), ⟨by rw [e2, List.length_append], by simp only; decide⟩, ?_, ⟨by simp only; omega, hc.2⟩, by simp only; omega⟩⟩, fun q => absurd (by decide) q⟩
    simp only [e2]
    rw [List.take_of_length_le (by simp), List.map_append, List.map_append]
    exact lN hm
   ·simp -dsimp -implicitDefEqProofs only [go_sem, ↓reduceIte, Tryz.f85]
    have e2 : yT a b 2 = a ++ b := rfl
    rw [e2]
    exact ⟨fun q => absurd q (by decide), fun _ => fQ _ hm (aA.le_refl _) rfl⟩
open Go.Proofs
set_option linter.unusedVariables false
set_option linter.unusedSimpArgs false
open Go.Proofs
set_option linter.unusedVariables false
set_option linter.unusedSimpArgs false
set_option maxRecDepth 100000
open Go.Proofs
set_option linter.unusedVariables false
set_option linter.unusedSimpArgs false
def uW (j : eU) (k : Int) : Prop := 0 ≤ k ∧ k ≤ (j.cP.length : Int) - 1
noncomputable instance (j : eU) (k : Int) : Decidable (uW j k) := Classical.propDecidable _
@[go_sem] def a8R : List Nat := [0, 1, 2, 4]
@[go_sem] def bLN : List Nat := [2]
@[go_sem] def bLO : Marks := fun _ => ([], .nil, [])
theorem has (j : eU) (k : Int) (hl : j.cP.length ≤ 1048576) : gV Tryz.prog 25 [.agg j.c, I k] (.bool (decide (uW j k))) := by
 simp only [eU.aR]
 refine gD 11 a8R bLN bLO mix Tryz.func25 rfl (by kernel_rfl) (by simp) fun h => ?_
 simp -dsimp -implicitDefEqProofs only [go_sem, ↓reduceIte, Tryz.f25]
 intro _
 rw [IntWalk.i64_in _ (by omega)]
 first | refine aH.mk (within k 0 ((j.cP.length : Int) - 1)) ?_ | refine aF.mk (within k 0 ((j.cP.length : Int) - 1)) ?_ | refine aH.bY (within k 0 ((j.cP.length : Int) - 1)) ?_ | refine aF.mk (bQ.fJ (within k 0 ((j.cP.length : Int) - 1))) ?_
 simp -dsimp -implicitDefEqProofs only [go_sem, ↓reduceIte, Tryz.f25]
 exact decide_eq_decide.2 Iff.rfl
@[go_sem] def a8S : List Nat := [0, 1, 4]
@[go_sem] def bLP : List Nat := []
@[go_sem] def bLQ : Marks := fun _ => ([], .nil, [])
theorem a2D (j : eU) (k : Int) (hl : j.cP.length ≤ 1048576) : gV Tryz.prog 29 [.ip 5 [j.c] 0 0, I k] (.bool (decide (uW j k))) := by
 simp only [eU.aR]
 refine gD 13 a8S bLP bLQ mix Tryz.func29 rfl (by kernel_rfl) (by simp) fun h => ?_
 simp -dsimp -implicitDefEqProofs only [go_sem, ↓reduceIte, Tryz.f29]
 repeat' (with_reducible first | intro _ | refine And.intro ?_ ?_)
 all_goals try omega
 rw [IntWalk.i64_in _ (by omega)]
 first | refine aH.mk (fI k 0 ((j.cP.length : Int) - 1)) ?_ | refine aF.mk (fI k 0 ((j.cP.length : Int) - 1)) ?_ | refine aH.bY (fI k 0 ((j.cP.length : Int) - 1)) ?_ | refine aF.mk (bQ.fJ (fI k 0 ((j.cP.length : Int) - 1))) ?_
 simp -dsimp -implicitDefEqProofs only [go_sem, ↓reduceIte, Tryz.f29]
 exact decide_eq_decide.2 Iff.rfl
set_option maxRecDepth 100000
open Go.Proofs
set_option linter.unusedVariables false
set_option linter.unusedSimpArgs false
theorem qN {j : eU} (h : j.ok) : ∃ F, j.aU.aI[j.cO.toNat]? = some F ∧ (0 ≤ j.cO ∧ j.cO < j.aU.aI.length) ∧ (0 ≤ F.aZ ∧ F.aZ ≤ 12) ∧ j.okF F := by
 have hk : j.cO.toNat < j.aU.aI.length := by have := h.2.1; omega
 have e := List.getElem?_eq_getElem hk
 exact ⟨_, e, by have := h.2.1; omega, (h.1.2 _ _ e).2.1, h.2.2 _ e⟩
def bJ (j : eU) (k : Nat) : List Int := j.cJ ++ j.cP.getD k []
def lR (j : eU) (k : Nat) : lI := match xW j.aU 1 j.cO ((bJ j k).map fun n => [n]) with
 | .error c => ⟨c, 0, []⟩
 | .ok (vs, _) => ⟨0, (vs.getD 0 []).getD 0 0, ((vO (nK j.aU j.cO (bJ j k)) (j.aU.outs j.cO).length (bJ j k).length 0).getD 0 []).take j.bK.toNat⟩
theorem oX {j : eU} (h : j.ok) {k : Nat} (hk : k < j.cP.length) : (j.cP[k]? = some (j.cP.getD k [])) ∧ fG (bJ j k) ∧ (∀ F, j.aU.aI[j.cO.toNat]? = some F → ((bJ j k).length : Int) = F.aZ) ∧ (bJ j k).length ≤ 12 ∧ j.cJ.length ≤ 12 ∧ (j.cP.getD k []).length ≤ 12 ∧ 0 ≤ j.bK ∧ j.bK.toNat ≤ (bJ j k).length := by
 obtain ⟨F, eF, hf, hF, ok⟩ := qN h
 obtain ⟨o1, o2, o3, o4⟩ := ok
 have hg : j.cP.getD k [] = j.cP[k] := by rw [List.getD_eq_getElem?_getD, List.getElem?_eq_getElem hk]; rfl
 have ht := o4 _ (List.getElem_mem hk)
 have hlen : ((bJ j k).length : Int) = F.aZ := by
  rw [bJ, hg, List.length_append]
  have := ht.1
  have := o2.1
  omega
 refine ⟨by rw [hg]; exact List.getElem?_eq_getElem hk, fun x hx => ?_, fun G hG => ?_, by omega, by have := o2.1; omega, by rw [hg]; have := ht.1; omega, o1.1, by omega⟩
 ·rw [bJ, hg] at hx
  rcases List.mem_append.1 hx with hx | hx
  ·exact o2.2 x hx
  ·exact ht.2 x hx
 ·rw [eF] at hG
  cases hG
  exact hlen
noncomputable def qS (j : eU) (k : Int) : lI × Int := if j.ok then (if uW j k then (lR j k.toNat, 0) else (⟨0, 0, []⟩, 2)) else (⟨0, 0, []⟩, 1)
theorem aUR {j : eU} {k : Int} (h : ¬ j.ok) : qS j k = (⟨0, 0, []⟩, 1) := if_neg h
theorem aUS {j : eU} {k : Int} (h : j.ok) (h2 : ¬ uW j k) : qS j k = (⟨0, 0, []⟩, 2) := by rw [qS, if_pos h, if_neg h2]
theorem aAQ {j : eU} {k : Int} (h : j.ok) (h2 : uW j k) : qS j k = (lR j k.toNat, 0) := by rw [qS, if_pos h, if_pos h2]
theorem aS6 : a4U (lI.o ⟨0, 0, []⟩) [I 0, I 0, .bI] := ⟨[.v (I 0), .v (I 0), .nil 1], ⟨_, rfl, OS.nil⟩, by simp [OV.fD, OV.jG, OV.rO, OV.qW], Sub.agg (.cons (.refl _) (.cons (.refl _) (.cons (Sub.nil _ _) .nil)))⟩
@[go_sem] def a8T : List Nat := [0, 1, 2, 4]
@[go_sem] def bLR : List Nat := [2, 12]
@[go_sem] def bLS : Marks := fun id => match id with | 1 => ([], (.op 0 (.op 1 (.op 2 (.op 3 (.op 4 (.op 5 (.op 6 (.op 7 (.op 8 (.op 9 .nil)))))))))), []) | _ => ([], .nil, [])
theorem a5Z {j : eU} (h : j.ok) {k : Nat} (hk : k < j.cP.length) : gV Tryz.prog 55 [.agg j.c, I k] (ints (bJ j k)) := by
 obtain ⟨t1, t2, t3, t4, t5, t6, t7, t8⟩ := oX h hk
 have hc := a2C j.cJ (j.cP.getD k []) (by omega) (by omega)
 simp only [eU.aR]
 refine gD 14 a8T bLR bLS mix Tryz.func55 rfl (by kernel_rfl) (by simp) fun h => ?_
 simp -dsimp -implicitDefEqProofs only [go_sem, ↓reduceIte, Tryz.f55, t1]
 refine ⟨by omega, Nat.zero_lt_one, rfl, ?_⟩
 refine aF.mk hc ?_
 simp -dsimp -implicitDefEqProofs only [go_sem, ↓reduceIte, Tryz.f55]
 rfl
@[go_sem] def a8U : List Nat := [0, 1, 2, 4, 5, 7, 8, 24]
@[go_sem] def bLT : List Nat := [2]
@[go_sem] def bLU : Marks := fun id => match id with | 1 => ([6, 7, 8], (.op 0 (.op 1 (.op 2 (.op 3 (.op 4 (.op 5 (.op 6 (.op 7 (.op 8 (.op 9 (.op 10 (.op 11 (.op 12 (.op 13 (.op 14 (.op 15 .nil)))))))))))))))), []) | 4 => ([6, 7], (.op 0 (.op 1 (.op 2 (.op 3 (.op 4 (.op 5 (.op 6 (.op 7 (.op 8 (.op 9 (.op 10 (.op 11 (.op 12 .nil))))))))))))), []) | 5 => ([11, 13], (.op 0 (.op 1 (.op 2 (.op 3 (.op 4 (.op 5 (.op 6 (.op 7 (.op 8 (.op 9 (.op 10 (.op 11 (.op 12 (.op 13 .nil)))))))))))))), []) | _ => ([], .nil, [])
set_option maxHeartbeats 1000000 in
theorem bFM {j : eU} (hj : j.ok) {k : Nat} (hk : k < j.cP.length) : FnN Tryz.prog 32 [.agg j.c, I k] (QA (lR j k).o) := by
 obtain ⟨t1, t2, t3, t4, t5, t6, t7, t8⟩ := oX hj hk
 obtain ⟨F, eF, hf, hF, ok⟩ := qN hj
 have hargs := a5Z hj hk
 have hsing := a1X (bJ j k) (by omega)
 have vC := aJH hj.1 (sz := 1) (by decide) j.cO hf ((bJ j k).map fun n => [n]) (fun s hs => by
  obtain ⟨n, hn, rfl⟩ := List.mem_map.1 hs
  refine ⟨rfl, fun x hx => ?_⟩
  rw [List.mem_singleton.1 hx]
  exact t2 n hn) (fun F hF => by rw [List.length_map]; exact t3 F hF)
 rw [show (((1 : Nat) : Int) - 1) = 0 from rfl, aE.aR] at vC
 simp only [eU.aR] at hargs ⊢
 refine aIM 51 a8U bLT bLU mix Tryz.func32 rfl (by kernel_rfl) (by simp) fun h => ?_
 simp -dsimp -implicitDefEqProofs only [go_sem, ↓reduceIte, Tryz.f32]
 intro n4 z4
 try simp -dsimp -implicitDefEqProofs only [go_sem, ↓reduceIte, Tryz.f32]
 refine aH.mk hargs ?_
 simp -dsimp -implicitDefEqProofs only [go_sem, ↓reduceIte, Tryz.f32]
 refine aH.mk hsing ?_
 simp -dsimp -implicitDefEqProofs only [go_sem, ↓reduceIte, Tryz.f32]
 refine aH.mk vC ?_
 simp -dsimp -implicitDefEqProofs only [go_sem, ↓reduceIte, Tryz.f32]
 have hse := aK2 hj.1 (sz := 1) (by decide) j.cO hf ((bJ j k).map fun n => [n]) (fun s hs => by
  obtain ⟨n, hn, rfl⟩ := List.mem_map.1 hs
  refine ⟨rfl, fun x hx => ?_⟩
  rw [List.mem_singleton.1 hx]
  exact t2 n hn) (fun F hF => by rw [List.length_map]; exact t3 F hF)
 have her := aBS j.aU 1 j.cO ((bJ j k).map fun n => [n])
 cases hX : xW j.aU 1 j.cO ((bJ j k).map fun n => [n]) with
 |error c =>
  have hc : ¬ c = 0 := by rcases her c hX with rfl | rfl <;> decide
  refine ⟨fun _ => ?_, fun q => absurd q hc⟩
  have hp : lR j k = ⟨c, 0, []⟩ := by rw [lR, hX]
  rw [hp, pQ]
  exact aGV (z := [I c, I 0, .bI]) ⟨[.v (I c), .v (I 0), .nil 1], ⟨_, rfl, OS.nil⟩, by simp [OV.fD, OV.jG, OV.rO, OV.qW], Sub.agg (.cons (.refl _) (.cons (.refl _) (.cons (Sub.nil _ _) .nil)))⟩ a0U (by repeat' (first | exact aA.le_refl _ | refine aA.kD ?_ | refine aA.aP (by first | assumption | (rw [aC _ _ _ _ (by assumption)]; assumption) | (rw [aC _ _ _ _ (by assumption), aC _ _ _ _ (by assumption)]; assumption) | (rw [aC _ _ _ _ (by assumption), aC _ _ _ _ (by assumption), aC _ _ _ _ (by assumption)]; assumption)) ?_))
 |ok q =>
  obtain ⟨vs, t⟩ := q
  refine ⟨fun q => absurd rfl q, fun _ => ?_⟩
  have hv := hse vs t hX
  obtain ⟨F2, eF2, hO1, hO2, hO3, hO4⟩ := nN hj.1 hf
  have hjac := QS.a7C (aUQ hj.1 j.cO hf (bJ j k) (by omega) t2 t3 hX) (fun y hy => OS.sZ (c := fun s => [ints s]) (fun _ _ q => a8O q) hy) (aN6 [] [I 0])
  rw [aE.aR] at hjac
  have hp : lR j k = ⟨0, (vs.getD 0 []).getD 0 0, ((vO (nK j.aU j.cO (bJ j k)) (j.aU.outs j.cO).length (bJ j k).length 0).getD 0 []).take j.bK.toNat⟩ := by rw [lR, hX]
  rw [hp]
  refine aH.mk hargs ?_
  simp -dsimp -implicitDefEqProofs only [go_sem, ↓reduceIte, Tryz.f32]
  refine aH.mk hjac ?_
  have hl0 : 0 < (j.aU.outs j.cO).length := by rw [hO3]; omega
  have nF := hv.get (i := 0) hl0
  have g0 : vs[Int.toNat 0]? = some (vs.getD 0 []) := kS (by rw [hv.1]; exact hl0)
  have gs : (vs.getD 0 [])[Int.toNat 0]? = some ((vs.getD 0 []).getD 0 0) := cX (by rw [nF.1]; decide)
  have hJl := aBY (nK j.aU j.cO (bJ j k)) (j.aU.outs j.cO).length (bJ j k).length 0
  have hJ0 := aHB (nK j.aU j.cO (bJ j k)) (m := (j.aU.outs j.cO).length) (i := (bJ j k).length) (k := 0) hl0
  generalize vO (nK j.aU j.cO (bJ j k)) (j.aU.outs j.cO).length (bJ j k).length 0 = J at *
  have gJ : J[Int.toNat 0]? = some (J.getD 0 []) := kS (by omega)
  have hJ1 : (J.getD 0 []).length = (bJ j k).length := by
   rw [List.getD_eq_getElem?_getD, hJ0]; simp
  rw [show pQ (.ok (vs, t)) = (vs, (t : Int), 0) from rfl]
  simp -dsimp -implicitDefEqProofs only [go_sem, ↓reduceIte, Tryz.f32, g0, gs, gJ]
  rw [hv.1, nF.1, hJl]
  refine ⟨by omega, by decide, by omega, Int.le_refl _, t7, by rw [List.length_map]; omega, ?_⟩
  simp -dsimp -implicitDefEqProofs only [go_sem, ↓reduceIte, Tryz.f32]
  rw [← List.map_take]
  refine aH.wn1 (aW6 ((J.getD 0 []).take j.bK.toNat) (by rw [List.length_take]; omega)) z4 ?_
  rintro r l g ⟨y, oy, rfl, rfl⟩ wn z4
  simp -dsimp -implicitDefEqProofs only [go_sem, ↓reduceIte, Tryz.f32, oy.flat, oy.one]
  exact aOB (e := [.v (I 0), .v (I ((vs.getD 0 []).getD 0 0)), y]) (by simp only [OV.fH, OV.cG, OV.jS]) ⟨y, rfl, oy⟩ (by rw [OV.fD, OV.fD, OV.fD, OV.jG, OV.rO, OV.rO, List.append_nil]; exact wn) (by repeat' (first | exact aA.le_refl _ | refine aA.kD ?_ | refine aA.aP (by first | assumption | (rw [aC _ _ _ _ (by assumption)]; assumption) | (rw [aC _ _ _ _ (by assumption), aC _ _ _ _ (by assumption)]; assumption) | (rw [aC _ _ _ _ (by assumption), aC _ _ _ _ (by assumption), aC _ _ _ _ (by assumption)]; assumption)) ?_))
@[go_sem] def a8V : List Nat := [0, 1, 2, 4, 5, 6, 11]
@[go_sem] def bLZ : List Nat := [2]
@[go_sem] def bL0 : Marks := fun _ => ([], .nil, [])
theorem a8W (j : eU) (k : Int) (hs : j.s ≤ 1048576) : FnN Tryz.prog 11 [.agg j.c, I k] (QA (qS j k).1.o (fun y => .kL [y, I (qS j k).2])) := by
 have hs' := j.tA
 simp only [lC] at hs'
 have hok := aOH j (by omega)
 have hhas := has j k (by omega)
 simp only [eU.aR] at hok hhas ⊢
 refine aIM 20 a8V bLZ bL0 mix Tryz.func11 rfl (by kernel_rfl) (by simp) fun h => ?_
 simp -dsimp -implicitDefEqProofs only [go_sem, ↓reduceIte, Tryz.f11]
 intro n4 z4
 try simp -dsimp -implicitDefEqProofs only [go_sem, ↓reduceIte, Tryz.f11]
 first | refine aH.mk (hok) ?_ | refine aF.mk (hok) ?_ | refine aH.bY (hok) ?_ | refine aF.mk (bQ.fJ (hok)) ?_
 simp -dsimp -implicitDefEqProofs only [go_sem, ↓reduceIte, Tryz.f11]
 refine ⟨fun hn => ?_, fun hy => ?_⟩
 ·have hn' : ¬ j.ok := by simpa using hn
  rw [aUR hn']
  try simp -dsimp -implicitDefEqProofs only [go_sem, ↓reduceIte, Tryz.f11, aM]
  exact aGV (z := [I 0, I 0, .bI]) aS6 (aN8 [] [_]) (by repeat' (first | exact aA.le_refl _ | refine aA.kD ?_ | refine aA.aP (by first | assumption | (rw [aC _ _ _ _ (by assumption)]; assumption) | (rw [aC _ _ _ _ (by assumption), aC _ _ _ _ (by assumption)]; assumption) | (rw [aC _ _ _ _ (by assumption), aC _ _ _ _ (by assumption), aC _ _ _ _ (by assumption)]; assumption)) ?_))
 have hj : j.ok := by simpa using hy
 try simp -dsimp -implicitDefEqProofs only [go_sem, ↓reduceIte, Tryz.f11]
 first | refine aH.mk (hhas) ?_ | refine aF.mk (hhas) ?_ | refine aH.bY (hhas) ?_ | refine aF.mk (bQ.fJ (hhas)) ?_
 simp -dsimp -implicitDefEqProofs only [go_sem, ↓reduceIte, Tryz.f11]
 refine ⟨fun ht => ?_, fun ht => ?_⟩
 ·rw [aUS hj ht]
  try simp -dsimp -implicitDefEqProofs only [go_sem, ↓reduceIte, Tryz.f11, aM]
  exact aGV (z := [I 0, I 0, .bI]) aS6 (aN8 [] [_]) (by repeat' (first | exact aA.le_refl _ | refine aA.kD ?_ | refine aA.aP (by first | assumption | (rw [aC _ _ _ _ (by assumption)]; assumption) | (rw [aC _ _ _ _ (by assumption), aC _ _ _ _ (by assumption)]; assumption) | (rw [aC _ _ _ _ (by assumption), aC _ _ _ _ (by assumption), aC _ _ _ _ (by assumption)]; assumption)) ?_))
 have hk1 := ht.1
 have hk2 := ht.2
 have hkl : k.toNat < j.cP.length := by omega
 have hp := bFM hj hkl
 rw [show ((k.toNat : Nat) : Int) = k by omega] at hp
 simp only [eU.aR] at hp
 rw [aAQ hj ht]
 refine aH.wn1 hp z4 ?_
 rintro r l g ⟨e, ⟨y, rfl, oy⟩, rfl, rfl⟩ wn z4
 simp -dsimp -implicitDefEqProofs only [go_sem, ↓reduceIte, Tryz.f11, OV.fH, OV.cG, OV.jS, oy.flat, oy.one]
 exact aOB (e := [.v (I (lR j k.toNat).b7), .v (I (lR j k.toNat).aAO), y]) (by simp only [OV.fH, OV.cG, OV.jS]) ⟨y, rfl, oy⟩ wn (by repeat' (first | exact aA.le_refl _ | refine aA.kD ?_ | refine aA.aP (by first | assumption | (rw [aC _ _ _ _ (by assumption)]; assumption) | (rw [aC _ _ _ _ (by assumption), aC _ _ _ _ (by assumption)]; assumption) | (rw [aC _ _ _ _ (by assumption), aC _ _ _ _ (by assumption), aC _ _ _ _ (by assumption)]; assumption)) ?_))
open Go.Proofs
set_option linter.unusedVariables false
set_option linter.unusedSimpArgs false
structure bC where
 lU : Int
 fA : Int
 fB : Int
 aX : Int
def bC.c (x : bC) : List aD := [I x.lU, I x.fA, I x.fB, I x.aX]
theorem bC.aR (x : bC) : x.c = [I x.lU, I x.fA, I x.fB, I x.aX] := rfl
structure eC where
 aDO : Int
 a50 : Bool
def eC.c (x : eC) : List aD := [I x.aDO, .bool x.a50]
theorem eC.aR (x : eC) : x.c = [I x.aDO, .bool x.a50] := rfl
structure c6 where
 code : List bC
 eZ : List Int
 guards : List eC
def c6.val (S : c6) (k : Int) : Int := S.eZ.getD k.toNat 0
def c6.put (S : c6) (c : bC) (v : Int) : c6 := ⟨S.code ++ [c], S.eZ ++ [v], S.guards⟩
def c6.guard (S : c6) (g : eC) : c6 := ⟨S.code, S.eZ, S.guards ++ [g]⟩
def kJ (ev : Nat → aB → c6 → Out (Int × c6)) : List aB → Nat → c6 → Out (List Int × c6)
 | [], t, S => .ok (([], S), t)
 |e :: l, t, S => (ev t e S).andThen fun r t => (kJ ev l t r.2).andThen fun q t => .ok ((r.1 :: q.1, q.2), t)
def oQ (f : List Int → Nat → c6 → Out (List Int × c6)) : Nat → List Int → Nat → c6 → Out (List Int × c6)
 |0, vs, t, S => .ok ((vs, S), t)
 |n + 1, vs, t, S => (f vs t S).andThen fun r t => oQ f n r.1 t r.2
def opV (k a b : Int) : Option Int :=
 if k = 3 then some ((a + b) % 1000003) else if k = 4 then some ((a - b) % 1000003) else if k = 5 then some (a * b % 1000003) else if k = 7 then some ((0 - a) % 1000003)
 else if b = 0 then none else some (a * oE b % 1000003)
def opB (k : Int) (vs : List Int) : Int := if k = 7 then 0 else vs.getD 1 0
def opR (k : Int) (vs : List Int) (S : c6) (t : Nat) : Out (Int × c6) := match opV k (S.val (vs.getD 0 0)) (S.val (opB k vs)) with
 |none => .error 6
 |some v => .ok (((S.eZ.length : Int), S.put ⟨k, vs.getD 0 0, opB k vs, 0⟩ v), t)
def dX (p : aE) : Nat → Nat → aB → List Int → c6 → Out (Int × c6)
 |0, _, _, _, _ => .error 7
 |n + 1, t, e, env, S =>
  if t = 3000 then .error 7
  else if e.aO = 1 then .ok (((S.eZ.length : Int), S.put ⟨2, 0, 0, e.aX⟩ e.aX), t + 1)
  else if e.aO = 2 then .ok ((env.getD e.aX.toNat 0, S), t + 1)
  else if e.aO = 8 then (dX p n (t + 1) (e.mJ 0) env S).andThen fun r t =>
   if r.2.val r.1 = 0 then dX p n t (e.mJ 1) env (r.2.guard ⟨r.1, true⟩) else dX p n t (e.mJ 2) env (r.2.guard ⟨r.1, false⟩)
  else if e.aO = 9 then (dX p n (t + 1) (e.mJ 0) env S).andThen fun r t => dX p n t (e.mJ 1) (env ++ [r.1]) r.2
  else (kJ (fun t e S => dX p n t e env S) e.aK (t + 1) S).andThen fun r t =>
   if e.aO = 10 then dX p n t (p.out e.aX e.cN) r.1 r.2
   else if e.aO = 11 then (oQ (fun vs t S => kJ (fun t e S => dX p n t e vs S) (p.outs e.aX) t S) e.cA.toNat r.1 t r.2).andThen fun r t => .ok ((r.1.getD e.cN.toNat 0, r.2), t)
   else opR e.aO r.1 r.2 t
theorem aDP (ev : Nat → aB → c6 → Out (Int × c6)) (e : aB) : ∀ (l : List aB) (t : Nat) (S : c6), kJ ev (l ++ [e]) t S = (kJ ev l t S).andThen fun q t => (ev t e q.2).andThen fun r t => .ok ((q.1 ++ [r.1], r.2), t)
 | [], t, S => rfl
 |x :: l, t, S => by
  simp only [List.cons_append, kJ, aDP ev e l, Out.lF, Out.andThen_ok]
theorem wQ (f : List Int → Nat → c6 → Out (List Int × c6)) : ∀ (n : Nat) (vs : List Int) (t : Nat) (S : c6), oQ f (n + 1) vs t S = (oQ f n vs t S).andThen fun r t => f r.1 t r.2
 |0, vs, t, S => by
  show (f vs t S).andThen (fun r t => .ok ((r.1, r.2), t)) = f vs t S
  cases f vs t S with
  |ok p => rfl
  |error c => rfl
 |n + 1, vs, t, S => by
  rw [oQ, show oQ f (n + 1) vs t S = (f vs t S).andThen fun r t => oQ f n r.1 t r.2 from rfl, Out.lF]
  congr 1
  funext r t
  exact wQ f n r.1 t r.2
theorem aJI (f : List Int → Nat → c6 → Out (List Int × c6)) {vs : List Int} {t : Nat} {S : c6} {c : Int} : ∀ (k : Nat) {n : Nat}, k ≤ n → oQ f k vs t S = .error c → oQ f n vs t S = .error c := by
 intro k n hkn h
 induction n with
 |zero => obtain rfl : k = 0 := by omega
          exact h
 |succ n ih =>
  rcases Nat.lt_or_ge k (n + 1) with h1 | h1
  ·rw [wQ, ih (by omega)]; rfl
  ·obtain rfl : k = n + 1 := by omega
   exact h
def eJ (inp : Int) (i : Nat) (c : bC) : Prop :=
 (c.lU = 1 ∧ c.fA = 0 ∧ c.fB = 0 ∧ 0 ≤ c.aX ∧ c.aX < inp) ∨ (c.lU = 2 ∧ c.fA = 0 ∧ c.fB = 0 ∧ kI c.aX) ∨ ((c.lU = 3 ∨ c.lU = 4 ∨ c.lU = 5 ∨ c.lU = 6) ∧ c.aX = 0 ∧ 0 ≤ c.fA ∧ c.fA < i ∧ 0 ≤ c.fB ∧ c.fB < i) ∨ (c.lU = 7 ∧ c.aX = 0 ∧ c.fB = 0 ∧ 0 ≤ c.fA ∧ c.fA < i)
structure Good (inp : Int) (S : c6) (t : Nat) : Prop where
 len : S.code.length = S.eZ.length
 a2E : fG S.eZ
 ins : ∀ i c, S.code[i]? = some c → eJ inp i c
 gds : ∀ g ∈ S.guards, 0 ≤ g.aDO ∧ g.aDO < S.eZ.length
 cap : S.eZ.length ≤ 12 + t
 oY : S.guards.length ≤ t
def c6.ext (S S' : c6) : Prop := S.code <+: S'.code ∧ S.eZ <+: S'.eZ ∧ S.guards <+: S'.guards
theorem c6.tH (S : c6) : S.ext S := ⟨List.prefix_refl _, List.prefix_refl _, List.prefix_refl _⟩
theorem c6.ext.trans {a b c : c6} (h : a.ext b) (k : b.ext c) : a.ext c := ⟨h.1.trans k.1, h.2.1.trans k.2.1, h.2.2.trans k.2.2⟩
theorem c6.aLH (S : c6) (c : bC) (v : Int) : S.ext (S.put c v) := ⟨List.prefix_append _ _, List.prefix_append _ _, List.prefix_refl _⟩
theorem c6.lS (S : c6) (g : eC) : S.ext (S.guard g) := ⟨List.prefix_refl _, List.prefix_refl _, List.prefix_append _ _⟩
theorem c6.ext.val {S S' : c6} (h : S.ext S') {k : Int} (h0 : 0 ≤ k) (hk : k < S.eZ.length) : S'.val k = S.val k := by
 obtain ⟨x, hx⟩ := h.2.1
 rw [c6.val, c6.val, ← hx, List.getD_eq_getElem?_getD, List.getD_eq_getElem?_getD, List.getElem?_append_left (by omega)]
theorem c6.ext.len {S S' : c6} (h : S.ext S') : S.eZ.length ≤ S'.eZ.length := h.2.1.length_le
def lG (S : c6) (k : Int) : Prop := 0 ≤ k ∧ k < S.eZ.length
theorem lG.ext {S S' : c6} {k : Int} (h : lG S k) (e : S.ext S') : lG S' k := ⟨h.1, by have := h.2; have := e.len; omega⟩
theorem Good.lV {inp : Int} {S : c6} {t u : Nat} (h : Good inp S t) (hu : t ≤ u) : Good inp S u := ⟨h.len, h.a2E, h.ins, h.gds, by have := h.cap; omega, by have := h.oY; omega⟩
theorem Good.put {inp : Int} {S : c6} {t : Nat} {c : bC} {v : Int} (h : Good inp S t) (hc : eJ inp S.eZ.length c) (hv : kI v) (hcap : S.eZ.length < 12 + t) : Good inp (S.put c v) t := by
 refine ⟨by simp [c6.put, h.len], fun x hx => ?_, fun i d hd => ?_, fun g hg => ?_, by simp [c6.put]; omega, h.oY⟩
 ·rcases List.mem_append.1 hx with hx | hx
  ·exact h.a2E x hx
  ·rw [List.mem_singleton.1 hx]; exact hv
 ·rcases Nat.lt_or_ge i S.code.length with hi | hi
  ·rw [c6.put, List.getElem?_append_left hi] at hd; exact h.ins i d hd
  ·rw [c6.put, List.getElem?_append_right hi] at hd
   have hd2 := List.getElem?_eq_some_iff.1 hd
   obtain ⟨h1, h2⟩ := hd2
   have h3 : i = S.eZ.length := by simp at h1; have := h.len; omega
   simp at h2
   subst h2; rw [h3]; exact hc
 ·have := h.gds g hg
  simp only [c6.put, List.length_append, List.length_singleton]; omega
theorem Good.guard {inp : Int} {S : c6} {t : Nat} {k : Int} {b : Bool} (h : Good inp S t) (hk : lG S k) (hcap : S.guards.length < t) : Good inp (S.guard ⟨k, b⟩) t := by
 refine ⟨h.len, h.a2E, h.ins, fun g hg => ?_, h.cap, by simp [c6.guard]; omega⟩
 rcases List.mem_append.1 hg with hg | hg
 ·exact h.gds g hg
 ·rw [List.mem_singleton.1 hg]; exact hk
theorem a2F {k a b v : Int} (h : opV k a b = some v) : kI v := by
 unfold opV at h
 repeat' (split at h)
 all_goals first | (cases h; done) | (cases h; exact pO _)
def tM {α : Type} (P : α → Nat → Prop) (X : Out α) : Prop := ∀ v u, X = .ok (v, u) → P v u
theorem tM.then {α β : Type} {P : α → Nat → Prop} {Q : β → Nat → Prop} {X : Out α} {F : α → Nat → Out β} (h : tM P X) (hf : ∀ v t, P v t → tM Q (F v t)) : tM Q (X.andThen F) := fun w u hw => by
 cases X with
 |ok p => obtain ⟨v, t⟩ := p; exact hf v t (h v t rfl) w u hw
 |error c => cases hw
theorem tM.pure {α : Type} {P : α → Nat → Prop} {v : α} {t : Nat} (h : P v t) : tM P (.ok (v, t)) := fun w u e => by cases e; exact h
theorem tM.err {α : Type} {P : α → Nat → Prop} {c : Int} : tM P (.error c : Out α) := fun w u e => by cases e
theorem tM.mono {α : Type} {P Q : α → Nat → Prop} {X : Out α} (h : tM P X) (hq : ∀ v u, P v u → Q v u) : tM Q X := fun v u e => hq v u (h v u e)
def l5 (S : c6) (t : Nat) (S' : c6) (u : Nat) : Prop := S'.eZ.length + t ≤ S.eZ.length + u ∧ S'.guards.length + t ≤ S.guards.length + u ∧ t ≤ u ∧ u ≤ 3000
theorem l5.refl {S : c6} {t : Nat} (h : t ≤ 3000) : l5 S t S t := ⟨Nat.le_refl _, Nat.le_refl _, Nat.le_refl _, h⟩
theorem l5.trans {A B C : c6} {t u v : Nat} (h : l5 A t B u) (k : l5 B u C v) : l5 A t C v := by
 unfold l5 at *; omega
def aHC (inp : Int) (S : c6) (t : Nat) (r : Int × c6) (u : Nat) : Prop := Good inp r.2 u ∧ S.ext r.2 ∧ lG r.2 r.1 ∧ l5 S t r.2 u
def yU (inp : Int) (S : c6) (t n : Nat) (r : List Int × c6) (u : Nat) : Prop := Good inp r.2 u ∧ S.ext r.2 ∧ (r.1.length = n ∧ ∀ x ∈ r.1, lG r.2 x) ∧ l5 S t r.2 u
theorem kV {ev : Nat → aB → c6 → Out (Int × c6)} {inp : Int} : ∀ (l : List aB) (t : Nat) (S : c6), Good inp S t → t ≤ 3000 → (∀ e ∈ l, ∀ u S', Good inp S' u → S.ext S' → l5 S t S' u → tM (aHC inp S' u) (ev u e S')) → tM (yU inp S t l.length) (kJ ev l t S)
 | [], t, S, hg, ht, _ => tM.pure ⟨hg, S.tH, ⟨rfl, by simp⟩, .refl ht⟩
 |e :: l, t, S, hg, ht, h => (h e List.mem_cons_self t S hg S.tH (.refl ht)).then fun r u hr => by
  obtain ⟨r1, r2, r3, r4⟩ := hr
  refine (kV l u r.2 r1 r4.2.2.2 fun x hx u' S' a b c => h x (List.mem_cons_of_mem _ hx) u' S' a (r2.trans b) (r4.trans c)).then fun q u' hq => ?_
  obtain ⟨q1, q2, ⟨q3, q4⟩, q5⟩ := hq
  refine tM.pure ⟨q1, r2.trans q2, ⟨by rw [List.length_cons, q3]; rfl, fun x hx => ?_⟩, r4.trans q5⟩
  rcases List.mem_cons.1 hx with rfl | hx
  ·exact r3.ext q2
  ·exact q4 x hx
theorem tI {f : List Int → Nat → c6 → Out (List Int × c6)} {inp : Int} {m : Nat} (h : ∀ vs t S, Good inp S t → (vs.length = m ∧ ∀ x ∈ vs, lG S x) → t ≤ 3000 → tM (yU inp S t m) (f vs t S)) :
  ∀ (n : Nat) (vs : List Int) (t : Nat) (S : c6), Good inp S t → (vs.length = m ∧ ∀ x ∈ vs, lG S x) → t ≤ 3000 → tM (yU inp S t m) (oQ f n vs t S)
 |0, vs, t, S, hg, hv, ht => tM.pure ⟨hg, S.tH, hv, .refl ht⟩
 |n + 1, vs, t, S, hg, hv, ht => (h vs t S hg hv ht).then fun r u hr => by
  obtain ⟨r1, r2, r3, r4⟩ := hr
  refine (tI h n r.1 u r.2 r1 r3 r4.2.2.2).mono fun q u' hq => ?_
  obtain ⟨q1, q2, q3, q4⟩ := hq
  exact ⟨q1, r2.trans q2, q3, r4.trans q4⟩
theorem a8X {inp k : Int} {vs : List Int} {S : c6} {t : Nat} {m : Nat} (hk : k = 3 ∨ k = 4 ∨ k = 5 ∨ k = 6 ∨ k = 7) (hm : vs.length = m ∧ ∀ x ∈ vs, lG S x) (hm1 : 1 ≤ m) (hm2 : ¬ k = 7 → 2 ≤ m) (hg : Good inp S (t + 1)) (hcap : S.eZ.length < 12 + (t + 1)) (ht : t + 1 ≤ 3000) : tM (fun r u => Good inp r.2 u ∧ S.ext r.2 ∧ lG r.2 r.1 ∧ u = t + 1 ∧ r.2.eZ.length = S.eZ.length + 1 ∧ r.2.guards = S.guards) (opR k vs S (t + 1)) := by
 have at_ : ∀ i, i < m → lG S (vs.getD i 0) := fun i hi => by
  rw [List.getD_eq_getElem?_getD, List.getElem?_eq_getElem (by omega)]
  exact hm.2 _ (List.getElem_mem _)
 unfold opR
 split
 ·exact tM.err
 ·rename_i v hv
  have h0 := at_ 0 (by omega)
  refine tM.pure ⟨hg.put ?_ (a2F hv) hcap, S.aLH _ _, ⟨by simp, by simp [c6.put]; omega⟩, rfl, by simp [c6.put], rfl⟩
  unfold lG at h0
  by_cases h7 : k = 7
  ·subst h7
   exact .inr (.inr (.inr ⟨rfl, rfl, rfl, h0⟩))
  ·have h1 := at_ 1 (hm2 h7)
   unfold lG at h1
   have hb : opB k vs = vs.getD 1 0 := if_neg h7
   exact .inr (.inr (.inl ⟨by simp only; omega, rfl, h0.1, h0.2, by simp only [hb]; exact h1.1, by simp only [hb]; exact h1.2⟩))
theorem aHE {p : aE} {n st : Nat} {e : aB} {env : List Int} {S : c6} (h3 : ¬ st = 3000) (hk : e.aO = 1) : dX p (n + 1) st e env S = .ok (((S.eZ.length : Int), S.put ⟨2, 0, 0, e.aX⟩ e.aX), st + 1) := by rw [dX, if_neg h3, if_pos hk]
theorem aHF {p : aE} {n st : Nat} {e : aB} {env : List Int} {S : c6} (h3 : ¬ st = 3000) (hk : e.aO = 2) : dX p (n + 1) st e env S = .ok ((env.getD e.aX.toNat 0, S), st + 1) := by rw [dX, if_neg h3, if_neg (by omega), if_pos hk]
theorem wR {p : aE} {n st : Nat} {e : aB} {env : List Int} {S : c6} (h3 : ¬ st = 3000) (hk : e.aO = 8) : dX p (n + 1) st e env S = (dX p n (st + 1) (e.mJ 0) env S).andThen fun r t =>
   if r.2.val r.1 = 0 then dX p n t (e.mJ 1) env (r.2.guard ⟨r.1, true⟩) else dX p n t (e.mJ 2) env (r.2.guard ⟨r.1, false⟩) := by rw [dX, if_neg h3, if_neg (by omega), if_neg (by omega), if_pos hk]
theorem aHG {p : aE} {n st : Nat} {e : aB} {env : List Int} {S : c6} (h3 : ¬ st = 3000) (hk : e.aO = 9) : dX p (n + 1) st e env S = (dX p n (st + 1) (e.mJ 0) env S).andThen fun r t => dX p n t (e.mJ 1) (env ++ [r.1]) r.2 := by rw [dX, if_neg h3, if_neg (by omega), if_neg (by omega), if_neg (by omega), if_pos hk]
theorem wS {p : aE} {n st : Nat} {e : aB} {env : List Int} {S : c6} (h3 : ¬ st = 3000) (hk : e.aO = 10) : dX p (n + 1) st e env S = (kJ (fun t e S => dX p n t e env S) e.aK (st + 1) S).andThen fun r t => dX p n t (p.out e.aX e.cN) r.1 r.2 := by
 rw [dX, if_neg h3, if_neg (by omega), if_neg (by omega), if_neg (by omega), if_neg (by omega)]; simp only [if_pos hk]
theorem wT {p : aE} {n st : Nat} {e : aB} {env : List Int} {S : c6} (h3 : ¬ st = 3000) (hk : e.aO = 11) : dX p (n + 1) st e env S = (kJ (fun t e S => dX p n t e env S) e.aK (st + 1) S).andThen fun r t => (oQ (fun vs t S => kJ (fun t e S => dX p n t e vs S) (p.outs e.aX) t S) e.cA.toNat r.1 t r.2).andThen fun r t => .ok ((r.1.getD e.cN.toNat 0, r.2), t) := by
 have h : ¬ e.aO = 10 := by omega
 rw [dX, if_neg h3, if_neg (by omega), if_neg (by omega), if_neg (by omega), if_neg (by omega)]; simp only [if_neg h, if_pos hk]
theorem kF {p : aE} {n st : Nat} {e : aB} {env : List Int} {S : c6} (h3 : ¬ st = 3000) (hk : e.aO = 3 ∨ e.aO = 4 ∨ e.aO = 5 ∨ e.aO = 6 ∨ e.aO = 7) : dX p (n + 1) st e env S = (kJ (fun t e S => dX p n t e env S) e.aK (st + 1) S).andThen fun r t => opR e.aO r.1 r.2 t := by
 have h : ¬ e.aO = 10 := by omega
 have h2 : ¬ e.aO = 11 := by omega
 rw [dX, if_neg h3, if_neg (by omega), if_neg (by omega), if_neg (by omega), if_neg (by omega)]; simp only [if_neg h, if_neg h2]
theorem l5.step {S S' : c6} {t u : Nat} (h : l5 S (t + 1) S' u) : l5 S t S' u := by unfold l5 at *; omega
theorem mW {p : aE} (hp : p.ok) {inp : Int} : ∀ (n t : Nat) (e : aB) (env : List Int) (S : c6) (funcs : Int), e.ok p funcs env.length → funcs ≤ p.aI.length → Good inp S t → t ≤ 3000 → (∀ x ∈ env, lG S x) → tM (aHC inp S t) (dX p n t e env S)
 |0, t, e, env, S, funcs, _, _, _, _, _ => tM.err
 |n + 1, t, e, env, S, funcs, hok, hf, hg, ht, henv => by
  have ih := mW hp (inp := inp) n
  have hnode := ((aB.cR _ _ _ _).1 hok).1
  by_cases h3 : t = 3000
  ·rw [dX, if_pos h3]; exact tM.err
  have j9 := hg.lV (Nat.le_succ t)
  have hcap := hg.cap
  have hgcap := hg.oY
  have henvE : ∀ {S'}, S.ext S' → ∀ x ∈ env, lG S' x := fun e x hx => (henv x hx).ext e
  rcases pD hnode with hk | hk | hk | hk | hk | hk | hk | hk | hk | hk | hk
  ·rw [aHE h3 hk]
   have hn := ((dQ (by omega)).1 hnode).2.2.2.1 hk
   exact tM.pure ⟨j9.put (.inr (.inl ⟨rfl, rfl, rfl, hn⟩)) hn (by omega), S.aLH _ _, ⟨by simp, by simp [c6.put]; omega⟩, by simp [l5, c6.put]; omega⟩
  ·rw [aHF h3 hk]
   have hn := ((dQ (by omega)).1 hnode).2.2.2.2.1 hk
   refine tM.pure ⟨j9, S.tH, ?_, by simp [l5]; omega⟩
   simp only [List.getD_eq_getElem?_getD]
   rw [List.getElem?_eq_getElem (by omega)]
   exact henv _ (List.getElem_mem _)
  iterate 5
   ·have hlen := dB hok (by omega)
    rw [hk] at hlen
    rw [kF h3 (by omega)]
    refine (kV _ _ S j9 (by omega) fun x hx u S' a b c => ih u x env S' funcs (dZ hok (by omega) x hx) hf a c.2.2.2 (henvE b)).then fun r u hr => ?_
    obtain ⟨r1, r2, r3, r4⟩ := hr
    obtain ⟨u, rfl⟩ : ∃ w, u = w + 1 := ⟨u - 1, by have := r4.2.2.1; omega⟩
    unfold l5 at r4
    refine (a8X (inp := inp) (by omega) r3 (by unfold dN at hlen; simp at hlen; omega) (fun q => by unfold dN at hlen; simp at hlen; omega) r1 (by omega) (by omega)).mono fun q v hq => ?_
    obtain ⟨q1, q2, q3, rfl, q5, q6⟩ := hq
    exact ⟨q1, r2.trans q2, q3, by unfold l5; rw [q5, q6]; omega⟩
  ·have hlen := dB hok (by omega)
   rw [hk, show dN 8 = 3 from rfl] at hlen
   have o0 := aB.eP hok (i := 0) (by omega)
   have o1 := aB.eP hok (i := 1) (by omega)
   have o2 := aB.eP hok (i := 2) (by omega)
   rw [gT (by omega)] at o0 o1 o2
   rw [wR h3 hk]
   refine (ih _ _ _ _ _ o0 hf j9 (by omega) henv).then fun r u hr => ?_
   obtain ⟨r1, r2, r3, r4⟩ := hr
   have r4' := r4
   unfold l5 at r4'
   have go : ∀ (b : Bool) (k : aB), k.ok p funcs env.length → tM (aHC inp S t) (dX p n u k env (r.2.guard ⟨r.1, b⟩)) := fun b k hk => by
    have he : r.2.ext (r.2.guard ⟨r.1, b⟩) := r.2.lS _
    refine (ih u k env _ _ hk hf (r1.guard r3 (by omega)) (by omega) (henvE (r2.trans he))).mono fun q v hq => ?_
    obtain ⟨q1, q2, q3, q4⟩ := hq
    refine ⟨q1, (r2.trans he).trans q2, q3, ?_⟩
    unfold l5 at q4 ⊢
    simp only [c6.guard, List.length_append, List.length_singleton] at q4
    omega
   split
   ·exact go _ _ o1
   ·exact go _ _ o2
  ·have hlen := dB hok (by omega)
   rw [hk, show dN 9 = 2 from rfl] at hlen
   have o0 := aB.eP hok (i := 0) (by omega)
   have o1 := aB.eP hok (i := 1) (by omega)
   rw [gT (by omega)] at o0
   rw [hk, show iL 9 1 (env.length : Int) = env.length + 1 from rfl] at o1
   rw [aHG h3 hk]
   refine (ih _ _ _ _ _ o0 hf j9 (by omega) henv).then fun r u hr => ?_
   obtain ⟨r1, r2, r3, r4⟩ := hr
   refine (ih _ _ (env ++ [r.1]) _ _ (by rw [List.length_append]; exact o1) hf r1 r4.2.2.2 fun x hx => ?_).mono fun q v hq => ?_
   ·rcases List.mem_append.1 hx with hx | hx
    ·exact henvE r2 x hx
    ·rw [List.mem_singleton.1 hx]; exact r3
   ·obtain ⟨q1, q2, q3, q4⟩ := hq
    exact ⟨q1, r2.trans q2, q3, (r4.trans q4).step⟩
  ·obtain ⟨f, F⟩ := l4 hp hok hf (.inl hk)
   have f2 := F.hi
   have f4 := F.pk2
   rw [wS h3 hk]
   refine (kV _ _ S j9 (by omega) fun x hx u S' a b c => ih u x env S' funcs (dZ hok (by omega) x hx) hf a c.2.2.2 (henvE b)).then fun r u hr => ?_
   obtain ⟨r1, r2, r3, r4⟩ := hr
   refine (ih _ _ r.1 _ e.aX (by rw [r3.1, F.kids]; exact F.oks _ (List.mem_of_getElem? F.out)) (by omega) r1 r4.2.2.2 r3.2).mono fun q v hq => ?_
   obtain ⟨q1, q2, q3, q4⟩ := hq
   exact ⟨q1, r2.trans q2, q3, (r4.trans q4).step⟩
  ·obtain ⟨f, F⟩ := l4 hp hok hf (.inr hk)
   have f2 := F.hi
   have f4 := F.pk2
   have f9 := F.loop hk
   rw [wT h3 hk]
   refine (kV _ _ S j9 (by omega) fun x hx u S' a b c => ih u x env S' funcs (dZ hok (by omega) x hx) hf a c.2.2.2 (henvE b)).then fun r u hr => ?_
   obtain ⟨r1, r2, r3, r4⟩ := hr
   refine (tI (inp := inp) (m := f.aW.length) (fun vs w S' hg' hv hw => ?_) _ _ _ _ r1 ⟨by have := r3.1; have := F.kids; omega, r3.2⟩ r4.2.2.2).then fun q v hq => ?_
   ·rw [F.eq]
    exact kV _ _ S' hg' hw fun x hx u S'' a b c => ih u x vs S'' e.aX (by rw [hv.1, f9.2.2]; exact F.oks x hx) (by omega) a c.2.2.2 fun y hy => (hv.2 y hy).ext b
   ·obtain ⟨q1, q2, q3, q4⟩ := hq
    refine tM.pure ⟨q1, r2.trans q2, ?_, (r4.trans q4).step⟩
    simp only [List.getD_eq_getElem?_getD]
    rw [List.getElem?_eq_getElem (by rw [q3.1]; exact f4)]
    exact q3.2 _ (List.getElem_mem _)
open Go.Proofs
set_option linter.unusedVariables false
set_option linter.unusedSimpArgs false
def mM {α β : Type} (R : α → β → Prop) (X : Out α) (Y : Out β) : Prop := match X, Y with
 | .ok (v, t), .ok (v', t') => R v v' ∧ t = t'
 | .error c, .error c' => c = c'
 | _, _ => False
theorem mM.bind {α β γ δ : Type} {R : α → β → Prop} {R' : γ → δ → Prop} {P : α → Nat → Prop} {X : Out α} {Y : Out β} {F : α → Nat → Out γ} {G : β → Nat → Out δ} (hp : tM P X) (h : mM R X Y) (hf : ∀ v v' t, P v t → R v v' → mM R' (F v t) (G v' t)) : mM R' (X.andThen F) (Y.andThen G) := by
 cases X with
 |ok p =>
  cases Y with
  |ok q =>
   obtain ⟨v, t⟩ := p
   obtain ⟨v', t'⟩ := q
   obtain ⟨h1, rfl⟩ := h
   exact hf _ _ _ (hp v t rfl) h1
  |error c => exact h.elim
 |error c =>
  cases Y with
  |ok q => exact h.elim
  |error d => exact h
theorem mM.pure {α β : Type} {R : α → β → Prop} {v : α} {v' : β} {t : Nat} (h : R v v') : mM R (.ok (v, t)) (.ok (v', t)) := ⟨h, rfl⟩
def sv (S : c6) (l : List Int) : List (List Int) := l.map fun k => [S.val k]
def sR1 (r : Int × c6) (v : List Int) : Prop := v = [r.2.val r.1]
def sRL (r : List Int × c6) (vs : List (List Int)) : Prop := vs = sv r.2 r.1
theorem aHH {S S' : c6} {l : List Int} (h : ∀ x ∈ l, lG S x) (e : S.ext S') : sv S' l = sv S l :=
 List.map_congr_left fun x hx => by rw [e.val (h x hx).1 (h x hx).2]
theorem vP {ev : Nat → aB → c6 → Out (Int × c6)} {ev' : Nat → aB → Out (List Int)} {inp : Int} : ∀ (l : List aB) (t : Nat) (S : c6), Good inp S t → t ≤ 3000 → (∀ e ∈ l, ∀ u S', Good inp S' u → S.ext S' → l5 S t S' u → tM (aHC inp S' u) (ev u e S') ∧ mM sR1 (ev u e S') (ev' u e)) → mM sRL (kJ ev l t S) (lJ ev' l t)
 | [], t, S, hg, ht, _ => mM.pure rfl
 |e :: l, t, S, hg, ht, h => by
  obtain ⟨h1, h2⟩ := h e List.mem_cons_self t S hg S.tH (.refl ht)
  refine mM.bind h1 h2 fun r v u hr hv => ?_
  obtain ⟨r1, r2, r3, r4⟩ := hr
  have hl := fun x hx u' S' a b c => h x (List.mem_cons_of_mem _ hx) u' S' a (r2.trans b) (r4.trans c)
  refine mM.bind (kV l u r.2 r1 r4.2.2.2 fun x hx u' S' a b c => (hl x hx u' S' a b c).1) (vP l u r.2 r1 r4.2.2.2 hl) fun q vs u' hq hvs => mM.pure ?_
  rw [sR1] at hv
  rw [sRL] at hvs ⊢
  rw [hv, hvs, ← hq.2.1.val r3.1 r3.2]; rfl
theorem aJJ {f : List Int → Nat → c6 → Out (List Int × c6)} {g : List (List Int) → Nat → Out (List (List Int))} {inp : Int} {m : Nat} (h : ∀ vs t S, Good inp S t → (vs.length = m ∧ ∀ x ∈ vs, lG S x) → t ≤ 3000 → tM (yU inp S t m) (f vs t S) ∧ mM sRL (f vs t S) (g (sv S vs) t)) :
  ∀ (n : Nat) (vs : List Int) (t : Nat) (S : c6), Good inp S t → (vs.length = m ∧ ∀ x ∈ vs, lG S x) → t ≤ 3000 → mM sRL (oQ f n vs t S) (pC g n (sv S vs) t)
 |0, vs, t, S, hg, hv, ht => mM.pure rfl
 |n + 1, vs, t, S, hg, hv, ht => by
  obtain ⟨h1, h2⟩ := h vs t S hg hv ht
  refine mM.bind h1 h2 fun r w u hr hw => ?_
  rw [sRL] at hw
  rw [hw]
  exact aJJ h n r.1 u r.2 hr.1 hr.2.2.1 hr.2.2.2.2.2.2
theorem aAS {S : c6} {l : List Int} {i : Nat} (hi : i < l.length) : (sv S l).getD i [] = [S.val (l.getD i 0)] := by
 simp [sv, List.getD_eq_getElem?_getD, List.getElem?_eq_getElem hi]
theorem a2H {k : Int} {vs : List Int} {S : c6} {t : Nat} (hk : k = 3 ∨ k = 4 ∨ k = 5 ∨ k = 6 ∨ k = 7) (h1 : 1 ≤ vs.length) (h2 : ¬ k = 7 → 2 ≤ vs.length) : mM sR1 (opR k vs S t) (opE k (sv S vs) t) := by
 have g0 := aAS (S := S) (l := vs) (i := 0) (by omega)
 have pv : ∀ c v, (S.put c v).val (S.eZ.length : Int) = v := fun c v => by
  rw [c6.val, c6.put, List.getD_eq_getElem?_getD, Int.toNat_natCast, List.getElem?_append_right (Nat.le_refl _), Nat.sub_self]; rfl
 unfold opR opE opV
 rcases hk with rfl | rfl | rfl | rfl | rfl
 all_goals simp only [reduceCtorEq, if_true, if_false, Int.reduceEq]
 ·refine mM.pure ?_
  have g1 := aAS (S := S) (l := vs) (i := 1) (h2 (by decide))
  rw [sR1, pv, g0, g1]
  rfl
 ·refine mM.pure ?_
  have g1 := aAS (S := S) (l := vs) (i := 1) (h2 (by decide))
  rw [sR1, pv, g0, g1]
  show [(_ + _ * 1000002 % 1000003) % 1000003] = [(_ - S.val (vs.getD 1 0)) % 1000003]
  congr 1
  omega
 ·refine mM.pure ?_
  have g1 := aAS (S := S) (l := vs) (i := 1) (h2 (by decide))
  rw [sR1, pv, g0, g1]
  show [(0 + _ * _) % 1000003] = [_ * S.val (vs.getD 1 0) % 1000003]
  rw [Int.zero_add]; rfl
 ·have g1 := aAS (S := S) (l := vs) (i := 1) (h2 (by decide))
  rw [g0, g1, show opB 6 vs = vs.getD 1 0 from rfl, show [S.val (vs.getD 1 0)].getD 0 0 = S.val (vs.getD 1 0) from rfl]
  by_cases h : S.val (vs.getD 1 0) = 0
  ·rw [if_pos h, if_pos h]; exact rfl
  ·rw [if_neg h, if_neg h]
   refine mM.pure ?_
   rw [sR1, pv]; rfl
 ·refine mM.pure ?_
  rw [sR1, pv, g0]
  show [_ * 1000002 % 1000003] = [(0 - S.val (vs.getD 0 0)) % 1000003]
  congr 1
  omega
theorem aOW {p : aE} (hp : p.ok) {inp : Int} : ∀ (n t : Nat) (e : aB) (env : List Int) (S : c6) (funcs : Int), e.ok p funcs env.length → funcs ≤ p.aI.length → Good inp S t → t ≤ 3000 → (∀ x ∈ env, lG S x) → mM sR1 (dX p n t e env S) (iU p 1 n t e (sv S env))
 |0, t, e, env, S, funcs, _, _, _, _, _ => rfl
 |n + 1, t, e, env, S, funcs, hok, hf, hg, ht, henv => by
  have ih := aOW hp (inp := inp) n
  have io := mW hp (inp := inp) n
  have hnode := ((aB.cR _ _ _ _).1 hok).1
  by_cases h3 : t = 3000
  ·rw [dX, iU, if_pos h3, if_pos h3]; exact rfl
  have j9 := hg.lV (Nat.le_succ t)
  have hcap := hg.cap
  have hgcap := hg.oY
  have henvE : ∀ {S'}, S.ext S' → ∀ x ∈ env, lG S' x := fun e x hx => (henv x hx).ext e
  have kidsS : ¬ e.aO = 9 → ∀ x ∈ e.aK, ∀ u S', Good inp S' u → S.ext S' → l5 S (t + 1) S' u → tM (aHC inp S' u) (dX p n u x env S') ∧ mM sR1 (dX p n u x env S') (iU p 1 n u x (sv S env)) := fun h9 x hx u S' a b c =>
   ⟨io u x env S' funcs (dZ hok h9 x hx) hf a c.2.2.2 (henvE b), by
    have := ih u x env S' funcs (dZ hok h9 x hx) hf a c.2.2.2 (henvE b)
    rwa [aHH henv b] at this⟩
  rcases pD hnode with hk | hk | hk | hk | hk | hk | hk | hk | hk | hk | hk
  ·rw [aHE h3 hk, aOP h3 hk]
   refine mM.pure ?_
   simp [sR1, c6.val, c6.put, lP, List.replicate_succ]
  ·rw [aHF h3 hk, aOQ h3 hk]
   have hn := ((dQ (by omega)).1 hnode).2.2.2.2.1 hk
   exact mM.pure (aAS (by omega))
  iterate 5
   ·have hlen := dB hok (by omega)
    rw [hk] at hlen
    rw [kF h3 (by omega), oH h3 (by omega)]
    have hs := kidsS (by omega)
    refine mM.bind (kV _ _ S j9 (by omega) fun x hx u S' a b c => (hs x hx u S' a b c).1) (vP _ _ S j9 (by omega) hs) fun r vs u hr hv => ?_
    obtain ⟨r1, r2, r3, r4⟩ := hr
    rw [sRL] at hv
    rw [hv]
    exact a2H (by omega) (by unfold dN at hlen; simp at hlen; omega) (fun q => by unfold dN at hlen; simp at hlen; omega)
  ·have hlen := dB hok (by omega)
   rw [hk, show dN 8 = 3 from rfl] at hlen
   have o0 := aB.eP hok (i := 0) (by omega)
   have o1 := aB.eP hok (i := 1) (by omega)
   have o2 := aB.eP hok (i := 2) (by omega)
   rw [gT (by omega)] at o0 o1 o2
   rw [wR h3 hk, aG6 h3 hk]
   refine mM.bind (io _ _ _ _ _ o0 hf j9 (by omega) henv) (ih _ _ _ _ _ o0 hf j9 (by omega) henv) fun r v u hr hv => ?_
   obtain ⟨r1, r2, r3, r4⟩ := hr
   have r4' := r4
   unfold l5 at r4'
   rw [sR1] at hv
   subst hv
   rw [show [r.2.val r.1].getD 0 0 = r.2.val r.1 from rfl]
   have go : ∀ (b : Bool) (k : aB), k.ok p funcs env.length → mM sR1 (dX p n u k env (r.2.guard ⟨r.1, b⟩)) (iU p 1 n u k (sv S env)) := fun b k hk => by
    have he : r.2.ext (r.2.guard ⟨r.1, b⟩) := r.2.lS _
    have := ih u k env _ _ hk hf (r1.guard (b := b) r3 (by omega)) (by omega) (henvE (r2.trans he))
    rwa [aHH henv (r2.trans he)] at this
   by_cases hz : r.2.val r.1 = 0
   ·rw [if_pos hz, if_pos hz]; exact go _ _ o1
   ·rw [if_neg hz, if_neg hz]; exact go _ _ o2
  ·have hlen := dB hok (by omega)
   rw [hk, show dN 9 = 2 from rfl] at hlen
   have o0 := aB.eP hok (i := 0) (by omega)
   have o1 := aB.eP hok (i := 1) (by omega)
   rw [gT (by omega)] at o0
   rw [hk, show iL 9 1 (env.length : Int) = env.length + 1 from rfl] at o1
   rw [aHG h3 hk, aOR h3 hk]
   refine mM.bind (io _ _ _ _ _ o0 hf j9 (by omega) henv) (ih _ _ _ _ _ o0 hf j9 (by omega) henv) fun r v u hr hv => ?_
   obtain ⟨r1, r2, r3, r4⟩ := hr
   rw [sR1] at hv
   subst hv
   have := ih u (e.mJ 1) (env ++ [r.1]) r.2 funcs (by rw [List.length_append]; exact o1) hf r1 r4.2.2.2 (fun x hx => by
    rcases List.mem_append.1 hx with hx | hx
    ·exact henvE r2 x hx
    ·rw [List.mem_singleton.1 hx]; exact r3)
   rwa [show sv r.2 (env ++ [r.1]) = sv S env ++ [[r.2.val r.1]] by rw [← aHH henv r2, sv, List.map_append]; rfl] at this
  ·obtain ⟨f, F⟩ := l4 hp hok hf (.inl hk)
   have f2 := F.hi
   have f4 := F.pk2
   rw [wS h3 hk, aDI h3 hk]
   have hs := kidsS (by omega)
   refine mM.bind (kV _ _ S j9 (by omega) fun x hx u S' a b c => (hs x hx u S' a b c).1) (vP _ _ S j9 (by omega) hs) fun r vs u hr hv => ?_
   obtain ⟨r1, r2, r3, r4⟩ := hr
   rw [sRL] at hv
   rw [hv]
   exact ih _ _ r.1 _ e.aX (by rw [r3.1, F.kids]; exact F.oks _ (List.mem_of_getElem? F.out)) (by omega) r1 r4.2.2.2 r3.2
  ·obtain ⟨f, F⟩ := l4 hp hok hf (.inr hk)
   have f2 := F.hi
   have f4 := F.pk2
   have f9 := F.loop hk
   rw [wT h3 hk, aDJ h3 hk]
   have hs := kidsS (by omega)
   refine mM.bind (kV _ _ S j9 (by omega) fun x hx u S' a b c => (hs x hx u S' a b c).1) (vP _ _ S j9 (by omega) hs) fun r vs u hr hv => ?_
   obtain ⟨r1, r2, r3, r4⟩ := hr
   rw [sRL] at hv
   rw [hv]
   have hfl : ∀ vs t S, Good inp S t → (vs.length = f.aW.length ∧ ∀ x ∈ vs, lG S x) → t ≤ 3000 → tM (yU inp S t f.aW.length) (kJ (fun t e S => dX p n t e vs S) (p.outs e.aX) t S) ∧ mM sRL (kJ (fun t e S => dX p n t e vs S) (p.outs e.aX) t S) (lJ (fun t e => iU p 1 n t e (sv S vs)) (p.outs e.aX) t) := fun vs w S' hg' hv hw => by
    rw [F.eq]
    have hx2 : ∀ x ∈ f.aW, ∀ u S'', Good inp S'' u → S'.ext S'' → l5 S' w S'' u → tM (aHC inp S'' u) (dX p n u x vs S'') ∧ mM sR1 (dX p n u x vs S'') (iU p 1 n u x (sv S' vs)) := fun x hx u S'' a b c =>
     ⟨io u x vs S'' e.aX (by rw [hv.1, f9.2.2]; exact F.oks x hx) (by omega) a c.2.2.2 fun y hy => (hv.2 y hy).ext b, by
      have := ih u x vs S'' e.aX (by rw [hv.1, f9.2.2]; exact F.oks x hx) (by omega) a c.2.2.2 fun y hy => (hv.2 y hy).ext b
      rwa [aHH hv.2 b] at this⟩
    exact ⟨kV _ _ S' hg' hw fun x hx u S'' a b c => (hx2 x hx u S'' a b c).1, vP _ _ S' hg' hw hx2⟩
   have nF : r.1.length = f.aW.length ∧ ∀ x ∈ r.1, lG r.2 x := ⟨by have := r3.1; have := F.kids; omega, r3.2⟩
   refine mM.bind (tI (inp := inp) (m := f.aW.length) (fun vs t S a b c => (hfl vs t S a b c).1) _ _ _ _ r1 nF r4.2.2.2) (aJJ (inp := inp) (m := f.aW.length) (g := fun vs t => lJ (fun t e => iU p 1 n t e vs) (p.outs e.aX) t) hfl _ _ _ _ r1 nF r4.2.2.2) fun q vs2 v hq hvs => ?_
   refine mM.pure ?_
   rw [sRL] at hvs
   rw [hvs]
   exact aAS (by rw [hq.2.2.1.1]; exact f4)
def inS (args : List Int) : c6 := ⟨(List.range args.length).map fun i : Nat => ⟨1, 0, 0, (i : Int)⟩, args, []⟩
def inE (args : List Int) : List Int := (List.range args.length).map fun i : Nat => (i : Int)
theorem aBZ (args : List Int) (ha : fG args) (hl : args.length ≤ 12) : Good args.length (inS args) 0 := by
 refine ⟨by simp [inS], ha, fun i c hc => ?_, fun g hg => (by cases hg), by simpa [inS] using hl, Nat.le_refl _⟩
 obtain ⟨h1, h2⟩ := List.getElem?_eq_some_iff.1 hc
 simp [inS] at h1 h2
 subst h2
 exact .inl ⟨rfl, rfl, rfl, by simp only; omega, by simp only; omega⟩
theorem aLI (args : List Int) : ∀ x ∈ inE args, lG (inS args) x := fun x hx => by
 obtain ⟨i, hi, rfl⟩ := List.mem_map.1 hx
 have := List.mem_range.1 hi
 exact ⟨by omega, by simp [inS]; omega⟩
theorem a8Y (args : List Int) : sv (inS args) (inE args) = args.map fun n => [n] := by
 apply List.ext_getElem
 ·simp [sv, inE]
 ·intro i h1 h2
  simp [sv, inE, inS, c6.val]
  simp at h2
  rw [List.getElem?_eq_getElem h2]; rfl
def aDQ (p : aE) (f : Int) (args : List Int) : Out (List Int × c6) := kJ (fun t e S => dX p 3001 t e (inE args) S) (p.outs f) 0 (inS args)
theorem uC {p : aE} (hp : p.ok) (f : Int) (hf : 0 ≤ f ∧ f < p.aI.length) (args : List Int) (ha : fG args) (hl : ∀ F, p.aI[f.toNat]? = some F → (args.length : Int) = F.aZ) :
  tM (yU args.length (inS args) 0 (p.outs f).length) (aDQ p f args) ∧ mM sRL (aDQ p f args) (xW p 1 f (args.map fun n => [n])) := by
 obtain ⟨F, ef, hF1, hF2, hF3, hF4⟩ := nN hp hf
 have hla := hl F ef
 have hg := aBZ args ha (by omega)
 have hin := aLI args
 have hel : (inE args).length = args.length := by simp [inE]
 have hx2 : ∀ x ∈ p.outs f, ∀ u S'', Good args.length S'' u → (inS args).ext S'' → l5 (inS args) 0 S'' u → tM (aHC args.length S'' u) (dX p 3001 u x (inE args) S'') ∧ mM sR1 (dX p 3001 u x (inE args) S'') (iU p 1 3001 u x (args.map fun n => [n])) := fun x hx u S'' a b c => by
  have hxo : x.ok p f (inE args).length := by rw [hel, hla]; exact hF4 x (by rw [← hF3]; exact hx)
  refine ⟨mW hp _ u x _ S'' f hxo (by omega) a c.2.2.2 fun y hy => (hin y hy).ext b, ?_⟩
  have := aOW hp 3001 u x (inE args) S'' f hxo (by omega) a c.2.2.2 fun y hy => (hin y hy).ext b
  rwa [aHH hin b, a8Y] at this
 exact ⟨kV _ _ _ hg (by omega) fun x hx u S'' a b c => (hx2 x hx u S'' a b c).1, vP _ _ _ hg (by omega) hx2⟩
end Go.Hl

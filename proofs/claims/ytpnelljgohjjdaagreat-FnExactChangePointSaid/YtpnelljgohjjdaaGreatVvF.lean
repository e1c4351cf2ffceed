/-
  Contracts of functions and laws of the layer over the walk.
-/
import Derived.Test.YtpnelljgohjjdaaGreatVvE
import Derived.Test.YtpnelljgohjjdaaGreatHlD
import Derived.Test.YtpnelljgohjjdaaGreatVvD
import Derived.Test.YtpnelljgohjjdaaGreatGn
namespace Go.Hl
set_option maxRecDepth 100000
open Go.Proofs
set_option linter.unusedVariables false
set_option linter.unusedSimpArgs false
def eQ (p : aI) (sz st : Nat) (c : Int) : bM := .row 4 [[.v (.ip 1 [p.c] 0 0), .v (I sz), .v (I st), .v (I c)]]
def RnQ (h : aB) (nb : Nat) (p : aI) (sz st : Nat) (c : Int) (X : Out (List Int)) : aD → aB → Prop := fun r h' => ∃ s t c', r = ints s ∧ h' = bK h nb (eQ p sz t c') ∧ fK sz s ∧ st ≤ t ∧ t ≤ 3000 ∧ lN (sZ c X) s t c'
def bR8 (h : aB) (nb : Nat) (p : aI) (sz st : Nat) (c : Int) (n : Nat) (X : Out (List (List Int))) : aD → aB → Prop := fun r h' => ∃ l t c', r = mR l ∧ h' = bK h nb (eQ p sz t c') ∧ l.length = n ∧ (∀ s ∈ l, fK sz s) ∧ st ≤ t ∧ t ≤ 3000 ∧ lN (sZ c X) l t c'
@[go_sem] def a63 : List Nat := [0, 1, 4, 9]
@[go_sem] def bLL : List Nat := []
@[go_sem] def bLM : Marks := fun _ => ([], .nil, [])
theorem aXJ (h : aB) (nb : Nat) (p : aI) (sz st : Nat) (c d : Int) (hb : h nb = some (eQ p sz st c)) (hsz : sz ≤ 1048576) : fO Tryz.prog 133 [.op nb 4 0 0, I d] h fun r h' => r = ints (tU 0 sz) ∧ h' = bK h nb (eQ p sz st (if c = 0 then d else c)) := by
 have hb' := hb
 unfold eQ at hb'
 refine wJ 19 a63 bLL bLM mix Tryz.func133 rfl (by kernel_rfl) (by simp) ?_
 simp -dsimp -implicitDefEqProofs only [go_sem, ↓reduceIte, Tryz.f133, hb']
 refine ⟨fun hc => ?_, fun hc => ?_⟩
 ·try simp -dsimp -implicitDefEqProofs only [go_sem, ↓reduceIte, Tryz.f133]
  first | refine aJ.mk (nG 0 sz hsz) ?_ | refine aL.mk (nG 0 sz hsz) ?_ | refine aJ.dF (nG 0 sz hsz) ?_ | refine aL.mk (cZ.gC (nG 0 sz hsz)) ?_
  simp -dsimp -implicitDefEqProofs only [go_sem, ↓reduceIte, Tryz.f133]
  exact ⟨_, by rw [if_pos hc]; exact aB.le_refl _, rfl⟩
 ·try simp -dsimp -implicitDefEqProofs only [go_sem, ↓reduceIte, Tryz.f133, hb']
  first | refine aJ.mk (nG 0 sz hsz) ?_ | refine aL.mk (nG 0 sz hsz) ?_ | refine aJ.dF (nG 0 sz hsz) ?_ | refine aL.mk (cZ.gC (nG 0 sz hsz)) ?_
  simp -dsimp -implicitDefEqProofs only [go_sem, ↓reduceIte, Tryz.f133]
  refine ⟨_, ?_, rfl⟩
  rw [if_neg hc, aAN hb]
  exact aB.le_refl _
@[go_sem] def p2 : List Nat := [0, 1, 2, 6, 7, 8, 9, 14, 25, 38, 39, 50, 59, 70, 82, 99, 119, 142, 151, 160, 169]
@[go_sem] def zI : List Nat := []
@[go_sem] def zJ : Marks := fun id => match id with | 8 => ([7, 8], (.op 0 (.op 1 (.op 2 (.op 3 (.op 4 (.op 5 (.op 6 (.op 7 (.op 8 (.op 9 .nil)))))))))), []) | 19 => ([8, 9], (.op 0 (.op 1 (.op 2 (.op 3 (.op 4 (.op 5 (.op 6 (.op 7 (.op 8 (.op 9 (.op 10 .nil))))))))))), []) | _ => ([], .nil, [])
def tK (p : aI) (sz n : Nat) : Prop := ∀ (h : aB) (nb st : Nat) (c : Int) (e : aA) (env : List (List Int)) (funcs : Int), h nb = some (eQ p sz st c) → st ≤ 3000 → 3001 ≤ n + st → e.ok p funcs env.length → 0 ≤ funcs → funcs ≤ p.aH.length → (∀ s ∈ env, fK sz s) → env.length ≤ 412 + st →
 fO Tryz.prog 118 [.op nb 4 0 0, .ip 5 [e.c] 0 0, mR env] h (RnQ h nb p sz st c (mY p sz n st e env))
theorem bEJ {l : List aA} {k : Nat} {x : aA} (h : l[k]? = some x) (i : Nat) (hi : i = k) : Sub (.ip 5 (l.map aA.c) i 0) (.ip 5 [x.c] 0 0) := by
 subst hi
 exact Sub.ip (by rw [List.getElem?_map, h]; rfl) (by simp)
theorem tK.at {p : aI} {sz n : Nat} (hv : tK p sz n) {l : List aA} {i : Nat} {e : aA} (hi : l[i]? = some e) (h : aB) (nb st : Nat) (c : Int) (env : List (List Int)) (funcs : Int) (hb : h nb = some (eQ p sz st c)) (hst : st ≤ 3000) (hn : 3001 ≤ n + st) (hok : e.ok p funcs env.length) (fH : 0 ≤ funcs) (hf : funcs ≤ p.aH.length) (henv : ∀ s ∈ env, fK sz s) (hel : env.length ≤ 412 + st) :
  fO Tryz.prog 118 [.op nb 4 0 0, .ip 5 (l.map aA.c) i 0, mR env] h (RnQ h nb p sz st c (mY p sz n st e env)) :=
 fO.sub (.cons (.refl _) (.cons (bEJ hi _ rfl) (.cons (.refl _) .nil))) (hv h nb st c e env funcs hb hst hn hok fH hf henv hel)
@[go_sem] def aXK : List Nat := [0, 1, 2, 6, 7, 8, 16]
@[go_sem] def bAJ : List Nat := [9, 29]
@[go_sem] def bAK : Marks := fun _ => ([], .nil, [])
theorem aO4 {p : aI} {sz n : Nat} (hv : tK p sz n) (h : aB) (nb st : Nat) (c : Int) (f : aV) (env : List (List Int)) (funcs : Int) (hb : h nb = some (eQ p sz st c)) (hst : st ≤ 3000) (hn : 3001 ≤ n + st)
  (hl : f.aZ.length ≤ 1048576) (hok : ∀ e ∈ f.aZ, e.ok p funcs env.length) (fH : 0 ≤ funcs) (hf : funcs ≤ p.aH.length) (henv : ∀ s ∈ env, fK sz s) (hel : env.length ≤ 412 + st) :
  fO Tryz.prog 101 [.op nb 4 0 0, .ip 3 [f.c] 0 0, mR env] h (bR8 h nb p sz st c f.aZ.length (sG (fun t e => mY p sz n t e env) f.aZ st)) := by
 rw [aV.aN]
 refine kO 32 aXK bAJ bAK mix Tryz.func101 rfl (by kernel_rfl) (by simp) ?_
 simp -dsimp -implicitDefEqProofs only [go_sem, ↓reduceIte, Tryz.f101]
 refine ⟨Nat.zero_lt_one, ?_⟩
 refine cS (keep := aXK) (ib := bAJ) (mk := bAK) mix (by kernel_rfl) (fun x : Nat × List (List Int) × Nat × Int × Option Nat => [(0, .op nb 4 0 0), (1, .ip 3 [[.str f.eC, I f.bE, c5 5 aA.c f.aZ]] 0 0), (2, mR env), (7, nO 1 x.2.1.length x.2.2.2.2), (8, I x.1)]) (fun x => dD (bK h nb (eQ p sz x.2.2.1 x.2.2.2.1)) (.row 1 ((x.2.1.map fun s => [ints s]).map (List.map .v))) x.2.2.2.2) (fun x => x.1 ≤ f.aZ.length ∧ x.2.1.length = x.1 ∧ (∀ s ∈ x.2.1, fK sz s) ∧ st ≤ x.2.2.1 ∧ x.2.2.1 ≤ 3000 ∧ lN (sZ c (sG (fun t e => mY p sz n t e env) (f.aZ.take x.1) st)) x.2.1 x.2.2.1 x.2.2.2.1 ∧ lQ h x.2.1 x.2.2.2.2) (fun x => f.aZ.length - x.1) (0, [], st, c, none) ⟨by simp [dA, cH, nO], by simp only [aK]; rw [aAN hb]; exact aB.le_refl _, Nat.zero_le _, rfl, by simp, Nat.le_refl _, hst, jE _ _ _, rfl⟩ ?_
 rintro ⟨k, vs, t, c', o⟩ ⟨hk, hvl, hvs, ht0, ht, ho, hos⟩
 simp only at hk hvl hvs ht0 ht ho hos ⊢
 rcases Nat.lt_or_ge k f.aZ.length with hlt | hge
 ·have ek : f.aZ[k]? = some f.aZ[k] := List.getElem?_eq_getElem hlt
  have hnext : ∀ (s : List Int) (t2 : Nat) (c2 : Int), lN (sZ c' (mY p sz n t f.aZ[k] env)) s t2 c2 → lN (sZ c (sG (fun t e => mY p sz n t e env) (f.aZ.take (k + 1)) st)) (vs ++ [s]) t2 c2 := fun s t2 c2 h3 => by
   rw [List.take_succ_eq_append_getElem hlt, aBB]
   exact ho.fQ (h3.fQ (jE _ _ _))
  have hall : ∀ s, fK sz s → ∀ x ∈ vs ++ [s], fK sz x := fun s hs => yT hvs hs
  cases o with
  |none =>
   rw [dB] at hos
   subst hos
   simp -dsimp -implicitDefEqProofs only [go_sem, ↓reduceIte, Tryz.f101, dN, aK, hlt, ek]
   intro _
   refine aJ.iF (hv.at ek (bK h nb (eQ p sz t c')) nb t c' env funcs (aU _ _ _) ht (by omega) (hok _ (List.getElem_mem _)) fH hf henv (by omega)) ?_
   rintro r h' ⟨s, t2, c2, rfl, rfl, hs, h1, h2, h3⟩
   simp -dsimp -implicitDefEqProofs only [go_sem, ↓reduceIte, Tryz.f101]
   refine ⟨Nat.zero_lt_one, Nat.zero_lt_one, Nat.zero_lt_one, ?_⟩
   intro b b5
   have dU : ¬ b = nb := by first | exact b5.1 | exact b5 | exact b5.2.1 | exact b5.2 | exact b5.2.2.1 | exact b5.2.2 | exact b5.2.2.2.1 | exact b5.2.2.2 | exact b5.2.2.2.2.1 | exact b5.2.2.2.2 | exact b5.2.2.2.2.2.1 | exact b5.2.2.2.2.2 | exact b5.2.2.2.2.2.2.1 | exact b5.2.2.2.2.2.2 | exact b5.2.2.2.2.2.2.2.1 | exact b5.2.2.2.2.2.2.2 | exact b5.2.2.2.2.2.2.2.2.1 | exact b5.2.2.2.2.2.2.2.2 | exact b5.2.2.2.2.2.2.2.2.2.1 | exact b5.2.2.2.2.2.2.2.2.2 | exact b5.2.2.2.2.2.2.2.2.2.2.1 | exact b5.2.2.2.2.2.2.2.2.2.2 | exact b5.2.2.2.2.2.2.2.2.2.2.2.1 | exact b5.2.2.2.2.2.2.2.2.2.2.2 | exact b5.2.2.2.2.2.2.2.2.2.2.2.2.1 | exact b5.2.2.2.2.2.2.2.2.2.2.2.2 | exact b5.2.2.2.2.2.2.2.2.2.2.2.2.2.1 | exact b5.2.2.2.2.2.2.2.2.2.2.2.2.2
   have iG : (b = nb) = False := eq_false dU
   have iH : (nb = b) = False := eq_false (Ne.symm dU)
   have iI : ¬ nb = b := Ne.symm dU
   have z_b : h b = none := by first | exact b5.1 | exact b5 | exact b5.2.1 | exact b5.2 | exact b5.2.2.1 | exact b5.2.2 | exact b5.2.2.2.1 | exact b5.2.2.2 | exact b5.2.2.2.2.1 | exact b5.2.2.2.2 | exact b5.2.2.2.2.2.1 | exact b5.2.2.2.2.2 | exact b5.2.2.2.2.2.2.1 | exact b5.2.2.2.2.2.2 | exact b5.2.2.2.2.2.2.2.1 | exact b5.2.2.2.2.2.2.2 | exact b5.2.2.2.2.2.2.2.2.1 | exact b5.2.2.2.2.2.2.2.2 | exact b5.2.2.2.2.2.2.2.2.2.1 | exact b5.2.2.2.2.2.2.2.2.2 | exact b5.2.2.2.2.2.2.2.2.2.2.1 | exact b5.2.2.2.2.2.2.2.2.2.2 | exact b5.2.2.2.2.2.2.2.2.2.2.2.1 | exact b5.2.2.2.2.2.2.2.2.2.2.2 | exact b5.2.2.2.2.2.2.2.2.2.2.2.2.1 | exact b5.2.2.2.2.2.2.2.2.2.2.2.2 | exact b5.2.2.2.2.2.2.2.2.2.2.2.2.2.1 | exact b5.2.2.2.2.2.2.2.2.2.2.2.2.2
   refine ⟨(k + 1, [s], t2, c2, some b), ⟨rfl, by rw [IntWalk.i64_in _ (by omega)]; rfl⟩, (jJ (by repeat' (first | exact gJ _ _ | refine jK (by simp only [dZ, ↓reduceIte, eq_self, if_true, iH, iG, List.map_cons, List.map_nil]) ?_ | refine fM (by first | exact .inr (by assumption) | exact .inl (by simp)) ?_))), ⟨by omega, by simp only [List.length_nil] at hvl; subst hvl; rfl, fun x hx => hall s hs x hx, Nat.le_trans ht0 h1, h2, hnext s t2 c2 h3, z_b⟩, by simp only; omega⟩
  |some m =>
   rw [cQ] at hos
   have eJ : ¬ m = nb := fun e => by rw [e, hb] at hos; cases hos
   have dR : ¬ nb = m := Ne.symm eJ
   have eG : (m = nb) = False := eq_false eJ
   have eH : (nb = m) = False := eq_false dR
   simp -dsimp -implicitDefEqProofs only [go_sem, ↓reduceIte, Tryz.f101, cI, aG, hlt, ek]
   intro _
   refine aJ.iF (hv.at ek (bK (bK h nb (eQ p sz t c')) m (.row 1 ((vs.map fun s => [ints s]).map (List.map .v)))) nb t c' env funcs (by rw [aC _ _ _ _ dR, aU]) ht (by omega) (hok _ (List.getElem_mem _)) fH hf henv (by omega)) ?_
   rintro r h' ⟨s, t2, c2, rfl, rfl, hs, h1, h2, h3⟩
   simp -dsimp -implicitDefEqProofs only [go_sem, ↓reduceIte, Tryz.f101, aC, eG, eH]
   refine ⟨Nat.zero_lt_one, Nat.zero_lt_one, Nat.zero_lt_one, Nat.le_refl _, by omega, by omega, ?_⟩
   intro b b5
   have dU : ¬ b = nb := by first | exact b5.1 | exact b5 | exact b5.2.1 | exact b5.2 | exact b5.2.2.1 | exact b5.2.2 | exact b5.2.2.2.1 | exact b5.2.2.2 | exact b5.2.2.2.2.1 | exact b5.2.2.2.2 | exact b5.2.2.2.2.2.1 | exact b5.2.2.2.2.2 | exact b5.2.2.2.2.2.2.1 | exact b5.2.2.2.2.2.2 | exact b5.2.2.2.2.2.2.2.1 | exact b5.2.2.2.2.2.2.2 | exact b5.2.2.2.2.2.2.2.2.1 | exact b5.2.2.2.2.2.2.2.2 | exact b5.2.2.2.2.2.2.2.2.2.1 | exact b5.2.2.2.2.2.2.2.2.2 | exact b5.2.2.2.2.2.2.2.2.2.2.1 | exact b5.2.2.2.2.2.2.2.2.2.2 | exact b5.2.2.2.2.2.2.2.2.2.2.2.1 | exact b5.2.2.2.2.2.2.2.2.2.2.2 | exact b5.2.2.2.2.2.2.2.2.2.2.2.2.1 | exact b5.2.2.2.2.2.2.2.2.2.2.2.2 | exact b5.2.2.2.2.2.2.2.2.2.2.2.2.2.1 | exact b5.2.2.2.2.2.2.2.2.2.2.2.2.2
   have iG : (b = nb) = False := eq_false dU
   have iH : (nb = b) = False := eq_false (Ne.symm dU)
   have iI : ¬ nb = b := Ne.symm dU
   have lF : ¬ b = m := by first | exact b5.1 | exact b5 | exact b5.2.1 | exact b5.2 | exact b5.2.2.1 | exact b5.2.2 | exact b5.2.2.2.1 | exact b5.2.2.2 | exact b5.2.2.2.2.1 | exact b5.2.2.2.2 | exact b5.2.2.2.2.2.1 | exact b5.2.2.2.2.2 | exact b5.2.2.2.2.2.2.1 | exact b5.2.2.2.2.2.2 | exact b5.2.2.2.2.2.2.2.1 | exact b5.2.2.2.2.2.2.2 | exact b5.2.2.2.2.2.2.2.2.1 | exact b5.2.2.2.2.2.2.2.2 | exact b5.2.2.2.2.2.2.2.2.2.1 | exact b5.2.2.2.2.2.2.2.2.2 | exact b5.2.2.2.2.2.2.2.2.2.2.1 | exact b5.2.2.2.2.2.2.2.2.2.2 | exact b5.2.2.2.2.2.2.2.2.2.2.2.1 | exact b5.2.2.2.2.2.2.2.2.2.2.2 | exact b5.2.2.2.2.2.2.2.2.2.2.2.2.1 | exact b5.2.2.2.2.2.2.2.2.2.2.2.2 | exact b5.2.2.2.2.2.2.2.2.2.2.2.2.2.1 | exact b5.2.2.2.2.2.2.2.2.2.2.2.2.2
   have sJ : (b = m) = False := eq_false lF
   have sK : (m = b) = False := eq_false (Ne.symm lF)
   have v9 : ¬ m = b := Ne.symm lF
   have z_b : h b = none := by first | exact b5.1 | exact b5 | exact b5.2.1 | exact b5.2 | exact b5.2.2.1 | exact b5.2.2 | exact b5.2.2.2.1 | exact b5.2.2.2 | exact b5.2.2.2.2.1 | exact b5.2.2.2.2 | exact b5.2.2.2.2.2.1 | exact b5.2.2.2.2.2 | exact b5.2.2.2.2.2.2.1 | exact b5.2.2.2.2.2.2 | exact b5.2.2.2.2.2.2.2.1 | exact b5.2.2.2.2.2.2.2 | exact b5.2.2.2.2.2.2.2.2.1 | exact b5.2.2.2.2.2.2.2.2 | exact b5.2.2.2.2.2.2.2.2.2.1 | exact b5.2.2.2.2.2.2.2.2.2 | exact b5.2.2.2.2.2.2.2.2.2.2.1 | exact b5.2.2.2.2.2.2.2.2.2.2 | exact b5.2.2.2.2.2.2.2.2.2.2.2.1 | exact b5.2.2.2.2.2.2.2.2.2.2.2 | exact b5.2.2.2.2.2.2.2.2.2.2.2.2.1 | exact b5.2.2.2.2.2.2.2.2.2.2.2.2 | exact b5.2.2.2.2.2.2.2.2.2.2.2.2.2.1 | exact b5.2.2.2.2.2.2.2.2.2.2.2.2.2
   refine ⟨(k + 1, vs ++ [s], t2, c2, some b), ⟨by rw [cI, List.length_append]; rfl, by rw [IntWalk.i64_in _ (by omega)]; rfl⟩, ?_, ⟨by omega, by rw [List.length_append, hvl]; rfl, hall s hs, Nat.le_trans ht0 h1, h2, hnext s t2 c2 h3, z_b⟩, by simp only; omega⟩
   simp only [aG]
   rw [← jN ints]
   exact (jJ (by repeat' (first | exact gJ _ _ | refine jK (by simp only [dZ, ↓reduceIte, eq_self, if_true, iH, eH, iG, sJ, eG, sK]) ?_ | refine fM (by first | exact .inr (by assumption) | exact .inl (by simp)) ?_)))
 ·have hk' : k = f.aZ.length := by omega
  subst hk'
  rw [List.take_length] at ho
  cases o with
  |none =>
   rw [dB] at hos
   subst hos
   simp -dsimp -implicitDefEqProofs only [go_sem, ↓reduceIte, Tryz.f101, dN, aK, Nat.lt_irrefl, Int.lt_irrefl]
   intro _
   exact ⟨mR [], _, Shift.of (Sub.loose _ _ _) (aB.le_refl _), [], t, c', rfl, rfl, hvl, hvs, ht0, ht, ho⟩
  |some m =>
   rw [cQ] at hos
   simp -dsimp -implicitDefEqProofs only [go_sem, ↓reduceIte, Tryz.f101, cI, aG, Nat.lt_irrefl, Int.lt_irrefl]
   intro _
   have hmn : ¬ m = nb := fun e => by rw [e, hb] at hos; cases hos
   exact ⟨mR vs, _, lW (vs.map fun s => [ints s]) (h := bK h nb (eQ p sz t c')) (by rw [aC _ _ _ _ hmn, hos]) (aB.le_refl _) _ (by rw [List.length_map]), vs, t, c', rfl, rfl, hvl, hvs, ht0, ht, ho⟩
set_option maxRecDepth 100000
open Go.Proofs
set_option linter.unusedVariables false
set_option linter.unusedSimpArgs false
@[go_sem] def aEY : List Nat := [0, 1, 2, 6, 7, 8, 9, 10, 18, 49, 67]
@[go_sem] def aRW : List Nat := [11, 31]
@[go_sem] def aRX : Marks := fun id => match id with | 6 => ([3], (.op 0 (.op 1 (.op 2 (.op 7 (.op 8 (.op 9 (.op 10 (.op 3 (.op 4 (.op 5 (.op 6 (.op 11 (.op 12 .nil))))))))))))), []) | 8 => ([11], (.op 0 (.op 1 (.op 2 (.op 3 (.op 4 (.op 5 (.op 6 (.op 7 (.op 8 (.op 9 (.op 10 (.op 11 (.op 12 .nil))))))))))))), []) | _ => ([], .nil, [])
theorem a64 {p : aI} (hp : p.ok) {sz n : Nat} (hv : tK p sz n) (h : aB) (nb st : Nat) (e : aA) (env : List (List Int)) (funcs : Int) (hb : h nb = some (eQ p sz st 0)) (hst : st ≤ 3000) (hn : 3001 ≤ n + st) (hok : e.ok p funcs env.length) (fH : 0 ≤ funcs) (hf : funcs ≤ p.aH.length) (henv : ∀ s ∈ env, fK sz s) (hel : env.length ≤ 412 + st) (hk : e.a6 = 10) :
  fO Tryz.prog 137 [.op nb 4 0 0, .ip 5 [e.c] 0 0, mR env] h (RnQ h nb p sz st 0 ((sG (fun t e => mY p sz n t e env) e.aM st).andThen fun vs t => mY p sz n t (p.out e.bQ e.c9) vs)) := by
 obtain ⟨f, F⟩ := uD hp hok hf (.inl hk)
 have f1 := F.lo
 have f2 := F.hi
 have f3 := F.pk
 have f4 := F.pk2
 have f5 := F.kids
 have f6 := F.params
 have f8 := F.outs
 have f9 := F.loop
 have hkok := fU hok (by omega)
 rw [aA.aN]
 refine kO 81 aEY aRW aRX mix Tryz.func137 rfl (by kernel_rfl) (by simp) ?_
 simp -dsimp -implicitDefEqProofs only [go_sem, ↓reduceIte, Tryz.f137]
 refine ⟨Nat.zero_lt_one, ?_⟩
 refine cS (keep := aEY) (ib := aRW) (mk := aRX) mix (by kernel_rfl) (fun x : Nat × List (List Int) × Nat × Int × Option Nat => [(0, .op nb 4 0 0), (1, .ip 5 [[I e.a6, I e.bQ, I e.c9, I e.cU, c5 5 aA.c e.aM]] 0 0), (2, mR env), (7, nO 1 x.2.1.length x.2.2.2.2), (8, I x.1)]) (fun x => dD (bK h nb (eQ p sz x.2.2.1 x.2.2.2.1)) (.row 1 ((x.2.1.map fun s => [ints s]).map (List.map .v))) x.2.2.2.2) (fun x => x.1 ≤ e.aM.length ∧ x.2.1.length = x.1 ∧ (∀ s ∈ x.2.1, fK sz s) ∧ st ≤ x.2.2.1 ∧ x.2.2.1 ≤ 3000 ∧ lN (sZ 0 (sG (fun t e => mY p sz n t e env) (e.aM.take x.1) st)) x.2.1 x.2.2.1 x.2.2.2.1 ∧ lQ h x.2.1 x.2.2.2.2) (fun x => e.aM.length - x.1) (0, [], st, 0, none) ⟨by simp [dA, cH, nO], by simp only [aK]; rw [aAN hb]; exact aB.le_refl _, Nat.zero_le _, rfl, by simp, Nat.le_refl _, hst, jE _ _ _, rfl⟩ ?_
 rintro ⟨k, vs, t, c', o⟩ ⟨hk2, hvl, hvs, ht0, ht, ho, hos⟩
 simp only at hk2 hvl hvs ht0 ht ho hos ⊢
 rcases Nat.lt_or_ge k e.aM.length with hlt | hge
 ·have ek : e.aM[k]? = some e.aM[k] := List.getElem?_eq_getElem hlt
  have hnext : ∀ (s : List Int) (t2 : Nat) (c2 : Int), lN (sZ c' (mY p sz n t e.aM[k] env)) s t2 c2 → lN (sZ 0 (sG (fun t e => mY p sz n t e env) (e.aM.take (k + 1)) st)) (vs ++ [s]) t2 c2 := fun s t2 c2 h3 => by
   rw [List.take_succ_eq_append_getElem hlt, aBB]
   exact ho.fQ (h3.fQ (jE _ _ _))
  have hall : ∀ s, fK sz s → ∀ x ∈ vs ++ [s], fK sz x := fun s hs => yT hvs hs
  cases o with
  |none =>
   rw [dB] at hos
   subst hos
   simp -dsimp -implicitDefEqProofs only [go_sem, ↓reduceIte, Tryz.f137, dN, aK, hlt, ek]
   intro _
   refine aJ.iF (hv.at ek (bK h nb (eQ p sz t c')) nb t c' env funcs (aU _ _ _) ht (by omega) (hkok _ (List.getElem_mem _)) fH hf henv (by omega)) ?_
   rintro r h' ⟨s, t2, c2, rfl, rfl, hs, h1, h2, h3⟩
   simp -dsimp -implicitDefEqProofs only [go_sem, ↓reduceIte, Tryz.f137]
   refine ⟨Nat.zero_lt_one, Nat.zero_lt_one, Nat.zero_lt_one, ?_⟩
   intro b b5
   have dU : ¬ b = nb := by first | exact b5.1 | exact b5 | exact b5.2.1 | exact b5.2 | exact b5.2.2.1 | exact b5.2.2 | exact b5.2.2.2.1 | exact b5.2.2.2 | exact b5.2.2.2.2.1 | exact b5.2.2.2.2 | exact b5.2.2.2.2.2.1 | exact b5.2.2.2.2.2 | exact b5.2.2.2.2.2.2.1 | exact b5.2.2.2.2.2.2 | exact b5.2.2.2.2.2.2.2.1 | exact b5.2.2.2.2.2.2.2 | exact b5.2.2.2.2.2.2.2.2.1 | exact b5.2.2.2.2.2.2.2.2 | exact b5.2.2.2.2.2.2.2.2.2.1 | exact b5.2.2.2.2.2.2.2.2.2 | exact b5.2.2.2.2.2.2.2.2.2.2.1 | exact b5.2.2.2.2.2.2.2.2.2.2 | exact b5.2.2.2.2.2.2.2.2.2.2.2.1 | exact b5.2.2.2.2.2.2.2.2.2.2.2 | exact b5.2.2.2.2.2.2.2.2.2.2.2.2.1 | exact b5.2.2.2.2.2.2.2.2.2.2.2.2 | exact b5.2.2.2.2.2.2.2.2.2.2.2.2.2.1 | exact b5.2.2.2.2.2.2.2.2.2.2.2.2.2
   have iG : (b = nb) = False := eq_false dU
   have iH : (nb = b) = False := eq_false (Ne.symm dU)
   have iI : ¬ nb = b := Ne.symm dU
   have z_b : h b = none := by first | exact b5.1 | exact b5 | exact b5.2.1 | exact b5.2 | exact b5.2.2.1 | exact b5.2.2 | exact b5.2.2.2.1 | exact b5.2.2.2 | exact b5.2.2.2.2.1 | exact b5.2.2.2.2 | exact b5.2.2.2.2.2.1 | exact b5.2.2.2.2.2 | exact b5.2.2.2.2.2.2.1 | exact b5.2.2.2.2.2.2 | exact b5.2.2.2.2.2.2.2.1 | exact b5.2.2.2.2.2.2.2 | exact b5.2.2.2.2.2.2.2.2.1 | exact b5.2.2.2.2.2.2.2.2 | exact b5.2.2.2.2.2.2.2.2.2.1 | exact b5.2.2.2.2.2.2.2.2.2 | exact b5.2.2.2.2.2.2.2.2.2.2.1 | exact b5.2.2.2.2.2.2.2.2.2.2 | exact b5.2.2.2.2.2.2.2.2.2.2.2.1 | exact b5.2.2.2.2.2.2.2.2.2.2.2 | exact b5.2.2.2.2.2.2.2.2.2.2.2.2.1 | exact b5.2.2.2.2.2.2.2.2.2.2.2.2 | exact b5.2.2.2.2.2.2.2.2.2.2.2.2.2.1 | exact b5.2.2.2.2.2.2.2.2.2.2.2.2.2
   refine ⟨(k + 1, [s], t2, c2, some b), ⟨rfl, by rw [IntWalk.i64_in _ (by omega)]; rfl⟩, (jJ (by repeat' (first | exact gJ _ _ | refine jK (by simp only [dZ, ↓reduceIte, eq_self, if_true, iH, iG, List.map_cons, List.map_nil]) ?_ | refine fM (by first | exact .inr (by assumption) | exact .inl (by simp)) ?_))), ⟨by omega, by simp only [List.length_nil] at hvl; subst hvl; rfl, fun x hx => hall s hs x hx, Nat.le_trans ht0 h1, h2, hnext s t2 c2 h3, z_b⟩, by simp only; omega⟩
  |some m =>
   rw [cQ] at hos
   have eJ : ¬ m = nb := fun e => by rw [e, hb] at hos; cases hos
   have dR : ¬ nb = m := Ne.symm eJ
   have eG : (m = nb) = False := eq_false eJ
   have eH : (nb = m) = False := eq_false dR
   simp -dsimp -implicitDefEqProofs only [go_sem, ↓reduceIte, Tryz.f137, cI, aG, hlt, ek]
   intro _
   refine aJ.iF (hv.at ek (bK (bK h nb (eQ p sz t c')) m (.row 1 ((vs.map fun s => [ints s]).map (List.map .v)))) nb t c' env funcs (by rw [aC _ _ _ _ dR, aU]) ht (by omega) (hkok _ (List.getElem_mem _)) fH hf henv (by omega)) ?_
   rintro r h' ⟨s, t2, c2, rfl, rfl, hs, h1, h2, h3⟩
   simp -dsimp -implicitDefEqProofs only [go_sem, ↓reduceIte, Tryz.f137, aC, eG, eH]
   refine ⟨Nat.zero_lt_one, Nat.zero_lt_one, Nat.zero_lt_one, Nat.le_refl _, by omega, by omega, ?_⟩
   intro b b5
   have dU : ¬ b = nb := by first | exact b5.1 | exact b5 | exact b5.2.1 | exact b5.2 | exact b5.2.2.1 | exact b5.2.2 | exact b5.2.2.2.1 | exact b5.2.2.2 | exact b5.2.2.2.2.1 | exact b5.2.2.2.2 | exact b5.2.2.2.2.2.1 | exact b5.2.2.2.2.2 | exact b5.2.2.2.2.2.2.1 | exact b5.2.2.2.2.2.2 | exact b5.2.2.2.2.2.2.2.1 | exact b5.2.2.2.2.2.2.2 | exact b5.2.2.2.2.2.2.2.2.1 | exact b5.2.2.2.2.2.2.2.2 | exact b5.2.2.2.2.2.2.2.2.2.1 | exact b5.2.2.2.2.2.2.2.2.2 | exact b5.2.2.2.2.2.2.2.2.2.2.1 | exact b5.2.2.2.2.2.2.2.2.2.2 | exact b5.2.2.2.2.2.2.2.2.2.2.2.1 | exact b5.2.2.2.2.2.2.2.2.2.2.2 | exact b5.2.2.2.2.2.2.2.2.2.2.2.2.1 | exact b5.2.2.2.2.2.2.2.2.2.2.2.2 | exact b5.2.2.2.2.2.2.2.2.2.2.2.2.2.1 | exact b5.2.2.2.2.2.2.2.2.2.2.2.2.2
   have iG : (b = nb) = False := eq_false dU
   have iH : (nb = b) = False := eq_false (Ne.symm dU)
   have iI : ¬ nb = b := Ne.symm dU
   have lF : ¬ b = m := by first | exact b5.1 | exact b5 | exact b5.2.1 | exact b5.2 | exact b5.2.2.1 | exact b5.2.2 | exact b5.2.2.2.1 | exact b5.2.2.2 | exact b5.2.2.2.2.1 | exact b5.2.2.2.2 | exact b5.2.2.2.2.2.1 | exact b5.2.2.2.2.2 | exact b5.2.2.2.2.2.2.1 | exact b5.2.2.2.2.2.2 | exact b5.2.2.2.2.2.2.2.1 | exact b5.2.2.2.2.2.2.2 | exact b5.2.2.2.2.2.2.2.2.1 | exact b5.2.2.2.2.2.2.2.2 | exact b5.2.2.2.2.2.2.2.2.2.1 | exact b5.2.2.2.2.2.2.2.2.2 | exact b5.2.2.2.2.2.2.2.2.2.2.1 | exact b5.2.2.2.2.2.2.2.2.2.2 | exact b5.2.2.2.2.2.2.2.2.2.2.2.1 | exact b5.2.2.2.2.2.2.2.2.2.2.2 | exact b5.2.2.2.2.2.2.2.2.2.2.2.2.1 | exact b5.2.2.2.2.2.2.2.2.2.2.2.2 | exact b5.2.2.2.2.2.2.2.2.2.2.2.2.2.1 | exact b5.2.2.2.2.2.2.2.2.2.2.2.2.2
   have sJ : (b = m) = False := eq_false lF
   have sK : (m = b) = False := eq_false (Ne.symm lF)
   have v9 : ¬ m = b := Ne.symm lF
   have z_b : h b = none := by first | exact b5.1 | exact b5 | exact b5.2.1 | exact b5.2 | exact b5.2.2.1 | exact b5.2.2 | exact b5.2.2.2.1 | exact b5.2.2.2 | exact b5.2.2.2.2.1 | exact b5.2.2.2.2 | exact b5.2.2.2.2.2.1 | exact b5.2.2.2.2.2 | exact b5.2.2.2.2.2.2.1 | exact b5.2.2.2.2.2.2 | exact b5.2.2.2.2.2.2.2.1 | exact b5.2.2.2.2.2.2.2 | exact b5.2.2.2.2.2.2.2.2.1 | exact b5.2.2.2.2.2.2.2.2 | exact b5.2.2.2.2.2.2.2.2.2.1 | exact b5.2.2.2.2.2.2.2.2.2 | exact b5.2.2.2.2.2.2.2.2.2.2.1 | exact b5.2.2.2.2.2.2.2.2.2.2 | exact b5.2.2.2.2.2.2.2.2.2.2.2.1 | exact b5.2.2.2.2.2.2.2.2.2.2.2 | exact b5.2.2.2.2.2.2.2.2.2.2.2.2.1 | exact b5.2.2.2.2.2.2.2.2.2.2.2.2 | exact b5.2.2.2.2.2.2.2.2.2.2.2.2.2.1 | exact b5.2.2.2.2.2.2.2.2.2.2.2.2.2
   refine ⟨(k + 1, vs ++ [s], t2, c2, some b), ⟨by rw [cI, List.length_append]; rfl, by rw [IntWalk.i64_in _ (by omega)]; rfl⟩, ?_, ⟨by omega, by rw [List.length_append, hvl]; rfl, hall s hs, Nat.le_trans ht0 h1, h2, hnext s t2 c2 h3, z_b⟩, by simp only; omega⟩
   simp only [aG]
   rw [← jN ints]
   exact (jJ (by repeat' (first | exact gJ _ _ | refine jK (by simp only [dZ, ↓reduceIte, eq_self, if_true, iH, eH, iG, sJ, eG, sK]) ?_ | refine fM (by first | exact .inr (by assumption) | exact .inl (by simp)) ?_)))
 have hk' : k = e.aM.length := by omega
 subst hk'
 rw [List.take_length] at ho
 have gp : vs[e.c9.toNat]? = some (vs.getD e.c9.toNat []) ∨ e.a6 = 10 := by
  by_cases h10 : e.a6 = 10
  ·exact .inr h10
  ·exact .inl (aH2 (by have := f9 (by omega); omega))
 cases o with
 |none =>
  rw [dB] at hos
  subst hos
  simp -dsimp -implicitDefEqProofs only [go_sem, ↓reduceIte, Tryz.f137, dN, aK, Nat.lt_irrefl, Int.lt_irrefl, eQ, hk, F.get, F.out, aV.aN, aI.aN]
  intro _
  refine ⟨f1, f2, f3, by omega, ?_⟩
  refine aJ.iF (fO.sub (.cons (.refl _) (.cons (.refl _) (.cons (Sub.loose _ _ _) .nil))) (hv.at F.out (bK h nb (eQ p sz t c')) nb t c' [] e.bQ (aU _ _ _) ht (by omega) (by rw [hvl, f5]; exact F.oks _ (List.mem_of_getElem? F.out)) f1 (by omega) (by simp) (by simp))) ?_
  rintro r h' ⟨s, t2, c2, rfl, rfl, hs, b1, b2, b3⟩
  simp -dsimp -implicitDefEqProofs only [go_sem, ↓reduceIte, Tryz.f137]
  refine ⟨_, bK h nb (eQ p sz t2 c2), eA (by rw [aF]; exact aB.le_refl _), s, t2, c2, rfl, rfl, hs, by omega, b2, ?_⟩
  exact ho.fQ b3
 |some m =>
  rw [cQ] at hos
  have eJ : ¬ m = nb := fun e => by rw [e, hb] at hos; cases hos
  have dR : ¬ nb = m := Ne.symm eJ
  have eG : (m = nb) = False := eq_false eJ
  have eH : (nb = m) = False := eq_false dR
  simp -dsimp -implicitDefEqProofs only [go_sem, ↓reduceIte, Tryz.f137, cI, aG, Nat.lt_irrefl, Int.lt_irrefl, eQ, aC, eG, eH, hk, F.get, F.out, aV.aN, aI.aN]
  intro _
  refine ⟨f1, f2, f3, by omega, ?_⟩
  refine aJ.aHH rfl rfl dR (by rw [List.length_map]) (by rw [aC _ _ _ _ eJ]; exact hos) ?_
  refine fO.mono (hv.at F.out (bK (bK h nb (eQ p sz t c')) m .gone) nb t c' vs e.bQ (by rw [aC _ _ _ _ dR, aU]) ht (by omega) (by rw [hvl, f5]; exact F.oks _ (List.mem_of_getElem? F.out)) f1 (by omega) hvs (by omega)) ?_
  rintro r h' ⟨s, t2, c2, rfl, rfl, hs, b1, b2, b3⟩
  simp -dsimp -implicitDefEqProofs only [go_sem, ↓reduceIte, Tryz.f137]
  refine ⟨_, bK h nb (eQ p sz t2 c2), eA (jJ (by repeat' (first | exact gJ _ _ | refine jK (by simp only [dZ, ↓reduceIte, eq_self, if_true, eH, eG]) ?_ | refine fM (by first | exact .inr (by assumption) | exact .inl (by simp)) ?_))), s, t2, c2, rfl, rfl, hs, by omega, b2, ?_⟩
  exact ho.fQ b3
theorem a65 {p : aI} (hp : p.ok) {sz n : Nat} (hv : tK p sz n) (h : aB) (nb st : Nat) (e : aA) (env : List (List Int)) (funcs : Int) (hb : h nb = some (eQ p sz st 0)) (hst : st ≤ 3000) (hn : 3001 ≤ n + st) (hok : e.ok p funcs env.length) (fH : 0 ≤ funcs) (hf : funcs ≤ p.aH.length) (henv : ∀ s ∈ env, fK sz s) (hel : env.length ≤ 412 + st) (hk : e.a6 = 11) :
  fO Tryz.prog 137 [.op nb 4 0 0, .ip 5 [e.c] 0 0, mR env] h (RnQ h nb p sz st 0 ((sG (fun t e => mY p sz n t e env) e.aM st).andThen fun vs t => (aAU (fun vs t => sG (fun t e => mY p sz n t e vs) (p.outs e.bQ) t) e.cU.toNat vs t).andThen fun vs t => .ok (vs.getD e.c9.toNat [], t))) := by
 obtain ⟨f, F⟩ := uD hp hok hf (.inr hk)
 have f1 := F.lo
 have f2 := F.hi
 have f3 := F.pk
 have f4 := F.pk2
 have f5 := F.kids
 have f6 := F.params
 have f8 := F.outs
 have f9 := F.loop
 have hkok := fU hok (by omega)
 rw [aA.aN]
 refine kO 81 aEY aRW aRX mix Tryz.func137 rfl (by kernel_rfl) (by simp) ?_
 simp -dsimp -implicitDefEqProofs only [go_sem, ↓reduceIte, Tryz.f137]
 refine ⟨Nat.zero_lt_one, ?_⟩
 refine cS (keep := aEY) (ib := aRW) (mk := aRX) mix (by kernel_rfl) (fun x : Nat × List (List Int) × Nat × Int × Option Nat => [(0, .op nb 4 0 0), (1, .ip 5 [[I e.a6, I e.bQ, I e.c9, I e.cU, c5 5 aA.c e.aM]] 0 0), (2, mR env), (7, nO 1 x.2.1.length x.2.2.2.2), (8, I x.1)]) (fun x => dD (bK h nb (eQ p sz x.2.2.1 x.2.2.2.1)) (.row 1 ((x.2.1.map fun s => [ints s]).map (List.map .v))) x.2.2.2.2) (fun x => x.1 ≤ e.aM.length ∧ x.2.1.length = x.1 ∧ (∀ s ∈ x.2.1, fK sz s) ∧ st ≤ x.2.2.1 ∧ x.2.2.1 ≤ 3000 ∧ lN (sZ 0 (sG (fun t e => mY p sz n t e env) (e.aM.take x.1) st)) x.2.1 x.2.2.1 x.2.2.2.1 ∧ lQ h x.2.1 x.2.2.2.2) (fun x => e.aM.length - x.1) (0, [], st, 0, none) ⟨by simp [dA, cH, nO], by simp only [aK]; rw [aAN hb]; exact aB.le_refl _, Nat.zero_le _, rfl, by simp, Nat.le_refl _, hst, jE _ _ _, rfl⟩ ?_
 rintro ⟨k, vs, t, c', o⟩ ⟨hk2, hvl, hvs, ht0, ht, ho, hos⟩
 simp only at hk2 hvl hvs ht0 ht ho hos ⊢
 rcases Nat.lt_or_ge k e.aM.length with hlt | hge
 ·have ek : e.aM[k]? = some e.aM[k] := List.getElem?_eq_getElem hlt
  have hnext : ∀ (s : List Int) (t2 : Nat) (c2 : Int), lN (sZ c' (mY p sz n t e.aM[k] env)) s t2 c2 → lN (sZ 0 (sG (fun t e => mY p sz n t e env) (e.aM.take (k + 1)) st)) (vs ++ [s]) t2 c2 := fun s t2 c2 h3 => by
   rw [List.take_succ_eq_append_getElem hlt, aBB]
   exact ho.fQ (h3.fQ (jE _ _ _))
  have hall : ∀ s, fK sz s → ∀ x ∈ vs ++ [s], fK sz x := fun s hs => yT hvs hs
  cases o with
  |none =>
   rw [dB] at hos
   subst hos
   simp -dsimp -implicitDefEqProofs only [go_sem, ↓reduceIte, Tryz.f137, dN, aK, hlt, ek]
   intro _
   refine aJ.iF (hv.at ek (bK h nb (eQ p sz t c')) nb t c' env funcs (aU _ _ _) ht (by omega) (hkok _ (List.getElem_mem _)) fH hf henv (by omega)) ?_
   rintro r h' ⟨s, t2, c2, rfl, rfl, hs, h1, h2, h3⟩
   simp -dsimp -implicitDefEqProofs only [go_sem, ↓reduceIte, Tryz.f137]
   refine ⟨Nat.zero_lt_one, Nat.zero_lt_one, Nat.zero_lt_one, ?_⟩
   intro b b5
   have dU : ¬ b = nb := by first | exact b5.1 | exact b5 | exact b5.2.1 | exact b5.2 | exact b5.2.2.1 | exact b5.2.2 | exact b5.2.2.2.1 | exact b5.2.2.2 | exact b5.2.2.2.2.1 | exact b5.2.2.2.2 | exact b5.2.2.2.2.2.1 | exact b5.2.2.2.2.2 | exact b5.2.2.2.2.2.2.1 | exact b5.2.2.2.2.2.2 | exact b5.2.2.2.2.2.2.2.1 | exact b5.2.2.2.2.2.2.2 | exact b5.2.2.2.2.2.2.2.2.1 | exact b5.2.2.2.2.2.2.2.2 | exact b5.2.2.2.2.2.2.2.2.2.1 | exact b5.2.2.2.2.2.2.2.2.2 | exact b5.2.2.2.2.2.2.2.2.2.2.1 | exact b5.2.2.2.2.2.2.2.2.2.2 | exact b5.2.2.2.2.2.2.2.2.2.2.2.1 | exact b5.2.2.2.2.2.2.2.2.2.2.2 | exact b5.2.2.2.2.2.2.2.2.2.2.2.2.1 | exact b5.2.2.2.2.2.2.2.2.2.2.2.2 | exact b5.2.2.2.2.2.2.2.2.2.2.2.2.2.1 | exact b5.2.2.2.2.2.2.2.2.2.2.2.2.2
   have iG : (b = nb) = False := eq_false dU
   have iH : (nb = b) = False := eq_false (Ne.symm dU)
   have iI : ¬ nb = b := Ne.symm dU
   have z_b : h b = none := by first | exact b5.1 | exact b5 | exact b5.2.1 | exact b5.2 | exact b5.2.2.1 | exact b5.2.2 | exact b5.2.2.2.1 | exact b5.2.2.2 | exact b5.2.2.2.2.1 | exact b5.2.2.2.2 | exact b5.2.2.2.2.2.1 | exact b5.2.2.2.2.2 | exact b5.2.2.2.2.2.2.1 | exact b5.2.2.2.2.2.2 | exact b5.2.2.2.2.2.2.2.1 | exact b5.2.2.2.2.2.2.2 | exact b5.2.2.2.2.2.2.2.2.1 | exact b5.2.2.2.2.2.2.2.2 | exact b5.2.2.2.2.2.2.2.2.2.1 | exact b5.2.2.2.2.2.2.2.2.2 | exact b5.2.2.2.2.2.2.2.2.2.2.1 | exact b5.2.2.2.2.2.2.2.2.2.2 | exact b5.2.2.2.2.2.2.2.2.2.2.2.1 | exact b5.2.2.2.2.2.2.2.2.2.2.2 | exact b5.2.2.2.2.2.2.2.2.2.2.2.2.1 | exact b5.2.2.2.2.2.2.2.2.2.2.2.2 | exact b5.2.2.2.2.2.2.2.2.2.2.2.2.2.1 | exact b5.2.2.2.2.2.2.2.2.2.2.2.2.2
   refine ⟨(k + 1, [s], t2, c2, some b), ⟨rfl, by rw [IntWalk.i64_in _ (by omega)]; rfl⟩, (jJ (by repeat' (first | exact gJ _ _ | refine jK (by simp only [dZ, ↓reduceIte, eq_self, if_true, iH, iG, List.map_cons, List.map_nil]) ?_ | refine fM (by first | exact .inr (by assumption) | exact .inl (by simp)) ?_))), ⟨by omega, by simp only [List.length_nil] at hvl; subst hvl; rfl, fun x hx => hall s hs x hx, Nat.le_trans ht0 h1, h2, hnext s t2 c2 h3, z_b⟩, by simp only; omega⟩
  |some m =>
   rw [cQ] at hos
   have eJ : ¬ m = nb := fun e => by rw [e, hb] at hos; cases hos
   have dR : ¬ nb = m := Ne.symm eJ
   have eG : (m = nb) = False := eq_false eJ
   have eH : (nb = m) = False := eq_false dR
   simp -dsimp -implicitDefEqProofs only [go_sem, ↓reduceIte, Tryz.f137, cI, aG, hlt, ek]
   intro _
   refine aJ.iF (hv.at ek (bK (bK h nb (eQ p sz t c')) m (.row 1 ((vs.map fun s => [ints s]).map (List.map .v)))) nb t c' env funcs (by rw [aC _ _ _ _ dR, aU]) ht (by omega) (hkok _ (List.getElem_mem _)) fH hf henv (by omega)) ?_
   rintro r h' ⟨s, t2, c2, rfl, rfl, hs, h1, h2, h3⟩
   simp -dsimp -implicitDefEqProofs only [go_sem, ↓reduceIte, Tryz.f137, aC, eG, eH]
   refine ⟨Nat.zero_lt_one, Nat.zero_lt_one, Nat.zero_lt_one, Nat.le_refl _, by omega, by omega, ?_⟩
   intro b b5
   have dU : ¬ b = nb := by first | exact b5.1 | exact b5 | exact b5.2.1 | exact b5.2 | exact b5.2.2.1 | exact b5.2.2 | exact b5.2.2.2.1 | exact b5.2.2.2 | exact b5.2.2.2.2.1 | exact b5.2.2.2.2 | exact b5.2.2.2.2.2.1 | exact b5.2.2.2.2.2 | exact b5.2.2.2.2.2.2.1 | exact b5.2.2.2.2.2.2 | exact b5.2.2.2.2.2.2.2.1 | exact b5.2.2.2.2.2.2.2 | exact b5.2.2.2.2.2.2.2.2.1 | exact b5.2.2.2.2.2.2.2.2 | exact b5.2.2.2.2.2.2.2.2.2.1 | exact b5.2.2.2.2.2.2.2.2.2 | exact b5.2.2.2.2.2.2.2.2.2.2.1 | exact b5.2.2.2.2.2.2.2.2.2.2 | exact b5.2.2.2.2.2.2.2.2.2.2.2.1 | exact b5.2.2.2.2.2.2.2.2.2.2.2 | exact b5.2.2.2.2.2.2.2.2.2.2.2.2.1 | exact b5.2.2.2.2.2.2.2.2.2.2.2.2 | exact b5.2.2.2.2.2.2.2.2.2.2.2.2.2.1 | exact b5.2.2.2.2.2.2.2.2.2.2.2.2.2
   have iG : (b = nb) = False := eq_false dU
   have iH : (nb = b) = False := eq_false (Ne.symm dU)
   have iI : ¬ nb = b := Ne.symm dU
   have lF : ¬ b = m := by first | exact b5.1 | exact b5 | exact b5.2.1 | exact b5.2 | exact b5.2.2.1 | exact b5.2.2 | exact b5.2.2.2.1 | exact b5.2.2.2 | exact b5.2.2.2.2.1 | exact b5.2.2.2.2 | exact b5.2.2.2.2.2.1 | exact b5.2.2.2.2.2 | exact b5.2.2.2.2.2.2.1 | exact b5.2.2.2.2.2.2 | exact b5.2.2.2.2.2.2.2.1 | exact b5.2.2.2.2.2.2.2 | exact b5.2.2.2.2.2.2.2.2.1 | exact b5.2.2.2.2.2.2.2.2 | exact b5.2.2.2.2.2.2.2.2.2.1 | exact b5.2.2.2.2.2.2.2.2.2 | exact b5.2.2.2.2.2.2.2.2.2.2.1 | exact b5.2.2.2.2.2.2.2.2.2.2 | exact b5.2.2.2.2.2.2.2.2.2.2.2.1 | exact b5.2.2.2.2.2.2.2.2.2.2.2 | exact b5.2.2.2.2.2.2.2.2.2.2.2.2.1 | exact b5.2.2.2.2.2.2.2.2.2.2.2.2 | exact b5.2.2.2.2.2.2.2.2.2.2.2.2.2.1 | exact b5.2.2.2.2.2.2.2.2.2.2.2.2.2
   have sJ : (b = m) = False := eq_false lF
   have sK : (m = b) = False := eq_false (Ne.symm lF)
   have v9 : ¬ m = b := Ne.symm lF
   have z_b : h b = none := by first | exact b5.1 | exact b5 | exact b5.2.1 | exact b5.2 | exact b5.2.2.1 | exact b5.2.2 | exact b5.2.2.2.1 | exact b5.2.2.2 | exact b5.2.2.2.2.1 | exact b5.2.2.2.2 | exact b5.2.2.2.2.2.1 | exact b5.2.2.2.2.2 | exact b5.2.2.2.2.2.2.1 | exact b5.2.2.2.2.2.2 | exact b5.2.2.2.2.2.2.2.1 | exact b5.2.2.2.2.2.2.2 | exact b5.2.2.2.2.2.2.2.2.1 | exact b5.2.2.2.2.2.2.2.2 | exact b5.2.2.2.2.2.2.2.2.2.1 | exact b5.2.2.2.2.2.2.2.2.2 | exact b5.2.2.2.2.2.2.2.2.2.2.1 | exact b5.2.2.2.2.2.2.2.2.2.2 | exact b5.2.2.2.2.2.2.2.2.2.2.2.1 | exact b5.2.2.2.2.2.2.2.2.2.2.2 | exact b5.2.2.2.2.2.2.2.2.2.2.2.2.1 | exact b5.2.2.2.2.2.2.2.2.2.2.2.2 | exact b5.2.2.2.2.2.2.2.2.2.2.2.2.2.1 | exact b5.2.2.2.2.2.2.2.2.2.2.2.2.2
   refine ⟨(k + 1, vs ++ [s], t2, c2, some b), ⟨by rw [cI, List.length_append]; rfl, by rw [IntWalk.i64_in _ (by omega)]; rfl⟩, ?_, ⟨by omega, by rw [List.length_append, hvl]; rfl, hall s hs, Nat.le_trans ht0 h1, h2, hnext s t2 c2 h3, z_b⟩, by simp only; omega⟩
   simp only [aG]
   rw [← jN ints]
   exact (jJ (by repeat' (first | exact gJ _ _ | refine jK (by simp only [dZ, ↓reduceIte, eq_self, if_true, iH, eH, iG, sJ, eG, sK]) ?_ | refine fM (by first | exact .inr (by assumption) | exact .inl (by simp)) ?_)))
 have hk' : k = e.aM.length := by omega
 subst hk'
 rw [List.take_length] at ho
 have gp : vs[e.c9.toNat]? = some (vs.getD e.c9.toNat []) ∨ e.a6 = 10 := by
  by_cases h10 : e.a6 = 10
  ·exact .inr h10
  ·exact .inl (aH2 (by have := f9 (by omega); omega))
 have gp' : vs[e.c9.toNat]? = some (vs.getD e.c9.toNat []) := gp.resolve_right (by omega)
 have g9 := f9 hk
 cases o with
 |none =>
  exfalso
  rw [dB] at hos
  rw [hos] at hvl
  simp at hvl
  omega
 |some m =>
  rw [cQ] at hos
  have eJ : ¬ m = nb := fun e => by rw [e, hb] at hos; cases hos
  have dR : ¬ nb = m := Ne.symm eJ
  have eG : (m = nb) = False := eq_false eJ
  have eH : (nb = m) = False := eq_false dR
  simp -dsimp -implicitDefEqProofs only [go_sem, ↓reduceIte, Tryz.f137, cI, aG, Nat.lt_irrefl, Int.lt_irrefl, eQ, aC, eG, eH, hk, F.get, F.out, aV.aN, aI.aN]
  intro _
  refine ⟨f1, f2, ?_⟩
  refine aNG.a16 m (by rw [aC _ _ _ _ eJ]; exact hos) (by simp [iK, eG, eH]) ?_
  refine cS (keep := aEY) (ib := aRW) (mk := aRX) mix (by kernel_rfl) (fun x : Nat × List (List Int) × Nat × Int => [(0, .op nb 4 0 0), (1, .ip 5 [[I 11, I e.bQ, I e.c9, I e.cU, c5 5 aA.c e.aM]] 0 0), (7, mR x.2.1), (9, .ip 3 (p.aH.map aV.c) e.bQ.toNat 0), (10, I x.1)]) (fun x => bK h nb (eQ p sz x.2.2.1 x.2.2.2)) (fun x => x.1 ≤ e.cU.toNat ∧ x.2.1.length = f.aZ.length ∧ (∀ s ∈ x.2.1, fK sz s) ∧ t ≤ x.2.2.1 ∧ x.2.2.1 ≤ 3000 ∧ lN (sZ c' (aAU (fun vs t => sG (fun t e => mY p sz n t e vs) (p.outs e.bQ) t) x.1 vs t)) x.2.1 x.2.2.1 x.2.2.2) (fun x => e.cU.toNat - x.1) (0, vs, t, c') ⟨by simp [dA, cH, aD.fZ, eG, eH, List.take_of_length_le], (jJ (by repeat' (first | exact gJ _ _ | refine jK (by simp only [dZ, ↓reduceIte, eq_self, if_true, eG, eH, eQ, aI.aN]) ?_ | refine fM (by first | exact .inr (by assumption) | exact .inl (by simp)) ?_))), Nat.zero_le _, by simp only; omega, hvs, Nat.le_refl _, ht, jE _ _ _⟩ ?_
  rintro ⟨k, us, u, d⟩ ⟨hk1, hul, hus, ht1, ht2, hd⟩
  simp only at hk1 hul hus ht1 ht2 hd ⊢
  have gu : us[e.c9.toNat]? = some (us.getD e.c9.toNat []) := aH2 (by omega)
  simp -dsimp -implicitDefEqProofs only [go_sem, ↓reduceIte, Tryz.f137, eQ, gu]
  refine ⟨fun hlt => ?_, fun hge => ?_⟩
  ·refine aJ.iF (fO.sub (.cons (.refl _) (.cons (Sub.ip (by rw [List.getElem?_map, F.get]; rfl) (by simp [aV.aN])) (.cons (.refl _) .nil))) (aO4 hv (bK h nb (eQ p sz u d)) nb u d f us e.bQ (aU _ _ _) ht2 (by omega) (by omega) (by rw [hul, g9.2.2]; exact F.oks) f1 (by omega) hus (by omega))) ?_
   rintro r h' ⟨l2, t2, c2, rfl, rfl, hl2, jX, b1, b2, b3⟩
   simp -dsimp -implicitDefEqProofs only [go_sem, ↓reduceIte, Tryz.f137]
   refine ⟨(k + 1, l2, t2, c2), ⟨rfl, by rw [IntWalk.i64_in _ (by omega)]; rfl⟩, by simp only [aF]; exact aB.le_refl _, ⟨by omega, hl2, jX, by simp only; omega, b2, ?_⟩, by simp only; omega⟩
   simp only
   rw [aKK]
   refine hd.fQ ?_
   rw [F.eq]
   exact b3
  ·have hke : k = e.cU.toNat := by omega
   refine ⟨f3, by omega, _, _, bX _ _, us.getD e.c9.toNat [], u, d, rfl, rfl, aMO hus (by omega), by omega, ht2, ?_⟩
   refine ho.fQ ?_
   rw [← hke]
   exact hd.fQ (jE _ _ _)
set_option maxRecDepth 100000
open Go.Proofs
set_option linter.unusedVariables false
set_option linter.unusedSimpArgs false
theorem aY3 {p : aI} {sz n : Nat} (hsz : 1 ≤ sz ∧ sz ≤ 1048576) (h : aB) (nb st : Nat) (c : Int) (e : aA) (env : List (List Int)) (hb : h nb = some (eQ p sz st c)) (hst : st ≤ 3000) (hs : ¬ c = 0 ∨ st = 3000) :
  fO Tryz.prog 118 [.op nb 4 0 0, .ip 5 [e.c] 0 0, mR env] h (RnQ h nb p sz st c (mY p sz (n + 1) st e env)) := by
 rw [aA.aN]
 have hb' := hb
 unfold eQ at hb'
 refine kO 186 p2 zI zJ mix Tryz.func118 rfl (by kernel_rfl) (by simp) ?_
 simp -dsimp -implicitDefEqProofs only [go_sem, ↓reduceIte, Tryz.f118, hb']
 refine ⟨fun hc => ?_, fun hc => ?_⟩
 ·have hc' : ¬ c = 0 := by simpa using hc
  refine aJ.iF (aXJ h nb p sz st c c hb hsz.2) ?_
  rintro r h' ⟨rfl, rfl⟩
  simp -dsimp -implicitDefEqProofs only [go_sem, ↓reduceIte, Tryz.f118]
  refine ⟨_, _, bX _ _, _, st, c, rfl, by rw [if_neg hc'], tH aEX, Nat.le_refl _, hst, by rw [lU _ hc']; exact jB _ _ hc'⟩
 ·have oB : c = 0 := by simpa using hc
  subst oB
  have h3 : st = 3000 := by rcases hs with hs | hs; exact absurd rfl hs; exact hs
  subst h3
  try simp -dsimp -implicitDefEqProofs only [go_sem, ↓reduceIte, Tryz.f118, hb']
  refine ⟨fun _ => ?_, fun q => absurd q (by simp)⟩
  refine aJ.iF (aXJ h nb p sz 3000 0 7 hb hsz.2) ?_
  rintro r h' ⟨rfl, rfl⟩
  simp -dsimp -implicitDefEqProofs only [go_sem, ↓reduceIte, Tryz.f118]
  refine ⟨_, _, bX _ _, _, 3000, 7, rfl, rfl, tH aEX, Nat.le_refl _, hst, ?_⟩
  rw [fD, mY, if_pos rfl]
  exact jB _ _ (by decide)
theorem bEK {p : aI} (hp : p.ok) {sz n : Nat} (hsz : 1 ≤ sz ∧ sz ≤ 1048576) (hv : tK p sz n) (h : aB) (nb st : Nat) (e : aA) (env : List (List Int)) (funcs : Int) (hb : h nb = some (eQ p sz st 0)) (hst : st < 3000) (hn : 3001 ≤ n + 1 + st)
  (hok : e.ok p funcs env.length) (fH : 0 ≤ funcs) (hf : funcs ≤ p.aH.length) (henv : ∀ s ∈ env, fK sz s) (hel : env.length ≤ 412 + st) (hk : e.a6 = 1) :
  fO Tryz.prog 118 [.op nb 4 0 0, .ip 5 [e.c] 0 0, mR env] h (RnQ h nb p sz st 0 (mY p sz (n + 1) st e env)) := by
 have hb' := hb
 unfold eQ at hb'
 have e3 : ((st : Int) = 3000) = False := eq_false (by omega)
 have ew : IntKind.i64.wrap ((st : Int) + 1) = ((st + 1 : Nat) : Int) := by rw [IntWalk.i64_in _ (by omega)]; rfl
 have hnode := (aA.eP _ _ _ _).1 hok
 have h3 : ¬ st = 3000 := by omega
 have hnum : nZ e.bQ := ((fP (by omega)).1 hnode.1).2.2.2.1 hk
 rw [aA.aN]
 refine kO 186 p2 zI zJ mix Tryz.func118 rfl (by kernel_rfl) (by simp) ?_
 simp -dsimp -implicitDefEqProofs only [go_sem, ↓reduceIte, Tryz.f118, hb', e3, ew, hk]
 first | refine aJ.mk (nG e.bQ sz hsz.2) ?_ | refine aL.mk (nG e.bQ sz hsz.2) ?_ | refine aJ.dF (nG e.bQ sz hsz.2) ?_ | refine aL.mk (cZ.gC (nG e.bQ sz hsz.2)) ?_
 simp -dsimp -implicitDefEqProofs only [go_sem, ↓reduceIte, Tryz.f118]
 refine ⟨_, _, bX _ _, _, st + 1, 0, rfl, rfl, tH hnum, Nat.le_succ _, hst, ?_⟩
 rw [fD, a94 h3 hk]
 exact uC _ _
theorem bEL {p : aI} (hp : p.ok) {sz n : Nat} (hsz : 1 ≤ sz ∧ sz ≤ 1048576) (hv : tK p sz n) (h : aB) (nb st : Nat) (e : aA) (env : List (List Int)) (funcs : Int) (hb : h nb = some (eQ p sz st 0)) (hst : st < 3000) (hn : 3001 ≤ n + 1 + st)
  (hok : e.ok p funcs env.length) (fH : 0 ≤ funcs) (hf : funcs ≤ p.aH.length) (henv : ∀ s ∈ env, fK sz s) (hel : env.length ≤ 412 + st) (hk : e.a6 = 2) :
  fO Tryz.prog 118 [.op nb 4 0 0, .ip 5 [e.c] 0 0, mR env] h (RnQ h nb p sz st 0 (mY p sz (n + 1) st e env)) := by
 have hb' := hb
 unfold eQ at hb'
 have e3 : ((st : Int) = 3000) = False := eq_false (by omega)
 have ew : IntKind.i64.wrap ((st : Int) + 1) = ((st + 1 : Nat) : Int) := by rw [IntWalk.i64_in _ (by omega)]; rfl
 have hnode := (aA.eP _ _ _ _).1 hok
 have h3 : ¬ st = 3000 := by omega
 have hnum := ((fP (by omega)).1 hnode.1).2.2.2.2.1 hk
 have hlt : e.bQ.toNat < env.length := by omega
 rw [aA.aN]
 refine kO 186 p2 zI zJ mix Tryz.func118 rfl (by kernel_rfl) (by simp) ?_
 simp -dsimp -implicitDefEqProofs only [go_sem, ↓reduceIte, Tryz.f118, hb', e3, ew, hk, aH2 hlt]
 refine ⟨hnum.1, by omega, _, _, bX _ _, _, st + 1, 0, rfl, rfl, aMO henv hlt, Nat.le_succ _, hst, ?_⟩
 rw [fD, a95 h3 hk]
 exact uC _ _
theorem bEM {p : aI} (hp : p.ok) {sz n : Nat} (hsz : 1 ≤ sz ∧ sz ≤ 1048576) (hv : tK p sz n) (h : aB) (nb st : Nat) (e : aA) (env : List (List Int)) (funcs : Int) (hb : h nb = some (eQ p sz st 0)) (hst : st < 3000) (hn : 3001 ≤ n + 1 + st)
  (hok : e.ok p funcs env.length) (fH : 0 ≤ funcs) (hf : funcs ≤ p.aH.length) (henv : ∀ s ∈ env, fK sz s) (hel : env.length ≤ 412 + st) (hk : e.a6 = 8) :
  fO Tryz.prog 118 [.op nb 4 0 0, .ip 5 [e.c] 0 0, mR env] h (RnQ h nb p sz st 0 (mY p sz (n + 1) st e env)) := by
 have hb' := hb
 unfold eQ at hb'
 have e3 : ((st : Int) = 3000) = False := eq_false (by omega)
 have ew : IntKind.i64.wrap ((st : Int) + 1) = ((st + 1 : Nat) : Int) := by rw [IntWalk.i64_in _ (by omega)]; rfl
 have hnode := (aA.eP _ _ _ _).1 hok
 have h3 : ¬ st = 3000 := by omega
 have hlen := fE hok (by omega)
 rw [hk, show gK 8 = 3 from rfl] at hlen
 have g0 : e.aM[Int.toNat 0]? = some (e.pV 0) := aA.iX (by omega)
 have g1 : e.aM[Int.toNat 1]? = some (e.pV 1) := aA.iX (by omega)
 have g2 : e.aM[Int.toNat 2]? = some (e.pV 2) := aA.iX (by omega)
 have o0 := aA.gX hok (i := 0) (by omega)
 have o1 := aA.gX hok (i := 1) (by omega)
 have o2 := aA.gX hok (i := 2) (by omega)
 rw [kP (by omega)] at o0 o1 o2
 rw [aA.aN]
 refine kO 186 p2 zI zJ mix Tryz.func118 rfl (by kernel_rfl) (by simp) ?_
 simp -dsimp -implicitDefEqProofs only [go_sem, ↓reduceIte, Tryz.f118, hb', e3, ew, hk, g0]
 refine ⟨by omega, ?_⟩
 refine aJ.iF (hv.at g0 (bK h nb (eQ p sz (st + 1) 0)) nb (st + 1) 0 env funcs (aU _ _ _) (by omega) (by omega) o0 fH hf henv (by omega)) ?_
 rintro r h' ⟨s1, t1, c1, rfl, rfl, kD, a1, a2, a3⟩
 have gs : s1[Int.toNat 0]? = some (s1.getD 0 0) := eZ (by rw [kD.1]; omega)
 simp -dsimp -implicitDefEqProofs only [go_sem, ↓reduceIte, Tryz.f118, gs, g1, g2]
 refine ⟨by rw [kD.1]; omega, fun hz => ⟨by omega, ?_⟩, fun hz => ⟨by omega, ?_⟩⟩
 ·rw [aF]
  refine aJ.iF (hv.at g1 (bK h nb (eQ p sz t1 c1)) nb t1 c1 env funcs (aU _ _ _) (by omega) (by omega) o1 fH hf henv (by omega)) ?_
  rintro r h' ⟨s2, t2, c2, rfl, rfl, jX, b1, b2, b3⟩
  simp -dsimp -implicitDefEqProofs only [go_sem, ↓reduceIte, Tryz.f118]
  refine ⟨_, _, bX _ _, s2, t2, c2, rfl, by rw [aF], jX, by omega, b2, ?_⟩
  rw [a2C h3 hk]
  refine a3.fQ ?_
  rw [if_pos hz]
  exact b3
 ·rw [aF]
  refine aJ.iF (hv.at g2 (bK h nb (eQ p sz t1 c1)) nb t1 c1 env funcs (aU _ _ _) (by omega) (by omega) o2 fH hf henv (by omega)) ?_
  rintro r h' ⟨s2, t2, c2, rfl, rfl, jX, b1, b2, b3⟩
  simp -dsimp -implicitDefEqProofs only [go_sem, ↓reduceIte, Tryz.f118]
  refine ⟨_, _, bX _ _, s2, t2, c2, rfl, by rw [aF], jX, by omega, b2, ?_⟩
  rw [a2C h3 hk]
  refine a3.fQ ?_
  rw [if_neg hz]
  exact b3
theorem bEN {p : aI} (hp : p.ok) {sz n : Nat} (hsz : 1 ≤ sz ∧ sz ≤ 1048576) (hv : tK p sz n) (h : aB) (nb st : Nat) (e : aA) (env : List (List Int)) (funcs : Int) (hb : h nb = some (eQ p sz st 0)) (hst : st < 3000) (hn : 3001 ≤ n + 1 + st)
  (hok : e.ok p funcs env.length) (fH : 0 ≤ funcs) (hf : funcs ≤ p.aH.length) (henv : ∀ s ∈ env, fK sz s) (hel : env.length ≤ 412 + st) (hk : e.a6 = 9) :
  fO Tryz.prog 118 [.op nb 4 0 0, .ip 5 [e.c] 0 0, mR env] h (RnQ h nb p sz st 0 (mY p sz (n + 1) st e env)) := by
 have hb' := hb
 unfold eQ at hb'
 have e3 : ((st : Int) = 3000) = False := eq_false (by omega)
 have ew : IntKind.i64.wrap ((st : Int) + 1) = ((st + 1 : Nat) : Int) := by rw [IntWalk.i64_in _ (by omega)]; rfl
 have hnode := (aA.eP _ _ _ _).1 hok
 have h3 : ¬ st = 3000 := by omega
 have hlen := fE hok (by omega)
 rw [hk, show gK 9 = 2 from rfl] at hlen
 have g0 : e.aM[Int.toNat 0]? = some (e.pV 0) := aA.iX (by omega)
 have g1 : e.aM[Int.toNat 1]? = some (e.pV 1) := aA.iX (by omega)
 have o0 := aA.gX hok (i := 0) (by omega)
 have o1 := aA.gX hok (i := 1) (by omega)
 rw [kP (by omega)] at o0
 rw [hk, show mP 9 1 (env.length : Int) = env.length + 1 from rfl] at o1
 rw [aA.aN]
 refine kO 186 p2 zI zJ mix Tryz.func118 rfl (by kernel_rfl) (by simp) ?_
 simp -dsimp -implicitDefEqProofs only [go_sem, ↓reduceIte, Tryz.f118, hb', e3, ew, hk, g0, g1]
 refine ⟨by omega, ?_⟩
 refine aJ.iF (hv.at g0 (bK h nb (eQ p sz (st + 1) 0)) nb (st + 1) 0 env funcs (aU _ _ _) (by omega) (by omega) o0 fH hf henv (by omega)) ?_
 rintro r h' ⟨s1, t1, c1, rfl, rfl, kD, a1, a2, a3⟩
 simp -dsimp -implicitDefEqProofs only [go_sem, ↓reduceIte, Tryz.f118, g0, g1]
 refine ⟨by omega, ?_⟩
 first | refine aJ.mk (aO3 env s1 (by omega)) ?_ | refine aL.mk (aO3 env s1 (by omega)) ?_ | refine aJ.dF (aO3 env s1 (by omega)) ?_ | refine aL.mk (cZ.gC (aO3 env s1 (by omega))) ?_
 simp -dsimp -implicitDefEqProofs only [go_sem, ↓reduceIte, Tryz.f118]
 rw [aF]
 refine aJ.iF (hv.at g1 (bK h nb (eQ p sz t1 c1)) nb t1 c1 (env ++ [s1]) funcs (aU _ _ _) (by omega) (by omega) (by rw [List.length_append]; exact o1) fH hf (yT henv kD) (by rw [List.length_append]; show env.length + 1 ≤ _; omega)) ?_
 rintro r h' ⟨s2, t2, c2, rfl, rfl, jX, b1, b2, b3⟩
 simp -dsimp -implicitDefEqProofs only [go_sem, ↓reduceIte, Tryz.f118]
 refine ⟨_, bK h nb (eQ p sz t2 c2), eA (by rw [aF]; exact aB.le_refl _), s2, t2, c2, rfl, rfl, jX, by omega, b2, ?_⟩
 rw [a96 h3 hk]
 exact a3.fQ b3
theorem a66 {p : aI} (hp : p.ok) {sz n : Nat} (hsz : 1 ≤ sz ∧ sz ≤ 1048576) (hv : tK p sz n) (h : aB) (nb st : Nat) (e : aA) (env : List (List Int)) (funcs : Int) (hb : h nb = some (eQ p sz st 0)) (hst : st < 3000) (hn : 3001 ≤ n + 1 + st)
  (hok : e.ok p funcs env.length) (fH : 0 ≤ funcs) (hf : funcs ≤ p.aH.length) (henv : ∀ s ∈ env, fK sz s) (hel : env.length ≤ 412 + st) (hk : e.a6 = 10) :
  fO Tryz.prog 118 [.op nb 4 0 0, .ip 5 [e.c] 0 0, mR env] h (RnQ h nb p sz st 0 (mY p sz (n + 1) st e env)) := by
 have hb' := hb
 unfold eQ at hb'
 have e3 : ((st : Int) = 3000) = False := eq_false (by omega)
 have ew : IntKind.i64.wrap ((st : Int) + 1) = ((st + 1 : Nat) : Int) := by rw [IntWalk.i64_in _ (by omega)]; rfl
 have hnode := (aA.eP _ _ _ _).1 hok
 have h3 : ¬ st = 3000 := by omega
 have hcl := a64 hp hv (bK h nb (eQ p sz (st + 1) 0)) nb (st + 1) e env funcs (aU _ _ _) (by omega) (by omega) hok fH hf henv (by omega) hk
 rw [aA.aN, hk] at hcl
 rw [aA.aN]
 refine kO 186 p2 zI zJ mix Tryz.func118 rfl (by kernel_rfl) (by simp) ?_
 simp -dsimp -implicitDefEqProofs only [go_sem, ↓reduceIte, Tryz.f118, hb', e3, ew, hk]
 refine aJ.iF hcl ?_
 rintro r h' ⟨s2, t2, c2, rfl, rfl, jX, b1, b2, b3⟩
 simp -dsimp -implicitDefEqProofs only [go_sem, ↓reduceIte, Tryz.f118]
 refine ⟨_, bK h nb (eQ p sz t2 c2), eA (by rw [aF]; exact aB.le_refl _), s2, t2, c2, rfl, rfl, jX, by omega, b2, ?_⟩
 rw [a2D h3 hk]
 exact b3
theorem a67 {p : aI} (hp : p.ok) {sz n : Nat} (hsz : 1 ≤ sz ∧ sz ≤ 1048576) (hv : tK p sz n) (h : aB) (nb st : Nat) (e : aA) (env : List (List Int)) (funcs : Int) (hb : h nb = some (eQ p sz st 0)) (hst : st < 3000) (hn : 3001 ≤ n + 1 + st)
  (hok : e.ok p funcs env.length) (fH : 0 ≤ funcs) (hf : funcs ≤ p.aH.length) (henv : ∀ s ∈ env, fK sz s) (hel : env.length ≤ 412 + st) (hk : e.a6 = 11) :
  fO Tryz.prog 118 [.op nb 4 0 0, .ip 5 [e.c] 0 0, mR env] h (RnQ h nb p sz st 0 (mY p sz (n + 1) st e env)) := by
 have hb' := hb
 unfold eQ at hb'
 have e3 : ((st : Int) = 3000) = False := eq_false (by omega)
 have ew : IntKind.i64.wrap ((st : Int) + 1) = ((st + 1 : Nat) : Int) := by rw [IntWalk.i64_in _ (by omega)]; rfl
 have hnode := (aA.eP _ _ _ _).1 hok
 have h3 : ¬ st = 3000 := by omega
 have hcl := a65 hp hv (bK h nb (eQ p sz (st + 1) 0)) nb (st + 1) e env funcs (aU _ _ _) (by omega) (by omega) hok fH hf henv (by omega) hk
 rw [aA.aN, hk] at hcl
 rw [aA.aN]
 refine kO 186 p2 zI zJ mix Tryz.func118 rfl (by kernel_rfl) (by simp) ?_
 simp -dsimp -implicitDefEqProofs only [go_sem, ↓reduceIte, Tryz.f118, hb', e3, ew, hk]
 refine aJ.iF hcl ?_
 rintro r h' ⟨s2, t2, c2, rfl, rfl, jX, b1, b2, b3⟩
 simp -dsimp -implicitDefEqProofs only [go_sem, ↓reduceIte, Tryz.f118]
 refine ⟨_, bK h nb (eQ p sz t2 c2), eA (by rw [aF]; exact aB.le_refl _), s2, t2, c2, rfl, rfl, jX, by omega, b2, ?_⟩
 rw [a2E h3 hk]
 exact b3
set_option maxRecDepth 100000
open Go.Proofs
set_option linter.unusedVariables false
set_option linter.unusedSimpArgs false
theorem a2I {e : aA} (h : e.aM.length = 1) : e.aM = [e.pV 0] := by
 have h0 := aA.vC (e := e) (i := 0) (by omega)
 rw [h0]
 apply List.ext_getElem (by simp [h])
 intro i hi vK
 match i, vK with
 |0, _ => rfl
theorem a2J {e : aA} (h : e.aM.length = 2) : e.aM = [e.pV 0, e.pV 1] := by
 have h0 := aA.vC (e := e) (i := 0) (by omega)
 have h1 := aA.vC (e := e) (i := 1) (by omega)
 rw [h0, h1]
 apply List.ext_getElem (by simp [h])
 intro i hi vK
 match i, vK with
 |0, _ => rfl
 |1, _ => rfl
theorem bEO {p : aI} {sz n st : Nat} {e : aA} {env : List (List Int)} (h3 : ¬ st = 3000) (hk : e.a6 = 7) (hl : e.aM.length = 1) : mY p sz (n + 1) st e env = (mY p sz n (st + 1) (e.pV 0) env).andThen fun v t => .ok (wP v 1000002, t) := by
 rw [aUR h3 (by omega), a2I hl, hk]
 simp only [sG, Out.lO, Out.andThen_ok, opE]
 rfl
theorem aBE {p : aI} {sz n st : Nat} {e : aA} {env : List (List Int)} (h3 : ¬ st = 3000) (hk : e.a6 = 3 ∨ e.a6 = 4 ∨ e.a6 = 5 ∨ e.a6 = 6) (hl : e.aM.length = 2) : mY p sz (n + 1) st e env = (mY p sz n (st + 1) (e.pV 0) env).andThen fun a t => (mY p sz n t (e.pV 1) env).andThen fun b t => opE e.a6 [a, b] t := by
 rw [aUR h3 (by omega), a2J hl]
 simp only [sG, Out.lO, Out.andThen_ok]
theorem bEP {p : aI} (hp : p.ok) {sz n : Nat} (hsz : 1 ≤ sz ∧ sz ≤ 1048576) (hv : tK p sz n) (h : aB) (nb st : Nat) (e : aA) (env : List (List Int)) (funcs : Int) (hb : h nb = some (eQ p sz st 0)) (hst : st < 3000) (hn : 3001 ≤ n + 1 + st)
  (hok : e.ok p funcs env.length) (fH : 0 ≤ funcs) (hf : funcs ≤ p.aH.length) (henv : ∀ s ∈ env, fK sz s) (hel : env.length ≤ 412 + st) (hk : e.a6 = 7) :
  fO Tryz.prog 118 [.op nb 4 0 0, .ip 5 [e.c] 0 0, mR env] h (RnQ h nb p sz st 0 (mY p sz (n + 1) st e env)) := by
 have hb' := hb
 unfold eQ at hb'
 have e3 : ((st : Int) = 3000) = False := eq_false (by omega)
 have ew : IntKind.i64.wrap ((st : Int) + 1) = ((st + 1 : Nat) : Int) := by rw [IntWalk.i64_in _ (by omega)]; rfl
 have hnode := (aA.eP _ _ _ _).1 hok
 have h3 : ¬ st = 3000 := by omega
 have hlen := fE hok (by omega)
 rw [hk, show gK 7 = 1 from rfl] at hlen
 have g0 : e.aM[Int.toNat 0]? = some (e.pV 0) := aA.iX (by omega)
 have o0 := aA.gX hok (i := 0) (by omega)
 rw [kP (by omega)] at o0
 rw [aA.aN]
 refine kO 186 p2 zI zJ mix Tryz.func118 rfl (by kernel_rfl) (by simp) ?_
 simp -dsimp -implicitDefEqProofs only [go_sem, ↓reduceIte, Tryz.f118, hb', e3, ew, hk, g0]
 refine ⟨by omega, ?_⟩
 refine aJ.iF (hv.at g0 (bK h nb (eQ p sz (st + 1) 0)) nb (st + 1) 0 env funcs (aU _ _ _) (by omega) (by omega) o0 fH hf henv (by omega)) ?_
 rintro r h' ⟨s1, t1, c1, rfl, rfl, kD, a1, a2, a3⟩
 simp -dsimp -implicitDefEqProofs only [go_sem, ↓reduceIte, Tryz.f118]
 first | refine aJ.mk (tJ s1 1000002 (by unfold nZ; omega) (by rw [kD.1]; omega) kD.2) ?_ | refine aL.mk (tJ s1 1000002 (by unfold nZ; omega) (by rw [kD.1]; omega) kD.2) ?_ | refine aJ.dF (tJ s1 1000002 (by unfold nZ; omega) (by rw [kD.1]; omega) kD.2) ?_ | refine aL.mk (cZ.gC (tJ s1 1000002 (by unfold nZ; omega) (by rw [kD.1]; omega) kD.2)) ?_
 simp -dsimp -implicitDefEqProofs only [go_sem, ↓reduceIte, Tryz.f118]
 refine ⟨_, bK h nb (eQ p sz t1 c1), eA (by rw [aF]; exact aB.le_refl _), _, t1, c1, rfl, rfl, uJ _ kD, by omega, a2, ?_⟩
 rw [bEO h3 hk (by omega)]
 exact a3.fQ (jE _ _ _)
theorem bEQ {p : aI} (hp : p.ok) {sz n : Nat} (hsz : 1 ≤ sz ∧ sz ≤ 1048576) (hv : tK p sz n) (h : aB) (nb st : Nat) (e : aA) (env : List (List Int)) (funcs : Int) (hb : h nb = some (eQ p sz st 0)) (hst : st < 3000) (hn : 3001 ≤ n + 1 + st)
  (hok : e.ok p funcs env.length) (fH : 0 ≤ funcs) (hf : funcs ≤ p.aH.length) (henv : ∀ s ∈ env, fK sz s) (hel : env.length ≤ 412 + st) (hk : e.a6 = 3) :
  fO Tryz.prog 118 [.op nb 4 0 0, .ip 5 [e.c] 0 0, mR env] h (RnQ h nb p sz st 0 (mY p sz (n + 1) st e env)) := by
 have hb' := hb
 unfold eQ at hb'
 have e3 : ((st : Int) = 3000) = False := eq_false (by omega)
 have ew : IntKind.i64.wrap ((st : Int) + 1) = ((st + 1 : Nat) : Int) := by rw [IntWalk.i64_in _ (by omega)]; rfl
 have hnode := (aA.eP _ _ _ _).1 hok
 have h3 : ¬ st = 3000 := by omega
 have hlen := fE hok (by omega)
 rw [hk, show gK 3 = 2 from rfl] at hlen
 have g0 : e.aM[Int.toNat 0]? = some (e.pV 0) := aA.iX (by omega)
 have g1 : e.aM[Int.toNat 1]? = some (e.pV 1) := aA.iX (by omega)
 have o0 := aA.gX hok (i := 0) (by omega)
 have o1 := aA.gX hok (i := 1) (by omega)
 rw [kP (by omega)] at o0 o1
 rw [aA.aN]
 refine kO 186 p2 zI zJ mix Tryz.func118 rfl (by kernel_rfl) (by simp) ?_
 simp -dsimp -implicitDefEqProofs only [go_sem, ↓reduceIte, Tryz.f118, hb', e3, ew, hk, g0]
 refine ⟨by omega, ?_⟩
 refine aJ.iF (hv.at g0 (bK h nb (eQ p sz (st + 1) 0)) nb (st + 1) 0 env funcs (aU _ _ _) (by omega) (by omega) o0 fH hf henv (by omega)) ?_
 rintro r h' ⟨s1, t1, c1, rfl, rfl, kD, a1, a2, a3⟩
 simp -dsimp -implicitDefEqProofs only [go_sem, ↓reduceIte, Tryz.f118, g1]
 refine ⟨by omega, ?_⟩
 rw [aF]
 refine aJ.iF (hv.at g1 (bK h nb (eQ p sz t1 c1)) nb t1 c1 env funcs (aU _ _ _) (by omega) (by omega) o1 fH hf henv (by omega)) ?_
 rintro r h' ⟨s2, t2, c2, rfl, rfl, jX, b1, b2, b3⟩
 rw [aF]
 simp -dsimp -implicitDefEqProofs only [go_sem, ↓reduceIte, Tryz.f118, hk]
 first | refine aJ.mk (aAZ s1 s2 (by rw [kD.1, jX.1]) (by rw [kD.1]; omega) kD.2 jX.2) ?_ | refine aL.mk (aAZ s1 s2 (by rw [kD.1, jX.1]) (by rw [kD.1]; omega) kD.2 jX.2) ?_ | refine aJ.dF (aAZ s1 s2 (by rw [kD.1, jX.1]) (by rw [kD.1]; omega) kD.2 jX.2) ?_ | refine aL.mk (cZ.gC (aAZ s1 s2 (by rw [kD.1, jX.1]) (by rw [kD.1]; omega) kD.2 jX.2)) ?_
 simp -dsimp -implicitDefEqProofs only [go_sem, ↓reduceIte, Tryz.f118]
 refine ⟨_, bK h nb (eQ p sz t2 c2), eA (aB.le_refl _), _, t2, c2, rfl, rfl, aMN kD jX, by omega, b2, ?_⟩
 rw [aBE h3 (by omega) (by omega), hk]
 exact a3.fQ (b3.fQ (jE _ _ _))
theorem bER {p : aI} (hp : p.ok) {sz n : Nat} (hsz : 1 ≤ sz ∧ sz ≤ 1048576) (hv : tK p sz n) (h : aB) (nb st : Nat) (e : aA) (env : List (List Int)) (funcs : Int) (hb : h nb = some (eQ p sz st 0)) (hst : st < 3000) (hn : 3001 ≤ n + 1 + st)
  (hok : e.ok p funcs env.length) (fH : 0 ≤ funcs) (hf : funcs ≤ p.aH.length) (henv : ∀ s ∈ env, fK sz s) (hel : env.length ≤ 412 + st) (hk : e.a6 = 4) :
  fO Tryz.prog 118 [.op nb 4 0 0, .ip 5 [e.c] 0 0, mR env] h (RnQ h nb p sz st 0 (mY p sz (n + 1) st e env)) := by
 have hb' := hb
 unfold eQ at hb'
 have e3 : ((st : Int) = 3000) = False := eq_false (by omega)
 have ew : IntKind.i64.wrap ((st : Int) + 1) = ((st + 1 : Nat) : Int) := by rw [IntWalk.i64_in _ (by omega)]; rfl
 have hnode := (aA.eP _ _ _ _).1 hok
 have h3 : ¬ st = 3000 := by omega
 have hlen := fE hok (by omega)
 rw [hk, show gK 4 = 2 from rfl] at hlen
 have g0 : e.aM[Int.toNat 0]? = some (e.pV 0) := aA.iX (by omega)
 have g1 : e.aM[Int.toNat 1]? = some (e.pV 1) := aA.iX (by omega)
 have o0 := aA.gX hok (i := 0) (by omega)
 have o1 := aA.gX hok (i := 1) (by omega)
 rw [kP (by omega)] at o0 o1
 rw [aA.aN]
 refine kO 186 p2 zI zJ mix Tryz.func118 rfl (by kernel_rfl) (by simp) ?_
 simp -dsimp -implicitDefEqProofs only [go_sem, ↓reduceIte, Tryz.f118, hb', e3, ew, hk, g0]
 refine ⟨by omega, ?_⟩
 refine aJ.iF (hv.at g0 (bK h nb (eQ p sz (st + 1) 0)) nb (st + 1) 0 env funcs (aU _ _ _) (by omega) (by omega) o0 fH hf henv (by omega)) ?_
 rintro r h' ⟨s1, t1, c1, rfl, rfl, kD, a1, a2, a3⟩
 simp -dsimp -implicitDefEqProofs only [go_sem, ↓reduceIte, Tryz.f118, g1]
 refine ⟨by omega, ?_⟩
 rw [aF]
 refine aJ.iF (hv.at g1 (bK h nb (eQ p sz t1 c1)) nb t1 c1 env funcs (aU _ _ _) (by omega) (by omega) o1 fH hf henv (by omega)) ?_
 rintro r h' ⟨s2, t2, c2, rfl, rfl, jX, b1, b2, b3⟩
 rw [aF]
 simp -dsimp -implicitDefEqProofs only [go_sem, ↓reduceIte, Tryz.f118, hk]
 first | refine aJ.mk (aO1 s1 s2 (by rw [kD.1, jX.1]) (by rw [kD.1]; omega) kD.2 jX.2) ?_ | refine aL.mk (aO1 s1 s2 (by rw [kD.1, jX.1]) (by rw [kD.1]; omega) kD.2 jX.2) ?_ | refine aJ.dF (aO1 s1 s2 (by rw [kD.1, jX.1]) (by rw [kD.1]; omega) kD.2 jX.2) ?_ | refine aL.mk (cZ.gC (aO1 s1 s2 (by rw [kD.1, jX.1]) (by rw [kD.1]; omega) kD.2 jX.2)) ?_
 simp -dsimp -implicitDefEqProofs only [go_sem, ↓reduceIte, Tryz.f118]
 refine ⟨_, bK h nb (eQ p sz t2 c2), eA (aB.le_refl _), _, t2, c2, rfl, rfl, aY0 kD jX, by omega, b2, ?_⟩
 rw [aBE h3 (by omega) (by omega), hk]
 exact a3.fQ (b3.fQ (jE _ _ _))
theorem bES {p : aI} (hp : p.ok) {sz n : Nat} (hsz : 1 ≤ sz ∧ sz ≤ 1048576) (hv : tK p sz n) (h : aB) (nb st : Nat) (e : aA) (env : List (List Int)) (funcs : Int) (hb : h nb = some (eQ p sz st 0)) (hst : st < 3000) (hn : 3001 ≤ n + 1 + st)
  (hok : e.ok p funcs env.length) (fH : 0 ≤ funcs) (hf : funcs ≤ p.aH.length) (henv : ∀ s ∈ env, fK sz s) (hel : env.length ≤ 412 + st) (hk : e.a6 = 5) :
  fO Tryz.prog 118 [.op nb 4 0 0, .ip 5 [e.c] 0 0, mR env] h (RnQ h nb p sz st 0 (mY p sz (n + 1) st e env)) := by
 have hb' := hb
 unfold eQ at hb'
 have e3 : ((st : Int) = 3000) = False := eq_false (by omega)
 have ew : IntKind.i64.wrap ((st : Int) + 1) = ((st + 1 : Nat) : Int) := by rw [IntWalk.i64_in _ (by omega)]; rfl
 have hnode := (aA.eP _ _ _ _).1 hok
 have h3 : ¬ st = 3000 := by omega
 have hlen := fE hok (by omega)
 rw [hk, show gK 5 = 2 from rfl] at hlen
 have g0 : e.aM[Int.toNat 0]? = some (e.pV 0) := aA.iX (by omega)
 have g1 : e.aM[Int.toNat 1]? = some (e.pV 1) := aA.iX (by omega)
 have o0 := aA.gX hok (i := 0) (by omega)
 have o1 := aA.gX hok (i := 1) (by omega)
 rw [kP (by omega)] at o0 o1
 rw [aA.aN]
 refine kO 186 p2 zI zJ mix Tryz.func118 rfl (by kernel_rfl) (by simp) ?_
 simp -dsimp -implicitDefEqProofs only [go_sem, ↓reduceIte, Tryz.f118, hb', e3, ew, hk, g0]
 refine ⟨by omega, ?_⟩
 refine aJ.iF (hv.at g0 (bK h nb (eQ p sz (st + 1) 0)) nb (st + 1) 0 env funcs (aU _ _ _) (by omega) (by omega) o0 fH hf henv (by omega)) ?_
 rintro r h' ⟨s1, t1, c1, rfl, rfl, kD, a1, a2, a3⟩
 simp -dsimp -implicitDefEqProofs only [go_sem, ↓reduceIte, Tryz.f118, g1]
 refine ⟨by omega, ?_⟩
 rw [aF]
 refine aJ.iF (hv.at g1 (bK h nb (eQ p sz t1 c1)) nb t1 c1 env funcs (aU _ _ _) (by omega) (by omega) o1 fH hf henv (by omega)) ?_
 rintro r h' ⟨s2, t2, c2, rfl, rfl, jX, b1, b2, b3⟩
 rw [aF]
 simp -dsimp -implicitDefEqProofs only [go_sem, ↓reduceIte, Tryz.f118, hk]
 first | refine aJ.mk (aO2 s1 s2 (by rw [kD.1, jX.1]) (by rw [kD.1]; omega) kD.2 jX.2) ?_ | refine aL.mk (aO2 s1 s2 (by rw [kD.1, jX.1]) (by rw [kD.1]; omega) kD.2 jX.2) ?_ | refine aJ.dF (aO2 s1 s2 (by rw [kD.1, jX.1]) (by rw [kD.1]; omega) kD.2 jX.2) ?_ | refine aL.mk (cZ.gC (aO2 s1 s2 (by rw [kD.1, jX.1]) (by rw [kD.1]; omega) kD.2 jX.2)) ?_
 simp -dsimp -implicitDefEqProofs only [go_sem, ↓reduceIte, Tryz.f118]
 refine ⟨_, bK h nb (eQ p sz t2 c2), eA (aB.le_refl _), _, t2, c2, rfl, rfl, aY1 _ kD, by omega, b2, ?_⟩
 rw [aBE h3 (by omega) (by omega), hk]
 exact a3.fQ (b3.fQ (jE _ _ _))
theorem bET {p : aI} (hp : p.ok) {sz n : Nat} (hsz : 1 ≤ sz ∧ sz ≤ 1048576) (hv : tK p sz n) (h : aB) (nb st : Nat) (e : aA) (env : List (List Int)) (funcs : Int) (hb : h nb = some (eQ p sz st 0)) (hst : st < 3000) (hn : 3001 ≤ n + 1 + st)
  (hok : e.ok p funcs env.length) (fH : 0 ≤ funcs) (hf : funcs ≤ p.aH.length) (henv : ∀ s ∈ env, fK sz s) (hel : env.length ≤ 412 + st) (hk : e.a6 = 6) :
  fO Tryz.prog 118 [.op nb 4 0 0, .ip 5 [e.c] 0 0, mR env] h (RnQ h nb p sz st 0 (mY p sz (n + 1) st e env)) := by
 have hb' := hb
 unfold eQ at hb'
 have e3 : ((st : Int) = 3000) = False := eq_false (by omega)
 have ew : IntKind.i64.wrap ((st : Int) + 1) = ((st + 1 : Nat) : Int) := by rw [IntWalk.i64_in _ (by omega)]; rfl
 have hnode := (aA.eP _ _ _ _).1 hok
 have h3 : ¬ st = 3000 := by omega
 have hlen := fE hok (by omega)
 rw [hk, show gK 6 = 2 from rfl] at hlen
 have g0 : e.aM[Int.toNat 0]? = some (e.pV 0) := aA.iX (by omega)
 have g1 : e.aM[Int.toNat 1]? = some (e.pV 1) := aA.iX (by omega)
 have o0 := aA.gX hok (i := 0) (by omega)
 have o1 := aA.gX hok (i := 1) (by omega)
 rw [kP (by omega)] at o0 o1
 rw [aA.aN]
 refine kO 186 p2 zI zJ mix Tryz.func118 rfl (by kernel_rfl) (by simp) ?_
 simp -dsimp -implicitDefEqProofs only [go_sem, ↓reduceIte, Tryz.f118, hb', e3, ew, hk, g0]
 refine ⟨by omega, ?_⟩
 refine aJ.iF (hv.at g0 (bK h nb (eQ p sz (st + 1) 0)) nb (st + 1) 0 env funcs (aU _ _ _) (by omega) (by omega) o0 fH hf henv (by omega)) ?_
 rintro r h' ⟨s1, t1, c1, rfl, rfl, kD, a1, a2, a3⟩
 simp -dsimp -implicitDefEqProofs only [go_sem, ↓reduceIte, Tryz.f118, g1]
 refine ⟨by omega, ?_⟩
 rw [aF]
 refine aJ.iF (hv.at g1 (bK h nb (eQ p sz t1 c1)) nb t1 c1 env funcs (aU _ _ _) (by omega) (by omega) o1 fH hf henv (by omega)) ?_
 rintro r h' ⟨s2, t2, c2, rfl, rfl, jX, b1, b2, b3⟩
 rw [aF]
 have gs : s2[Int.toNat 0]? = some (s2.getD 0 0) := eZ (by rw [jX.1]; omega)
 simp -dsimp -implicitDefEqProofs only [go_sem, ↓reduceIte, Tryz.f118, hk, eQ, gs]
 refine ⟨fun hc => ?_, fun hc => ?_⟩
 ·subst hc
  refine ⟨by rw [jX.1]; omega, fun hz => ?_, fun hz => ?_⟩
  ·refine aJ.iF (aXJ (bK h nb (eQ p sz t2 0)) nb p sz t2 0 6 (aU _ _ _) hsz.2) ?_
   rintro r h' ⟨rfl, rfl⟩
   simp -dsimp -implicitDefEqProofs only [go_sem, ↓reduceIte, Tryz.f118]
   refine ⟨_, bK h nb (eQ p sz t2 6), eA (by rw [aF]; exact aB.le_refl _), _, t2, 6, rfl, rfl, tH aEX, by omega, b2, ?_⟩
   rw [aBE h3 (by omega) (by omega), hk]
   refine a3.fQ (b3.fQ ?_)
   have : opE 6 [s1, s2] t2 = .error 6 := by rw [opE, if_neg (by decide), if_neg (by decide), if_neg (by decide), if_neg (by decide)]; exact if_pos hz
   rw [fD, this]
   exact jB _ _ (by decide)
  ·refine aJ.mk (bEI s1 s2 (by rw [kD.1, jX.1]) (by rw [kD.1]; omega) (by rw [kD.1]; omega) kD.2 jX.2) ?_
   simp -dsimp -implicitDefEqProofs only [go_sem, ↓reduceIte, Tryz.f118]
   refine ⟨_, bK h nb (eQ p sz t2 0), eA (aB.le_refl _), _, t2, 0, rfl, rfl, aY2 _ kD, by omega, b2, ?_⟩
   rw [aBE h3 (by omega) (by omega), hk]
   refine a3.fQ (b3.fQ ?_)
   have : opE 6 [s1, s2] t2 = .ok (xA s1 s2, t2) := by rw [opE, if_neg (by decide), if_neg (by decide), if_neg (by decide), if_neg (by decide)]; exact if_neg hz
   rw [fD, this]
   exact uC _ _
 ·refine aJ.iF (aXJ (bK h nb (eQ p sz t2 c2)) nb p sz t2 c2 6 (aU _ _ _) hsz.2) ?_
  rintro r h' ⟨rfl, rfl⟩
  simp -dsimp -implicitDefEqProofs only [go_sem, ↓reduceIte, Tryz.f118]
  refine ⟨_, bK h nb (eQ p sz t2 c2), eA (by rw [aF, if_neg hc]; exact aB.le_refl _), _, t2, c2, rfl, rfl, tH aEX, by omega, b2, ?_⟩
  rw [aBE h3 (by omega) (by omega), hk]
  exact a3.fQ (b3.fQ (by rw [lU _ hc]; exact jB _ _ hc))
theorem run {p : aI} (hp : p.ok) {sz : Nat} (hsz : 1 ≤ sz ∧ sz ≤ 1048576) : ∀ n, tK p sz n
 |0 => fun h nb st c e env funcs hb hst hn => by omega
 |n + 1 => fun h nb st c e env funcs hb hst hn hok fH hf henv hel => by
  have hv := run hp hsz n
  by_cases hs : ¬ c = 0 ∨ st = 3000
  ·exact aY3 hsz h nb st c e env hb hst hs
  have hc : c = 0 := Classical.byContradiction fun q => hs (.inl q)
  have h3 : st < 3000 := by
   rcases Nat.lt_or_ge st 3000 with h | h
   ·exact h
   ·exact absurd (.inr (by omega)) hs
  subst hc
  rcases xC ((aA.eP _ _ _ _).1 hok).1 with hk | hk | hk | hk | hk | hk | hk | hk | hk | hk | hk
  ·exact bEK hp hsz hv h nb st e env funcs hb h3 hn hok fH hf henv hel hk
  ·exact bEL hp hsz hv h nb st e env funcs hb h3 hn hok fH hf henv hel hk
  ·exact bEQ hp hsz hv h nb st e env funcs hb h3 hn hok fH hf henv hel hk
  ·exact bER hp hsz hv h nb st e env funcs hb h3 hn hok fH hf henv hel hk
  ·exact bES hp hsz hv h nb st e env funcs hb h3 hn hok fH hf henv hel hk
  ·exact bET hp hsz hv h nb st e env funcs hb h3 hn hok fH hf henv hel hk
  ·exact bEP hp hsz hv h nb st e env funcs hb h3 hn hok fH hf henv hel hk
  ·exact bEM hp hsz hv h nb st e env funcs hb h3 hn hok fH hf henv hel hk
  ·exact bEN hp hsz hv h nb st e env funcs hb h3 hn hok fH hf henv hel hk
  ·exact a66 hp hsz hv h nb st e env funcs hb h3 hn hok fH hf henv hel hk
  ·exact a67 hp hsz hv h nb st e env funcs hb h3 hn hok fH hf henv hel hk
open Go.Proofs
set_option linter.unusedVariables false
set_option linter.unusedSimpArgs false
theorem lP {h h' : aB} {n sz : Nat} {x r : aD} (es : List (List aD)) (h0 : h n = none) (hl : (bK h n (.row sz (es.map (List.map .v)))).le h') (hb : iK n sz es.length x = true) (hr : x.fZ n es = r) : Shift x h' r h := by
 subst hr
 refine (Shift.of (Sub.refl _) hl).trans ((Shift.fZ (aU _ _ _) (by rw [List.length_map]; exact hb)).trans ?_)
 rw [rC]
 exact eA ((bD h0).2 ((bD h0).2 (aB.le_refl h)))
theorem aJ.bLO {P : Program} {f : FuncId} {args args' : List aD} {h : aB} {K : aD → aB → Prop} {t : Tag K} {r : aD} {n sz : Nat} {es : List (List aD)} (a : e8 P f args' r) (hb : iC n sz es.length args = true) (he : nQ n es args = args') (k : K r (bK h n .gone)) :
  aJ P f args (bK h n (.row sz (es.map (List.map .v)))) K t := by
 refine aJ.a16 n (aU _ _ _) (by rw [List.length_map]; exact hb) ?_
 rw [aF, rC, he]
 exact e8.call a k
theorem aXL {h g : aB} {b : Nat} {A : List (List Cell)} {x y : aD} (hb : h b = some (.row 1 (A ++ [[.v x]]))) (s : Sub x y) (hg : g.le (bK h b (.row 1 (A ++ [[.v y]])))) : g.wk h :=
 aB.wk.trans (aB.jA hg) (aB.aF4 (m := b) (fun q hq => aC _ _ _ _ hq) hb (aU _ _ _) (gD.sub (.cons s .nil) A))
open Go.Proofs
set_option linter.unusedVariables false
set_option linter.unusedSimpArgs false
theorem n1 : Int.toNat 1 = 1 := rfl
theorem n2 : Int.toNat 2 = 2 := rfl
open Go.Proofs
set_option linter.unusedVariables false
set_option linter.unusedSimpArgs false
set_option maxRecDepth 100000
open Go.Proofs
set_option linter.unusedVariables false
set_option linter.unusedSimpArgs false
theorem a68 (n : Nat) (hn : n ≤ 1048576) (h : aB) : fO Tryz.prog 109 [.bC, I n] h fun r h' => (n = 0 ∧ r = .bC ∧ h' = h) ∨ (0 < n ∧ ∃ m, h m = none ∧ r = .os m 1 0 0 ∧ h' = bK h m (.row 1 [])) := by
 refine ⟨by kernel_rfl, fun E w vs R hL => ?_⟩
 have hvs : vs = [.slice none 0 0, .int .i64 n] := by
  match vs, hL with
  | [a, b], hL => rw [show a = .slice none 0 0 by cases hL.1; rfl, kR hL.2.1]
 subst hvs
 rcases Nat.eq_zero_or_pos n with rfl | h0
 ·refine (aO6 w).mono ?_
  rintro e w' ⟨rfl, rfl⟩
  exact ⟨.bC, h, E, .inl ⟨rfl, rfl, rfl⟩, .refl _ _ _, R, .bC⟩
 ·obtain ⟨i, u, hi, hu, hsz, hby, hd, hag, hz⟩ := rL ty2
  cases hiz : i.zero with
  |none => rw [hiz] at hz; simp at hz
  |some z =>
  have hb8 : i.bytes = 8 := hby.symm
  have kD : i.size = 1 := hsz.symm
  have hrz := fun ty => Lib.run_append_nil_zeros (P := Tryz.prog) w 25 3 ty 2 i z .i64 .i64 (by kernel_rfl) (by kernel_rfl) hi hiz n h0 (by omega) (by omega) (by rw [hb8]; omega)
  have hge := grownCap_ge w n 0 2
  have hmx := grownCap_le_maxLen w n 0 2 (by unfold maxLen; omega)
  have hzs : z.cells.size = 1 := by
   rw [hiz] at hz
   have := congrArg List.length hz
   simp at this
   exact this.symm
  have hcz : (Builtin.zeroCells z.cells n ++ Builtin.zeroCells z.cells (grownCap w n 0 2 - n)).size = grownCap w n 0 2 := by
   rw [Array.size_append, uR, uR, hzs]; omega
  refine (aO5 n _ w _ h0 hn hge hmx hrz).mono ?_
  rintro e w' ⟨rfl, rfl⟩
  generalize Builtin.zeroCells z.cells n ++ Builtin.zeroCells z.cells (grownCap w n 0 2 - n) = cs at hcz ⊢
  obtain ⟨m, hm⟩ := R.fresh
  have hal := R.aL1 hm 1 [] (by simp) cs 2 w.drew.drawn (fun _ _ => undef) (by simp) (by simp [jH])
  have hev := Ev.alloc R hm (.cells cs 2 (0, 0)) (.row 1 []) w.drew.drawn
  refine ⟨.os m 1 0 0, bK h m (.row 1 []), E.add m w.heap.size, .inr ⟨h0, m, R.none hm, rfl, rfl⟩, hev, hal, ?_⟩
  refine fL.os m 1 0 0 w.heap.size 0 (grownCap w n 0 2) 2 cs.size (by simp [Env.add]) (by simp [Env.add]) (Nat.zero_le _) hmx ?_ (by rw [hcz]; omega)
  exact lL (f := (0, 0)) (vO w (.cells cs 2 (0, 0)) w.drew.drawn)
def aA0 (a b : List Int) : Nat → List Int
 |0 => []
 |1 => a
 | _ => a ++ b
@[go_sem] def aO7 : List Nat := [0, 2, 3, 5, 6, 8, 9, 10, 11, 12, 20, 25, 26, 27, 28]
@[go_sem] def a69 : List Nat := []
@[go_sem] def a7A : Marks := fun _ => ([], .nil, [])
theorem a7B (a b : List Int) (ha : a.length ≤ 1000) (hb : b.length ≤ 1000) : e8 Tryz.prog 93 [.sl 1 [[ints a], [ints b]] true] (ints (a ++ b)) := by
 refine tB 36 aO7 a69 a7A mix Tryz.func93 rfl (by kernel_rfl) (by simp) fun h => ?_
 simp -dsimp -implicitDefEqProofs only [go_sem, ↓reduceIte, Tryz.f93]
 refine tF (keep := aO7) (ib := a69) (mk := a7A) mix (by kernel_rfl) (fun k : Nat => [(0, .sl 1 [[ints a], [ints b]] true), (3, I (aA0 a b k).length), (9, .sl 1 [[ints a], [ints b]] true), (10, I 2), (11, I k)]) (fun k => k ≤ 2) (fun k => 2 - k) 0 ⟨by simp [dA, cH, aA0], by omega⟩ ?_
 intro k hk
 have hk3 : k = 0 ∨ k = 1 ∨ k = 2 := by omega
 rcases hk3 with rfl | rfl | rfl
 ·simp -dsimp -implicitDefEqProofs only [go_sem, ↓reduceIte, Tryz.f93]
  have e0 : (aA0 a b 0).length = 0 := rfl
  have e1 : aA0 a b 1 = a := rfl
  refine ⟨fun _ => ⟨by decide, fun _ => ?_⟩, fun q => absurd (by decide) q⟩
  rw [IntWalk.i64_in _ (by omega)]
  exact ⟨fun q => absurd q (by omega), fun _ => ⟨1, ⟨by rw [e1]; omega, by decide⟩, by omega, by omega⟩⟩
 ·simp -dsimp -implicitDefEqProofs only [go_sem, ↓reduceIte, Tryz.f93]
  have e1 : aA0 a b 1 = a := rfl
  have e2 : (aA0 a b 2).length = a.length + b.length := by simp [aA0]
  refine ⟨fun _ => ⟨by decide, fun _ => ?_⟩, fun q => absurd (by decide) q⟩
  rw [e1, IntWalk.i64_in _ (by omega)]
  exact ⟨fun q => absurd q (by omega), fun _ => ⟨2, ⟨by rw [e2]; omega, by decide⟩, by omega, by omega⟩⟩
 ·simp -dsimp -implicitDefEqProofs only [go_sem, ↓reduceIte, Tryz.f93]
  have e2 : (aA0 a b 2).length = a.length + b.length := by simp [aA0]
  refine ⟨fun q => absurd q (by decide), fun _ => ?_⟩
  refine aJ.iF (a68 _ (by omega) h) ?_
  rintro r h' (⟨hz, rfl, rfl⟩ | ⟨hp, m, hm, rfl, rfl⟩)
  ·have ha0 : a = [] := List.length_eq_zero_iff.1 (by omega)
   have hb0 : b = [] := List.length_eq_zero_iff.1 (by omega)
   subst ha0
   subst hb0
   simp -dsimp -implicitDefEqProofs only [go_sem, ↓reduceIte, Tryz.f93]
   refine tF (keep := aO7) (ib := a69) (mk := a7A) mix (by kernel_rfl) (fun k : Nat => [(6, .bC), (25, .sl 1 [[ints []], [ints []]] true), (26, I 2), (27, I k)]) (fun k => k ≤ 2) (fun k => 2 - k) 0 ⟨by simp [dA, cH], by omega⟩ ?_
   intro k hk
   have hk3 : k = 0 ∨ k = 1 ∨ k = 2 := by omega
   rcases hk3 with rfl | rfl | rfl
   ·simp -dsimp -implicitDefEqProofs only [go_sem, ↓reduceIte, Tryz.f93]
    exact ⟨fun _ => ⟨by decide, Nat.zero_lt_one, 1, by decide, by omega, by omega⟩, fun q => absurd (by decide) q⟩
   ·simp -dsimp -implicitDefEqProofs only [go_sem, ↓reduceIte, Tryz.f93]
    exact ⟨fun _ => ⟨by decide, Nat.zero_lt_one, 2, by decide, by omega, by omega⟩, fun q => absurd (by decide) q⟩
   ·simp -dsimp -implicitDefEqProofs only [go_sem, ↓reduceIte, Tryz.f93]
    exact ⟨fun q => absurd q (by decide), fun _ => Shift.of (Sub.nil 1 false) (aB.le_refl _)⟩
  ·simp -dsimp -implicitDefEqProofs only [go_sem, ↓reduceIte, Tryz.f93]
   refine cS (keep := aO7) (ib := a69) (mk := a7A) mix (by kernel_rfl) (fun x : Nat × Nat => [(6, .os x.2 1 0 (aA0 a b x.1).length), (25, .sl 1 [[ints a], [ints b]] true), (26, I 2), (27, I x.1)]) (fun x => bK h x.2 (.row 1 (((aA0 a b x.1).map fun n => [I n]).map (List.map .v)))) (fun x => x.1 ≤ 2 ∧ h x.2 = none) (fun x => 2 - x.1) (0, m) ⟨by simp [dA, cH, aA0], aB.le_refl _, by simp only; omega, hm⟩ ?_
   rintro ⟨k, m⟩ ⟨hk, hm⟩
   simp only at hk hm ⊢
   have hk3 : k = 0 ∨ k = 1 ∨ k = 2 := by omega
   rcases hk3 with rfl | rfl | rfl
   ·simp -dsimp -implicitDefEqProofs only [go_sem, ↓reduceIte, Tryz.f93]
    have e0 : aA0 a b 0 = [] := rfl
    have e1 : aA0 a b 1 = a := rfl
    rw [e0, List.length_nil, Nat.zero_add]
    refine ⟨fun _ => ⟨by decide, Nat.zero_lt_one, Nat.le_refl _, by omega, by omega, fun c hc => ⟨(1, c), ⟨by rw [e1], by simp only; decide⟩, ?_, ⟨by simp only; omega, hc.2⟩, by simp only; omega⟩⟩, fun q => absurd (by decide) q⟩
    simp only [e1]
    exact qA hm
   ·simp -dsimp -implicitDefEqProofs only [go_sem, ↓reduceIte, Tryz.f93]
    have e1 : aA0 a b 1 = a := rfl
    have e2 : aA0 a b 2 = a ++ b := rfl
    rw [e1]
    refine ⟨fun _ => ⟨by decide, Nat.zero_lt_one, Nat.le_refl _, by omega, by omega, fun c hc => ⟨(2, c), ⟨by rw [e2, List.length_append], by simp only; decide⟩, ?_, ⟨by simp only; omega, hc.2⟩, by simp only; omega⟩⟩, fun q => absurd (by decide) q⟩
    simp only [e2]
    rw [List.take_of_length_le (by simp), List.map_append, List.map_append]
    exact qA hm
   ·simp -dsimp -implicitDefEqProofs only [go_sem, ↓reduceIte, Tryz.f93]
    have e2 : aA0 a b 2 = a ++ b := rfl
    rw [e2]
    exact ⟨fun q => absurd q (by decide), fun _ => kQ _ hm (aB.le_refl _) rfl⟩
open Go.Proofs
set_option linter.unusedVariables false
set_option linter.unusedSimpArgs false
theorem aGF {j : e7} (h : j.ok) : ∃ F, j.bN.aH[j.b8.toNat]? = some F ∧ (0 ≤ j.b8 ∧ j.b8 < j.bN.aH.length) ∧ (0 ≤ F.bE ∧ F.bE ≤ 12) ∧ j.okF F := by
 have hk : j.b8.toNat < j.bN.aH.length := by have := h.2.1; omega
 have e := List.getElem?_eq_getElem hk
 exact ⟨_, e, by have := h.2.1; omega, (h.1.2 _ _ e).2.1, h.2.2 _ e⟩
def dO (j : e7) (k : Nat) : List Int := j.cX ++ j.bO.getD k []
theorem aDF {j : e7} (h : j.ok) {k : Nat} (hk : k < j.bO.length) : (j.bO[k]? = some (j.bO.getD k [])) ∧ pB (dO j k) ∧ (∀ F, j.bN.aH[j.b8.toNat]? = some F → ((dO j k).length : Int) = F.bE) ∧ (dO j k).length ≤ 12 ∧ j.cX.length ≤ 12 ∧ (j.bO.getD k []).length ≤ 12 ∧ 0 ≤ j.aX ∧ j.aX.toNat ≤ (dO j k).length := by
 obtain ⟨F, eF, hf, hF, ok⟩ := aGF h
 obtain ⟨o1, o2, o3, o4⟩ := ok
 have hg : j.bO.getD k [] = j.bO[k] := by rw [List.getD_eq_getElem?_getD, List.getElem?_eq_getElem hk]; rfl
 have ht := o4 _ (List.getElem_mem hk)
 have hlen : ((dO j k).length : Int) = F.bE := by
  rw [dO, hg, List.length_append]
  have := ht.1
  have := o2.1
  omega
 refine ⟨by rw [hg]; exact List.getElem?_eq_getElem hk, fun x hx => ?_, fun G hG => ?_, by omega, by have := o2.1; omega, by rw [hg]; have := ht.1; omega, o1.1, by omega⟩
 ·rw [dO, hg] at hx
  rcases List.mem_append.1 hx with hx | hx
  ·exact o2.2 x hx
  ·exact ht.2 x hx
 ·rw [eF] at hG
  cases hG
  exact hlen
@[go_sem] def bEU : List Nat := [0, 1, 2, 4]
@[go_sem] def bSB : List Nat := [2, 12]
@[go_sem] def bSC : Marks := fun id => match id with | 1 => ([], (.op 0 (.op 1 (.op 2 (.op 3 (.op 4 (.op 5 (.op 6 (.op 7 (.op 8 (.op 9 .nil)))))))))), []) | _ => ([], .nil, [])
theorem bLQ {j : e7} (h : j.ok) {k : Nat} (hk : k < j.bO.length) : e8 Tryz.prog 66 [.agg j.c, I k] (ints (dO j k)) := by
 obtain ⟨t1, t2, t3, t4, t5, t6, t7, t8⟩ := aDF h hk
 have hc := a7B j.cX (j.bO.getD k []) (by omega) (by omega)
 simp only [e7.aN]
 refine eI 14 bEU bSB bSC mix Tryz.func66 rfl (by kernel_rfl) (by simp) fun h => ?_
 simp -dsimp -implicitDefEqProofs only [go_sem, ↓reduceIte, Tryz.f66, t1]
 refine ⟨by omega, Nat.zero_lt_one, rfl, ?_⟩
 refine aL.mk hc ?_
 simp -dsimp -implicitDefEqProofs only [go_sem, ↓reduceIte, Tryz.f66]
 rfl
open Go.Proofs
set_option linter.unusedVariables false
set_option linter.unusedSimpArgs false
structure cC where
 sC : Int
 fA : Int
 fB : Int
 bQ : Int
def cC.c (x : cC) : List aD := [I x.sC, I x.fA, I x.fB, I x.bQ]
theorem cC.aN (x : cC) : x.c = [I x.sC, I x.fA, I x.fB, I x.bQ] := rfl
structure eS where
 aHR : Int
 bAL : Bool
def eS.c (x : eS) : List aD := [I x.aHR, .bool x.bAL]
theorem eS.aN (x : eS) : x.c = [I x.aHR, .bool x.bAL] := rfl
structure dV where
 code : List cC
 fS : List Int
 guards : List eS
def dV.val (S : dV) (k : Int) : Int := S.fS.getD k.toNat 0
def dV.put (S : dV) (c : cC) (v : Int) : dV := ⟨S.code ++ [c], S.fS ++ [v], S.guards⟩
def dV.guard (S : dV) (g : eS) : dV := ⟨S.code, S.fS, S.guards ++ [g]⟩
def mE (ev : Nat → aA → dV → Out (Int × dV)) : List aA → Nat → dV → Out (List Int × dV)
 | [], t, S => .ok (([], S), t)
 |e :: l, t, S => (ev t e S).andThen fun r t => (mE ev l t r.2).andThen fun q t => .ok ((r.1 :: q.1, q.2), t)
def r7 (f : List Int → Nat → dV → Out (List Int × dV)) : Nat → List Int → Nat → dV → Out (List Int × dV)
 |0, vs, t, S => .ok ((vs, S), t)
 |n + 1, vs, t, S => (f vs t S).andThen fun r t => r7 f n r.1 t r.2
def opV (k a b : Int) : Option Int :=
 if k = 3 then some ((a + b) % 1000003) else if k = 4 then some ((a - b) % 1000003) else if k = 5 then some (a * b % 1000003) else if k = 7 then some ((0 - a) % 1000003)
 else if b = 0 then none else some (a * sF b % 1000003)
def opB (k : Int) (vs : List Int) : Int := if k = 7 then 0 else vs.getD 1 0
def opR (k : Int) (vs : List Int) (S : dV) (t : Nat) : Out (Int × dV) := match opV k (S.val (vs.getD 0 0)) (S.val (opB k vs)) with
 |none => .error 6
 |some v => .ok (((S.fS.length : Int), S.put ⟨k, vs.getD 0 0, opB k vs, 0⟩ v), t)
def eT (p : aI) : Nat → Nat → aA → List Int → dV → Out (Int × dV)
 |0, _, _, _, _ => .error 7
 |n + 1, t, e, env, S =>
  if t = 3000 then .error 7
  else if e.a6 = 1 then .ok (((S.fS.length : Int), S.put ⟨2, 0, 0, e.bQ⟩ e.bQ), t + 1)
  else if e.a6 = 2 then .ok ((env.getD e.bQ.toNat 0, S), t + 1)
  else if e.a6 = 8 then (eT p n (t + 1) (e.pV 0) env S).andThen fun r t =>
   if r.2.val r.1 = 0 then eT p n t (e.pV 1) env (r.2.guard ⟨r.1, true⟩) else eT p n t (e.pV 2) env (r.2.guard ⟨r.1, false⟩)
  else if e.a6 = 9 then (eT p n (t + 1) (e.pV 0) env S).andThen fun r t => eT p n t (e.pV 1) (env ++ [r.1]) r.2
  else (mE (fun t e S => eT p n t e env S) e.aM (t + 1) S).andThen fun r t =>
   if e.a6 = 10 then eT p n t (p.out e.bQ e.c9) r.1 r.2
   else if e.a6 = 11 then (r7 (fun vs t S => mE (fun t e S => eT p n t e vs S) (p.outs e.bQ) t S) e.cU.toNat r.1 t r.2).andThen fun r t => .ok ((r.1.getD e.c9.toNat 0, r.2), t)
   else opR e.a6 r.1 r.2 t
theorem aGG (ev : Nat → aA → dV → Out (Int × dV)) (e : aA) : ∀ (l : List aA) (t : Nat) (S : dV), mE ev (l ++ [e]) t S = (mE ev l t S).andThen fun q t => (ev t e q.2).andThen fun r t => .ok ((q.1 ++ [r.1], r.2), t)
 | [], t, S => rfl
 |x :: l, t, S => by
  simp only [List.cons_append, mE, aGG ev e l, Out.lO, Out.andThen_ok]
theorem yU (f : List Int → Nat → dV → Out (List Int × dV)) : ∀ (n : Nat) (vs : List Int) (t : Nat) (S : dV), r7 f (n + 1) vs t S = (r7 f n vs t S).andThen fun r t => f r.1 t r.2
 |0, vs, t, S => by
  show (f vs t S).andThen (fun r t => .ok ((r.1, r.2), t)) = f vs t S
  cases f vs t S with
  |ok p => rfl
  |error c => rfl
 |n + 1, vs, t, S => by
  rw [r7, show r7 f (n + 1) vs t S = (f vs t S).andThen fun r t => r7 f n r.1 t r.2 from rfl, Out.lO]
  congr 1
  funext r t
  exact yU f n r.1 t r.2
theorem aMP (f : List Int → Nat → dV → Out (List Int × dV)) {vs : List Int} {t : Nat} {S : dV} {c : Int} : ∀ (k : Nat) {n : Nat}, k ≤ n → r7 f k vs t S = .error c → r7 f n vs t S = .error c := by
 intro k n hkn h
 induction n with
 |zero => obtain rfl : k = 0 := by omega
          exact h
 |succ n ih =>
  rcases Nat.lt_or_ge k (n + 1) with h1 | h1
  ·rw [yU, ih (by omega)]; rfl
  ·obtain rfl : k = n + 1 := by omega
   exact h
def gL (inp : Int) (i : Nat) (c : cC) : Prop :=
 (c.sC = 1 ∧ c.fA = 0 ∧ c.fB = 0 ∧ 0 ≤ c.bQ ∧ c.bQ < inp) ∨ (c.sC = 2 ∧ c.fA = 0 ∧ c.fB = 0 ∧ nZ c.bQ) ∨ ((c.sC = 3 ∨ c.sC = 4 ∨ c.sC = 5 ∨ c.sC = 6) ∧ c.bQ = 0 ∧ 0 ≤ c.fA ∧ c.fA < i ∧ 0 ≤ c.fB ∧ c.fB < i) ∨ (c.sC = 7 ∧ c.bQ = 0 ∧ c.fB = 0 ∧ 0 ≤ c.fA ∧ c.fA < i)
structure Good (inp : Int) (S : dV) (t : Nat) : Prop where
 len : S.code.length = S.fS.length
 a7C : pB S.fS
 ins : ∀ i c, S.code[i]? = some c → gL inp i c
 gds : ∀ g ∈ S.guards, 0 ≤ g.aHR ∧ g.aHR < S.fS.length
 cap : S.fS.length ≤ 12 + t
 rK : S.guards.length ≤ t
def dV.ext (S S' : dV) : Prop := S.code <+: S'.code ∧ S.fS <+: S'.fS ∧ S.guards <+: S'.guards
theorem dV.aA1 (S : dV) : S.ext S := ⟨List.prefix_refl _, List.prefix_refl _, List.prefix_refl _⟩
theorem dV.ext.trans {a b c : dV} (h : a.ext b) (k : b.ext c) : a.ext c := ⟨h.1.trans k.1, h.2.1.trans k.2.1, h.2.2.trans k.2.2⟩
theorem dV.aXM (S : dV) (c : cC) (v : Int) : S.ext (S.put c v) := ⟨List.prefix_append _ _, List.prefix_append _ _, List.prefix_refl _⟩
theorem dV.nK (S : dV) (g : eS) : S.ext (S.guard g) := ⟨List.prefix_refl _, List.prefix_refl _, List.prefix_append _ _⟩
theorem dV.ext.val {S S' : dV} (h : S.ext S') {k : Int} (h0 : 0 ≤ k) (hk : k < S.fS.length) : S'.val k = S.val k := by
 obtain ⟨x, hx⟩ := h.2.1
 rw [dV.val, dV.val, ← hx, List.getD_eq_getElem?_getD, List.getD_eq_getElem?_getD, List.getElem?_append_left (by omega)]
theorem dV.ext.len {S S' : dV} (h : S.ext S') : S.fS.length ≤ S'.fS.length := h.2.1.length_le
def oV (S : dV) (k : Int) : Prop := 0 ≤ k ∧ k < S.fS.length
theorem oV.ext {S S' : dV} {k : Int} (h : oV S k) (e : S.ext S') : oV S' k := ⟨h.1, by have := h.2; have := e.len; omega⟩
theorem Good.nH {inp : Int} {S : dV} {t u : Nat} (h : Good inp S t) (hu : t ≤ u) : Good inp S u := ⟨h.len, h.a7C, h.ins, h.gds, by have := h.cap; omega, by have := h.rK; omega⟩
theorem Good.put {inp : Int} {S : dV} {t : Nat} {c : cC} {v : Int} (h : Good inp S t) (hc : gL inp S.fS.length c) (hv : nZ v) (hcap : S.fS.length < 12 + t) : Good inp (S.put c v) t := by
 refine ⟨by simp [dV.put, h.len], fun x hx => ?_, fun i d hd => ?_, fun g hg => ?_, by simp [dV.put]; omega, h.rK⟩
 ·rcases List.mem_append.1 hx with hx | hx
  ·exact h.a7C x hx
  ·rw [List.mem_singleton.1 hx]; exact hv
 ·rcases Nat.lt_or_ge i S.code.length with hi | hi
  ·rw [dV.put, List.getElem?_append_left hi] at hd; exact h.ins i d hd
  ·rw [dV.put, List.getElem?_append_right hi] at hd
   have hd2 := List.getElem?_eq_some_iff.1 hd
   obtain ⟨h1, h2⟩ := hd2
   have h3 : i = S.fS.length := by simp at h1; have := h.len; omega
   simp at h2
   subst h2; rw [h3]; exact hc
 ·have := h.gds g hg
  simp only [dV.put, List.length_append, List.length_singleton]; omega
theorem Good.guard {inp : Int} {S : dV} {t : Nat} {k : Int} {b : Bool} (h : Good inp S t) (hk : oV S k) (hcap : S.guards.length < t) : Good inp (S.guard ⟨k, b⟩) t := by
 refine ⟨h.len, h.a7C, h.ins, fun g hg => ?_, h.cap, by simp [dV.guard]; omega⟩
 rcases List.mem_append.1 hg with hg | hg
 ·exact h.gds g hg
 ·rw [List.mem_singleton.1 hg]; exact hk
theorem a7D {k a b v : Int} (h : opV k a b = some v) : nZ v := by
 unfold opV at h
 repeat' (split at h)
 all_goals first | (cases h; done) | (cases h; exact r6 _)
def yV {α : Type} (P : α → Nat → Prop) (X : Out α) : Prop := ∀ v u, X = .ok (v, u) → P v u
theorem yV.then {α β : Type} {P : α → Nat → Prop} {Q : β → Nat → Prop} {X : Out α} {F : α → Nat → Out β} (h : yV P X) (hf : ∀ v t, P v t → yV Q (F v t)) : yV Q (X.andThen F) := fun w u hw => by
 cases X with
 |ok p => obtain ⟨v, t⟩ := p; exact hf v t (h v t rfl) w u hw
 |error c => cases hw
theorem yV.pure {α : Type} {P : α → Nat → Prop} {v : α} {t : Nat} (h : P v t) : yV P (.ok (v, t)) := fun w u e => by cases e; exact h
theorem yV.err {α : Type} {P : α → Nat → Prop} {c : Int} : yV P (.error c : Out α) := fun w u e => by cases e
theorem yV.mono {α : Type} {P Q : α → Nat → Prop} {X : Out α} (h : yV P X) (hq : ∀ v u, P v u → Q v u) : yV Q X := fun v u e => hq v u (h v u e)
def pG (S : dV) (t : Nat) (S' : dV) (u : Nat) : Prop := S'.fS.length + t ≤ S.fS.length + u ∧ S'.guards.length + t ≤ S.guards.length + u ∧ t ≤ u ∧ u ≤ 3000
theorem pG.refl {S : dV} {t : Nat} (h : t ≤ 3000) : pG S t S t := ⟨Nat.le_refl _, Nat.le_refl _, Nat.le_refl _, h⟩
theorem pG.trans {A B C : dV} {t u v : Nat} (h : pG A t B u) (k : pG B u C v) : pG A t C v := by
 unfold pG at *; omega
def aUU (inp : Int) (S : dV) (t : Nat) (r : Int × dV) (u : Nat) : Prop := Good inp r.2 u ∧ S.ext r.2 ∧ oV r.2 r.1 ∧ pG S t r.2 u
def aEZ (inp : Int) (S : dV) (t n : Nat) (r : List Int × dV) (u : Nat) : Prop := Good inp r.2 u ∧ S.ext r.2 ∧ (r.1.length = n ∧ ∀ x ∈ r.1, oV r.2 x) ∧ pG S t r.2 u
theorem p3 {ev : Nat → aA → dV → Out (Int × dV)} {inp : Int} : ∀ (l : List aA) (t : Nat) (S : dV), Good inp S t → t ≤ 3000 → (∀ e ∈ l, ∀ u S', Good inp S' u → S.ext S' → pG S t S' u → yV (aUU inp S' u) (ev u e S')) → yV (aEZ inp S t l.length) (mE ev l t S)
 | [], t, S, hg, ht, _ => yV.pure ⟨hg, S.aA1, ⟨rfl, by simp⟩, .refl ht⟩
 |e :: l, t, S, hg, ht, h => (h e List.mem_cons_self t S hg S.aA1 (.refl ht)).then fun r u hr => by
  obtain ⟨r1, r2, r3, r4⟩ := hr
  refine (p3 l u r.2 r1 r4.2.2.2 fun x hx u' S' a b c => h x (List.mem_cons_of_mem _ hx) u' S' a (r2.trans b) (r4.trans c)).then fun q u' hq => ?_
  obtain ⟨q1, q2, ⟨q3, q4⟩, q5⟩ := hq
  refine yV.pure ⟨q1, r2.trans q2, ⟨by rw [List.length_cons, q3]; rfl, fun x hx => ?_⟩, r4.trans q5⟩
  rcases List.mem_cons.1 hx with rfl | hx
  ·exact r3.ext q2
  ·exact q4 x hx
theorem aA2 {f : List Int → Nat → dV → Out (List Int × dV)} {inp : Int} {m : Nat} (h : ∀ vs t S, Good inp S t → (vs.length = m ∧ ∀ x ∈ vs, oV S x) → t ≤ 3000 → yV (aEZ inp S t m) (f vs t S)) :
  ∀ (n : Nat) (vs : List Int) (t : Nat) (S : dV), Good inp S t → (vs.length = m ∧ ∀ x ∈ vs, oV S x) → t ≤ 3000 → yV (aEZ inp S t m) (r7 f n vs t S)
 |0, vs, t, S, hg, hv, ht => yV.pure ⟨hg, S.aA1, hv, .refl ht⟩
 |n + 1, vs, t, S, hg, hv, ht => (h vs t S hg hv ht).then fun r u hr => by
  obtain ⟨r1, r2, r3, r4⟩ := hr
  refine (aA2 h n r.1 u r.2 r1 r3 r4.2.2.2).mono fun q u' hq => ?_
  obtain ⟨q1, q2, q3, q4⟩ := hq
  exact ⟨q1, r2.trans q2, q3, r4.trans q4⟩
theorem bEV {inp k : Int} {vs : List Int} {S : dV} {t : Nat} {m : Nat} (hk : k = 3 ∨ k = 4 ∨ k = 5 ∨ k = 6 ∨ k = 7) (hm : vs.length = m ∧ ∀ x ∈ vs, oV S x) (hm1 : 1 ≤ m) (hm2 : ¬ k = 7 → 2 ≤ m) (hg : Good inp S (t + 1)) (hcap : S.fS.length < 12 + (t + 1)) (ht : t + 1 ≤ 3000) : yV (fun r u => Good inp r.2 u ∧ S.ext r.2 ∧ oV r.2 r.1 ∧ u = t + 1 ∧ r.2.fS.length = S.fS.length + 1 ∧ r.2.guards = S.guards) (opR k vs S (t + 1)) := by
 have at_ : ∀ i, i < m → oV S (vs.getD i 0) := fun i hi => by
  rw [List.getD_eq_getElem?_getD, List.getElem?_eq_getElem (by omega)]
  exact hm.2 _ (List.getElem_mem _)
 unfold opR
 split
 ·exact yV.err
 ·rename_i v hv
  have h0 := at_ 0 (by omega)
  refine yV.pure ⟨hg.put ?_ (a7D hv) hcap, S.aXM _ _, ⟨by simp, by simp [dV.put]; omega⟩, rfl, by simp [dV.put], rfl⟩
  unfold oV at h0
  by_cases h7 : k = 7
  ·subst h7
   exact .inr (.inr (.inr ⟨rfl, rfl, rfl, h0⟩))
  ·have h1 := at_ 1 (hm2 h7)
   unfold oV at h1
   have hb : opB k vs = vs.getD 1 0 := if_neg h7
   exact .inr (.inr (.inl ⟨by simp only; omega, rfl, h0.1, h0.2, by simp only [hb]; exact h1.1, by simp only [hb]; exact h1.2⟩))
theorem aO8 {p : aI} {n st : Nat} {e : aA} {env : List Int} {S : dV} (h3 : ¬ st = 3000) (hk : e.a6 = 1) : eT p (n + 1) st e env S = .ok (((S.fS.length : Int), S.put ⟨2, 0, 0, e.bQ⟩ e.bQ), st + 1) := by rw [eT, if_neg h3, if_pos hk]
theorem aO9 {p : aI} {n st : Nat} {e : aA} {env : List Int} {S : dV} (h3 : ¬ st = 3000) (hk : e.a6 = 2) : eT p (n + 1) st e env S = .ok ((env.getD e.bQ.toNat 0, S), st + 1) := by rw [eT, if_neg h3, if_neg (by omega), if_pos hk]
theorem aA3 {p : aI} {n st : Nat} {e : aA} {env : List Int} {S : dV} (h3 : ¬ st = 3000) (hk : e.a6 = 8) : eT p (n + 1) st e env S = (eT p n (st + 1) (e.pV 0) env S).andThen fun r t =>
   if r.2.val r.1 = 0 then eT p n t (e.pV 1) env (r.2.guard ⟨r.1, true⟩) else eT p n t (e.pV 2) env (r.2.guard ⟨r.1, false⟩) := by rw [eT, if_neg h3, if_neg (by omega), if_neg (by omega), if_pos hk]
theorem aPA {p : aI} {n st : Nat} {e : aA} {env : List Int} {S : dV} (h3 : ¬ st = 3000) (hk : e.a6 = 9) : eT p (n + 1) st e env S = (eT p n (st + 1) (e.pV 0) env S).andThen fun r t => eT p n t (e.pV 1) (env ++ [r.1]) r.2 := by rw [eT, if_neg h3, if_neg (by omega), if_neg (by omega), if_neg (by omega), if_pos hk]
theorem aBF {p : aI} {n st : Nat} {e : aA} {env : List Int} {S : dV} (h3 : ¬ st = 3000) (hk : e.a6 = 10) : eT p (n + 1) st e env S = (mE (fun t e S => eT p n t e env S) e.aM (st + 1) S).andThen fun r t => eT p n t (p.out e.bQ e.c9) r.1 r.2 := by
 rw [eT, if_neg h3, if_neg (by omega), if_neg (by omega), if_neg (by omega), if_neg (by omega)]; simp only [if_pos hk]
theorem aBG {p : aI} {n st : Nat} {e : aA} {env : List Int} {S : dV} (h3 : ¬ st = 3000) (hk : e.a6 = 11) : eT p (n + 1) st e env S = (mE (fun t e S => eT p n t e env S) e.aM (st + 1) S).andThen fun r t => (r7 (fun vs t S => mE (fun t e S => eT p n t e vs S) (p.outs e.bQ) t S) e.cU.toNat r.1 t r.2).andThen fun r t => .ok ((r.1.getD e.c9.toNat 0, r.2), t) := by
 have h : ¬ e.a6 = 10 := by omega
 rw [eT, if_neg h3, if_neg (by omega), if_neg (by omega), if_neg (by omega), if_neg (by omega)]; simp only [if_neg h, if_pos hk]
theorem lG {p : aI} {n st : Nat} {e : aA} {env : List Int} {S : dV} (h3 : ¬ st = 3000) (hk : e.a6 = 3 ∨ e.a6 = 4 ∨ e.a6 = 5 ∨ e.a6 = 6 ∨ e.a6 = 7) : eT p (n + 1) st e env S = (mE (fun t e S => eT p n t e env S) e.aM (st + 1) S).andThen fun r t => opR e.a6 r.1 r.2 t := by
 have h : ¬ e.a6 = 10 := by omega
 have h2 : ¬ e.a6 = 11 := by omega
 rw [eT, if_neg h3, if_neg (by omega), if_neg (by omega), if_neg (by omega), if_neg (by omega)]; simp only [if_neg h, if_neg h2]
theorem pG.step {S S' : dV} {t u : Nat} (h : pG S (t + 1) S' u) : pG S t S' u := by unfold pG at *; omega
theorem p4 {p : aI} (hp : p.ok) {inp : Int} : ∀ (n t : Nat) (e : aA) (env : List Int) (S : dV) (funcs : Int), e.ok p funcs env.length → funcs ≤ p.aH.length → Good inp S t → t ≤ 3000 → (∀ x ∈ env, oV S x) → yV (aUU inp S t) (eT p n t e env S)
 |0, t, e, env, S, funcs, _, _, _, _, _ => yV.err
 |n + 1, t, e, env, S, funcs, hok, hf, hg, ht, henv => by
  have ih := p4 hp (inp := inp) n
  have hnode := ((aA.eP _ _ _ _).1 hok).1
  by_cases h3 : t = 3000
  ·rw [eT, if_pos h3]; exact yV.err
  have l8 := hg.nH (Nat.le_succ t)
  have hcap := hg.cap
  have hgcap := hg.rK
  have henvE : ∀ {S'}, S.ext S' → ∀ x ∈ env, oV S' x := fun e x hx => (henv x hx).ext e
  rcases xC hnode with hk | hk | hk | hk | hk | hk | hk | hk | hk | hk | hk
  ·rw [aO8 h3 hk]
   have hn := ((fP (by omega)).1 hnode).2.2.2.1 hk
   exact yV.pure ⟨l8.put (.inr (.inl ⟨rfl, rfl, rfl, hn⟩)) hn (by omega), S.aXM _ _, ⟨by simp, by simp [dV.put]; omega⟩, by simp [pG, dV.put]; omega⟩
  ·rw [aO9 h3 hk]
   have hn := ((fP (by omega)).1 hnode).2.2.2.2.1 hk
   refine yV.pure ⟨l8, S.aA1, ?_, by simp [pG]; omega⟩
   simp only [List.getD_eq_getElem?_getD]
   rw [List.getElem?_eq_getElem (by omega)]
   exact henv _ (List.getElem_mem _)
  iterate 5
   ·have hlen := fE hok (by omega)
    rw [hk] at hlen
    rw [lG h3 (by omega)]
    refine (p3 _ _ S l8 (by omega) fun x hx u S' a b c => ih u x env S' funcs (fU hok (by omega) x hx) hf a c.2.2.2 (henvE b)).then fun r u hr => ?_
    obtain ⟨r1, r2, r3, r4⟩ := hr
    obtain ⟨u, rfl⟩ : ∃ w, u = w + 1 := ⟨u - 1, by have := r4.2.2.1; omega⟩
    unfold pG at r4
    refine (bEV (inp := inp) (by omega) r3 (by unfold gK at hlen; simp at hlen; omega) (fun q => by unfold gK at hlen; simp at hlen; omega) r1 (by omega) (by omega)).mono fun q v hq => ?_
    obtain ⟨q1, q2, q3, rfl, q5, q6⟩ := hq
    exact ⟨q1, r2.trans q2, q3, by unfold pG; rw [q5, q6]; omega⟩
  ·have hlen := fE hok (by omega)
   rw [hk, show gK 8 = 3 from rfl] at hlen
   have o0 := aA.gX hok (i := 0) (by omega)
   have o1 := aA.gX hok (i := 1) (by omega)
   have o2 := aA.gX hok (i := 2) (by omega)
   rw [kP (by omega)] at o0 o1 o2
   rw [aA3 h3 hk]
   refine (ih _ _ _ _ _ o0 hf l8 (by omega) henv).then fun r u hr => ?_
   obtain ⟨r1, r2, r3, r4⟩ := hr
   have r4' := r4
   unfold pG at r4'
   have go : ∀ (b : Bool) (k : aA), k.ok p funcs env.length → yV (aUU inp S t) (eT p n u k env (r.2.guard ⟨r.1, b⟩)) := fun b k hk => by
    have he : r.2.ext (r.2.guard ⟨r.1, b⟩) := r.2.nK _
    refine (ih u k env _ _ hk hf (r1.guard r3 (by omega)) (by omega) (henvE (r2.trans he))).mono fun q v hq => ?_
    obtain ⟨q1, q2, q3, q4⟩ := hq
    refine ⟨q1, (r2.trans he).trans q2, q3, ?_⟩
    unfold pG at q4 ⊢
    simp only [dV.guard, List.length_append, List.length_singleton] at q4
    omega
   split
   ·exact go _ _ o1
   ·exact go _ _ o2
  ·have hlen := fE hok (by omega)
   rw [hk, show gK 9 = 2 from rfl] at hlen
   have o0 := aA.gX hok (i := 0) (by omega)
   have o1 := aA.gX hok (i := 1) (by omega)
   rw [kP (by omega)] at o0
   rw [hk, show mP 9 1 (env.length : Int) = env.length + 1 from rfl] at o1
   rw [aPA h3 hk]
   refine (ih _ _ _ _ _ o0 hf l8 (by omega) henv).then fun r u hr => ?_
   obtain ⟨r1, r2, r3, r4⟩ := hr
   refine (ih _ _ (env ++ [r.1]) _ _ (by rw [List.length_append]; exact o1) hf r1 r4.2.2.2 fun x hx => ?_).mono fun q v hq => ?_
   ·rcases List.mem_append.1 hx with hx | hx
    ·exact henvE r2 x hx
    ·rw [List.mem_singleton.1 hx]; exact r3
   ·obtain ⟨q1, q2, q3, q4⟩ := hq
    exact ⟨q1, r2.trans q2, q3, (r4.trans q4).step⟩
  ·obtain ⟨f, F⟩ := uD hp hok hf (.inl hk)
   have f2 := F.hi
   have f4 := F.pk2
   rw [aBF h3 hk]
   refine (p3 _ _ S l8 (by omega) fun x hx u S' a b c => ih u x env S' funcs (fU hok (by omega) x hx) hf a c.2.2.2 (henvE b)).then fun r u hr => ?_
   obtain ⟨r1, r2, r3, r4⟩ := hr
   refine (ih _ _ r.1 _ e.bQ (by rw [r3.1, F.kids]; exact F.oks _ (List.mem_of_getElem? F.out)) (by omega) r1 r4.2.2.2 r3.2).mono fun q v hq => ?_
   obtain ⟨q1, q2, q3, q4⟩ := hq
   exact ⟨q1, r2.trans q2, q3, (r4.trans q4).step⟩
  ·obtain ⟨f, F⟩ := uD hp hok hf (.inr hk)
   have f2 := F.hi
   have f4 := F.pk2
   have f9 := F.loop hk
   rw [aBG h3 hk]
   refine (p3 _ _ S l8 (by omega) fun x hx u S' a b c => ih u x env S' funcs (fU hok (by omega) x hx) hf a c.2.2.2 (henvE b)).then fun r u hr => ?_
   obtain ⟨r1, r2, r3, r4⟩ := hr
   refine (aA2 (inp := inp) (m := f.aZ.length) (fun vs w S' hg' hv hw => ?_) _ _ _ _ r1 ⟨by have := r3.1; have := F.kids; omega, r3.2⟩ r4.2.2.2).then fun q v hq => ?_
   ·rw [F.eq]
    exact p3 _ _ S' hg' hw fun x hx u S'' a b c => ih u x vs S'' e.bQ (by rw [hv.1, f9.2.2]; exact F.oks x hx) (by omega) a c.2.2.2 fun y hy => (hv.2 y hy).ext b
   ·obtain ⟨q1, q2, q3, q4⟩ := hq
    refine yV.pure ⟨q1, r2.trans q2, ?_, (r4.trans q4).step⟩
    simp only [List.getD_eq_getElem?_getD]
    rw [List.getElem?_eq_getElem (by rw [q3.1]; exact f4)]
    exact q3.2 _ (List.getElem_mem _)
open Go.Proofs
set_option linter.unusedVariables false
set_option linter.unusedSimpArgs false
def nI {α β : Type} (R : α → β → Prop) (X : Out α) (Y : Out β) : Prop := match X, Y with
 | .ok (v, t), .ok (v', t') => R v v' ∧ t = t'
 | .error c, .error c' => c = c'
 | _, _ => False
theorem nI.bind {α β γ δ : Type} {R : α → β → Prop} {R' : γ → δ → Prop} {P : α → Nat → Prop} {X : Out α} {Y : Out β} {F : α → Nat → Out γ} {G : β → Nat → Out δ} (hp : yV P X) (h : nI R X Y) (hf : ∀ v v' t, P v t → R v v' → nI R' (F v t) (G v' t)) : nI R' (X.andThen F) (Y.andThen G) := by
 cases X with
 |ok p =>
  cases Y with
  |ok q =>
   obtain ⟨v, t⟩ := p
   obtain ⟨v', t'⟩ := q
   obtain ⟨h1, rfl⟩ := h
   exact hf _ _ _ (hp v t rfl) h1
  |error c => exact h.elim
 |error c =>
  cases Y with
  |ok q => exact h.elim
  |error d => exact h
theorem nI.pure {α β : Type} {R : α → β → Prop} {v : α} {v' : β} {t : Nat} (h : R v v') : nI R (.ok (v, t)) (.ok (v', t)) := ⟨h, rfl⟩
def sv (S : dV) (l : List Int) : List (List Int) := l.map fun k => [S.val k]
def sR1 (r : Int × dV) (v : List Int) : Prop := v = [r.2.val r.1]
def sRL (r : List Int × dV) (vs : List (List Int)) : Prop := vs = sv r.2 r.1
theorem aKN {S S' : dV} {l : List Int} (h : ∀ x ∈ l, oV S x) (e : S.ext S') : sv S' l = sv S l :=
 List.map_congr_left fun x hx => by rw [e.val (h x hx).1 (h x hx).2]
theorem xD {ev : Nat → aA → dV → Out (Int × dV)} {ev' : Nat → aA → Out (List Int)} {inp : Int} : ∀ (l : List aA) (t : Nat) (S : dV), Good inp S t → t ≤ 3000 → (∀ e ∈ l, ∀ u S', Good inp S' u → S.ext S' → pG S t S' u → yV (aUU inp S' u) (ev u e S') ∧ nI sR1 (ev u e S') (ev' u e)) → nI sRL (mE ev l t S) (sG ev' l t)
 | [], t, S, hg, ht, _ => nI.pure rfl
 |e :: l, t, S, hg, ht, h => by
  obtain ⟨h1, h2⟩ := h e List.mem_cons_self t S hg S.aA1 (.refl ht)
  refine nI.bind h1 h2 fun r v u hr hv => ?_
  obtain ⟨r1, r2, r3, r4⟩ := hr
  have hl := fun x hx u' S' a b c => h x (List.mem_cons_of_mem _ hx) u' S' a (r2.trans b) (r4.trans c)
  refine nI.bind (p3 l u r.2 r1 r4.2.2.2 fun x hx u' S' a b c => (hl x hx u' S' a b c).1) (xD l u r.2 r1 r4.2.2.2 hl) fun q vs u' hq hvs => nI.pure ?_
  rw [sR1] at hv
  rw [sRL] at hvs ⊢
  rw [hv, hvs, ← hq.2.1.val r3.1 r3.2]; rfl
theorem aMQ {f : List Int → Nat → dV → Out (List Int × dV)} {g : List (List Int) → Nat → Out (List (List Int))} {inp : Int} {m : Nat} (h : ∀ vs t S, Good inp S t → (vs.length = m ∧ ∀ x ∈ vs, oV S x) → t ≤ 3000 → yV (aEZ inp S t m) (f vs t S) ∧ nI sRL (f vs t S) (g (sv S vs) t)) :
  ∀ (n : Nat) (vs : List Int) (t : Nat) (S : dV), Good inp S t → (vs.length = m ∧ ∀ x ∈ vs, oV S x) → t ≤ 3000 → nI sRL (r7 f n vs t S) (aAU g n (sv S vs) t)
 |0, vs, t, S, hg, hv, ht => nI.pure rfl
 |n + 1, vs, t, S, hg, hv, ht => by
  obtain ⟨h1, h2⟩ := h vs t S hg hv ht
  refine nI.bind h1 h2 fun r w u hr hw => ?_
  rw [sRL] at hw
  rw [hw]
  exact aMQ h n r.1 u r.2 hr.1 hr.2.2.1 hr.2.2.2.2.2.2
theorem aDG {S : dV} {l : List Int} {i : Nat} (hi : i < l.length) : (sv S l).getD i [] = [S.val (l.getD i 0)] := by
 simp [sv, List.getD_eq_getElem?_getD, List.getElem?_eq_getElem hi]
theorem a7E {k : Int} {vs : List Int} {S : dV} {t : Nat} (hk : k = 3 ∨ k = 4 ∨ k = 5 ∨ k = 6 ∨ k = 7) (h1 : 1 ≤ vs.length) (h2 : ¬ k = 7 → 2 ≤ vs.length) : nI sR1 (opR k vs S t) (opE k (sv S vs) t) := by
 have g0 := aDG (S := S) (l := vs) (i := 0) (by omega)
 have pv : ∀ c v, (S.put c v).val (S.fS.length : Int) = v := fun c v => by
  rw [dV.val, dV.put, List.getD_eq_getElem?_getD, Int.toNat_natCast, List.getElem?_append_right (Nat.le_refl _), Nat.sub_self]; rfl
 unfold opR opE opV
 rcases hk with rfl | rfl | rfl | rfl | rfl
 all_goals simp only [reduceCtorEq, if_true, if_false, Int.reduceEq]
 ·refine nI.pure ?_
  have g1 := aDG (S := S) (l := vs) (i := 1) (h2 (by decide))
  rw [sR1, pv, g0, g1]
  rfl
 ·refine nI.pure ?_
  have g1 := aDG (S := S) (l := vs) (i := 1) (h2 (by decide))
  rw [sR1, pv, g0, g1]
  show [(_ + _ * 1000002 % 1000003) % 1000003] = [(_ - S.val (vs.getD 1 0)) % 1000003]
  congr 1
  omega
 ·refine nI.pure ?_
  have g1 := aDG (S := S) (l := vs) (i := 1) (h2 (by decide))
  rw [sR1, pv, g0, g1]
  show [(0 + _ * _) % 1000003] = [_ * S.val (vs.getD 1 0) % 1000003]
  rw [Int.zero_add]; rfl
 ·have g1 := aDG (S := S) (l := vs) (i := 1) (h2 (by decide))
  rw [g0, g1, show opB 6 vs = vs.getD 1 0 from rfl, show [S.val (vs.getD 1 0)].getD 0 0 = S.val (vs.getD 1 0) from rfl]
  by_cases h : S.val (vs.getD 1 0) = 0
  ·rw [if_pos h, if_pos h]; exact rfl
  ·rw [if_neg h, if_neg h]
   refine nI.pure ?_
   rw [sR1, pv]; rfl
 ·refine nI.pure ?_
  rw [sR1, pv, g0]
  show [_ * 1000002 % 1000003] = [(0 - S.val (vs.getD 0 0)) % 1000003]
  congr 1
  omega
theorem aRY {p : aI} (hp : p.ok) {inp : Int} : ∀ (n t : Nat) (e : aA) (env : List Int) (S : dV) (funcs : Int), e.ok p funcs env.length → funcs ≤ p.aH.length → Good inp S t → t ≤ 3000 → (∀ x ∈ env, oV S x) → nI sR1 (eT p n t e env S) (mY p 1 n t e (sv S env))
 |0, t, e, env, S, funcs, _, _, _, _, _ => rfl
 |n + 1, t, e, env, S, funcs, hok, hf, hg, ht, henv => by
  have ih := aRY hp (inp := inp) n
  have io := p4 hp (inp := inp) n
  have hnode := ((aA.eP _ _ _ _).1 hok).1
  by_cases h3 : t = 3000
  ·rw [eT, mY, if_pos h3, if_pos h3]; exact rfl
  have l8 := hg.nH (Nat.le_succ t)
  have hcap := hg.cap
  have hgcap := hg.rK
  have henvE : ∀ {S'}, S.ext S' → ∀ x ∈ env, oV S' x := fun e x hx => (henv x hx).ext e
  have kidsS : ¬ e.a6 = 9 → ∀ x ∈ e.aM, ∀ u S', Good inp S' u → S.ext S' → pG S (t + 1) S' u → yV (aUU inp S' u) (eT p n u x env S') ∧ nI sR1 (eT p n u x env S') (mY p 1 n u x (sv S env)) := fun h9 x hx u S' a b c =>
   ⟨io u x env S' funcs (fU hok h9 x hx) hf a c.2.2.2 (henvE b), by
    have := ih u x env S' funcs (fU hok h9 x hx) hf a c.2.2.2 (henvE b)
    rwa [aKN henv b] at this⟩
  rcases xC hnode with hk | hk | hk | hk | hk | hk | hk | hk | hk | hk | hk
  ·rw [aO8 h3 hk, a94 h3 hk]
   refine nI.pure ?_
   simp [sR1, dV.val, dV.put, tU, List.replicate_succ]
  ·rw [aO9 h3 hk, a95 h3 hk]
   have hn := ((fP (by omega)).1 hnode).2.2.2.2.1 hk
   exact nI.pure (aDG (by omega))
  iterate 5
   ·have hlen := fE hok (by omega)
    rw [hk] at hlen
    rw [lG h3 (by omega), aUR h3 (by omega)]
    have hs := kidsS (by omega)
    refine nI.bind (p3 _ _ S l8 (by omega) fun x hx u S' a b c => (hs x hx u S' a b c).1) (xD _ _ S l8 (by omega) hs) fun r vs u hr hv => ?_
    obtain ⟨r1, r2, r3, r4⟩ := hr
    rw [sRL] at hv
    rw [hv]
    exact a7E (by omega) (by unfold gK at hlen; simp at hlen; omega) (fun q => by unfold gK at hlen; simp at hlen; omega)
  ·have hlen := fE hok (by omega)
   rw [hk, show gK 8 = 3 from rfl] at hlen
   have o0 := aA.gX hok (i := 0) (by omega)
   have o1 := aA.gX hok (i := 1) (by omega)
   have o2 := aA.gX hok (i := 2) (by omega)
   rw [kP (by omega)] at o0 o1 o2
   rw [aA3 h3 hk, a2C h3 hk]
   refine nI.bind (io _ _ _ _ _ o0 hf l8 (by omega) henv) (ih _ _ _ _ _ o0 hf l8 (by omega) henv) fun r v u hr hv => ?_
   obtain ⟨r1, r2, r3, r4⟩ := hr
   have r4' := r4
   unfold pG at r4'
   rw [sR1] at hv
   subst hv
   rw [show [r.2.val r.1].getD 0 0 = r.2.val r.1 from rfl]
   have go : ∀ (b : Bool) (k : aA), k.ok p funcs env.length → nI sR1 (eT p n u k env (r.2.guard ⟨r.1, b⟩)) (mY p 1 n u k (sv S env)) := fun b k hk => by
    have he : r.2.ext (r.2.guard ⟨r.1, b⟩) := r.2.nK _
    have := ih u k env _ _ hk hf (r1.guard (b := b) r3 (by omega)) (by omega) (henvE (r2.trans he))
    rwa [aKN henv (r2.trans he)] at this
   by_cases hz : r.2.val r.1 = 0
   ·rw [if_pos hz, if_pos hz]; exact go _ _ o1
   ·rw [if_neg hz, if_neg hz]; exact go _ _ o2
  ·have hlen := fE hok (by omega)
   rw [hk, show gK 9 = 2 from rfl] at hlen
   have o0 := aA.gX hok (i := 0) (by omega)
   have o1 := aA.gX hok (i := 1) (by omega)
   rw [kP (by omega)] at o0
   rw [hk, show mP 9 1 (env.length : Int) = env.length + 1 from rfl] at o1
   rw [aPA h3 hk, a96 h3 hk]
   refine nI.bind (io _ _ _ _ _ o0 hf l8 (by omega) henv) (ih _ _ _ _ _ o0 hf l8 (by omega) henv) fun r v u hr hv => ?_
   obtain ⟨r1, r2, r3, r4⟩ := hr
   rw [sR1] at hv
   subst hv
   have := ih u (e.pV 1) (env ++ [r.1]) r.2 funcs (by rw [List.length_append]; exact o1) hf r1 r4.2.2.2 (fun x hx => by
    rcases List.mem_append.1 hx with hx | hx
    ·exact henvE r2 x hx
    ·rw [List.mem_singleton.1 hx]; exact r3)
   rwa [show sv r.2 (env ++ [r.1]) = sv S env ++ [[r.2.val r.1]] by rw [← aKN henv r2, sv, List.map_append]; rfl] at this
  ·obtain ⟨f, F⟩ := uD hp hok hf (.inl hk)
   have f2 := F.hi
   have f4 := F.pk2
   rw [aBF h3 hk, a2D h3 hk]
   have hs := kidsS (by omega)
   refine nI.bind (p3 _ _ S l8 (by omega) fun x hx u S' a b c => (hs x hx u S' a b c).1) (xD _ _ S l8 (by omega) hs) fun r vs u hr hv => ?_
   obtain ⟨r1, r2, r3, r4⟩ := hr
   rw [sRL] at hv
   rw [hv]
   exact ih _ _ r.1 _ e.bQ (by rw [r3.1, F.kids]; exact F.oks _ (List.mem_of_getElem? F.out)) (by omega) r1 r4.2.2.2 r3.2
  ·obtain ⟨f, F⟩ := uD hp hok hf (.inr hk)
   have f2 := F.hi
   have f4 := F.pk2
   have f9 := F.loop hk
   rw [aBG h3 hk, a2E h3 hk]
   have hs := kidsS (by omega)
   refine nI.bind (p3 _ _ S l8 (by omega) fun x hx u S' a b c => (hs x hx u S' a b c).1) (xD _ _ S l8 (by omega) hs) fun r vs u hr hv => ?_
   obtain ⟨r1, r2, r3, r4⟩ := hr
   rw [sRL] at hv
   rw [hv]
   have hfl : ∀ vs t S, Good inp S t → (vs.length = f.aZ.length ∧ ∀ x ∈ vs, oV S x) → t ≤ 3000 → yV (aEZ inp S t f.aZ.length) (mE (fun t e S => eT p n t e vs S) (p.outs e.bQ) t S) ∧ nI sRL (mE (fun t e S => eT p n t e vs S) (p.outs e.bQ) t S) (sG (fun t e => mY p 1 n t e (sv S vs)) (p.outs e.bQ) t) := fun vs w S' hg' hv hw => by
    rw [F.eq]
    have hx2 : ∀ x ∈ f.aZ, ∀ u S'', Good inp S'' u → S'.ext S'' → pG S' w S'' u → yV (aUU inp S'' u) (eT p n u x vs S'') ∧ nI sR1 (eT p n u x vs S'') (mY p 1 n u x (sv S' vs)) := fun x hx u S'' a b c =>
     ⟨io u x vs S'' e.bQ (by rw [hv.1, f9.2.2]; exact F.oks x hx) (by omega) a c.2.2.2 fun y hy => (hv.2 y hy).ext b, by
      have := ih u x vs S'' e.bQ (by rw [hv.1, f9.2.2]; exact F.oks x hx) (by omega) a c.2.2.2 fun y hy => (hv.2 y hy).ext b
      rwa [aKN hv.2 b] at this⟩
    exact ⟨p3 _ _ S' hg' hw fun x hx u S'' a b c => (hx2 x hx u S'' a b c).1, xD _ _ S' hg' hw hx2⟩
   have xK : r.1.length = f.aZ.length ∧ ∀ x ∈ r.1, oV r.2 x := ⟨by have := r3.1; have := F.kids; omega, r3.2⟩
   refine nI.bind (aA2 (inp := inp) (m := f.aZ.length) (fun vs t S a b c => (hfl vs t S a b c).1) _ _ _ _ r1 xK r4.2.2.2) (aMQ (inp := inp) (m := f.aZ.length) (g := fun vs t => sG (fun t e => mY p 1 n t e vs) (p.outs e.bQ) t) hfl _ _ _ _ r1 xK r4.2.2.2) fun q vs2 v hq hvs => ?_
   refine nI.pure ?_
   rw [sRL] at hvs
   rw [hvs]
   exact aDG (by rw [hq.2.2.1.1]; exact f4)
def inS (args : List Int) : dV := ⟨(List.range args.length).map fun i : Nat => ⟨1, 0, 0, (i : Int)⟩, args, []⟩
def inE (args : List Int) : List Int := (List.range args.length).map fun i : Nat => (i : Int)
theorem aKO (args : List Int) (ha : pB args) (hl : args.length ≤ 12) : Good args.length (inS args) 0 := by
 refine ⟨by simp [inS], ha, fun i c hc => ?_, fun g hg => (by cases hg), by simpa [inS] using hl, Nat.le_refl _⟩
 obtain ⟨h1, h2⟩ := List.getElem?_eq_some_iff.1 hc
 simp [inS] at h1 h2
 subst h2
 exact .inl ⟨rfl, rfl, rfl, by simp only; omega, by simp only; omega⟩
theorem aUV (args : List Int) : ∀ x ∈ inE args, oV (inS args) x := fun x hx => by
 obtain ⟨i, hi, rfl⟩ := List.mem_map.1 hx
 have := List.mem_range.1 hi
 exact ⟨by omega, by simp [inS]; omega⟩
theorem bEW (args : List Int) : sv (inS args) (inE args) = args.map fun n => [n] := by
 apply List.ext_getElem
 ·simp [sv, inE]
 ·intro i h1 h2
  simp [sv, inE, inS, dV.val]
  simp at h2
  rw [List.getElem?_eq_getElem h2]; rfl
def aLY (p : aI) (f : Int) (args : List Int) : Out (List Int × dV) := mE (fun t e S => eT p 3001 t e (inE args) S) (p.outs f) 0 (inS args)
theorem aH6 {p : aI} (hp : p.ok) (f : Int) (hf : 0 ≤ f ∧ f < p.aH.length) (args : List Int) (ha : pB args) (hl : ∀ F, p.aH[f.toNat]? = some F → (args.length : Int) = F.bE) :
  yV (aEZ args.length (inS args) 0 (p.outs f).length) (aLY p f args) ∧ nI sRL (aLY p f args) (evF p 1 f (args.map fun n => [n])) := by
 obtain ⟨F, ef, hF1, hF2, hF3, hF4⟩ := aBC hp hf
 have hla := hl F ef
 have hg := aKO args ha (by omega)
 have hin := aUV args
 have hel : (inE args).length = args.length := by simp [inE]
 have hx2 : ∀ x ∈ p.outs f, ∀ u S'', Good args.length S'' u → (inS args).ext S'' → pG (inS args) 0 S'' u → yV (aUU args.length S'' u) (eT p 3001 u x (inE args) S'') ∧ nI sR1 (eT p 3001 u x (inE args) S'') (mY p 1 3001 u x (args.map fun n => [n])) := fun x hx u S'' a b c => by
  have hxo : x.ok p f (inE args).length := by rw [hel, hla]; exact hF4 x (by rw [← hF3]; exact hx)
  refine ⟨p4 hp _ u x _ S'' f hxo (by omega) a c.2.2.2 fun y hy => (hin y hy).ext b, ?_⟩
  have := aRY hp 3001 u x (inE args) S'' f hxo (by omega) a c.2.2.2 fun y hy => (hin y hy).ext b
  rwa [aKN hin b, bEW] at this
 exact ⟨p3 _ _ _ hg (by omega) fun x hx u S'' a b c => (hx2 x hx u S'' a b c).1, xD _ _ _ hg (by omega) hx2⟩
end Go.Hl

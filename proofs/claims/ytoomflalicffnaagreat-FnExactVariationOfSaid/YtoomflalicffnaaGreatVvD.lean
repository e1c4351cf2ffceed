/-
  Contracts of functions and laws of the layer over the walk.
-/
import Derived.Test.YtoomflalicffnaaGreatVvC
import Derived.Test.YtoomflalicffnaaGreatHlD
import Derived.Test.YtoomflalicffnaaGreatVvB
import Derived.Test.YtoomflalicffnaaGreatGn
namespace Go.Hl
set_option maxRecDepth 100000
open Go.Proofs
set_option linter.unusedVariables false
set_option linter.unusedSimpArgs false
theorem aXC {p : aC} (hp : p.ok) {sz n : Nat} (hv : oY p sz n) (h : aB) (nb st : Nat) (e : aA) (env : List (List Int)) (funcs : Int) (hb : h nb = some (c6 p sz st 0)) (hst : st ≤ 3000) (hn : 3001 ≤ n + st) (hok : e.ok p funcs env.length) (c7 : 0 ≤ funcs) (hf : funcs ≤ p.aJ.length) (henv : ∀ s ∈ env, bC sz s) (hel : env.length ≤ 412 + st) (hk : e.aQ = 10) :
  eH Tryz.prog 215 [.op nb 4 0 0, .ip 5 [e.c] 0 0, bI env] h (RnQ h nb p sz st 0 ((kB (fun t e => gR p sz n t e env) e.aI st).andThen fun vs t => gR p sz n t (p.out e.aW e.b7) vs)) := by
 obtain ⟨f, F⟩ := lQ hp hok hf (.inl hk)
 have f1 := F.lo
 have f2 := F.hi
 have f3 := F.pk
 have f4 := F.pk2
 have f5 := F.kids
 have f6 := F.params
 have f8 := F.outs
 have f9 := F.loop
 have hkok := dD hok (by omega)
 rw [aA.aN]
 refine gG 81 aA8 aA9 aBA mix Tryz.func215 rfl (by kernel_rfl) (by simp) ?_
 simp -dsimp -implicitDefEqProofs only [go_sem, ↓reduceIte, Tryz.f215]
 refine ⟨Nat.zero_lt_one, ?_⟩
 refine bX (keep := aA8) (ib := aA9) (mk := aBA) mix (by kernel_rfl) (fun x : Nat × List (List Int) × Nat × Int × Option Nat => [(0, .op nb 4 0 0), (1, .ip 5 [[I e.aQ, I e.aW, I e.b7, I e.bV, dB 5 aA.c e.aI]] 0 0), (2, bI env), (7, eK 1 x.2.1.length x.2.2.2.2), (8, I x.1)]) (fun x => gQ (a5 h nb (c6 p sz x.2.2.1 x.2.2.2.1)) (.row 1 ((x.2.1.map fun s => [ints s]).map (List.map .v))) x.2.2.2.2) (fun x => x.1 ≤ e.aI.length ∧ x.2.1.length = x.1 ∧ (∀ s ∈ x.2.1, bC sz s) ∧ st ≤ x.2.2.1 ∧ x.2.2.1 ≤ 3000 ∧ gT (lY 0 (kB (fun t e => gR p sz n t e env) (e.aI.take x.1) st)) x.2.1 x.2.2.1 x.2.2.2.1 ∧ eP h x.2.1 x.2.2.2.2) (fun x => e.aI.length - x.1) (0, [], st, 0, none) ⟨by simp [b8, bJ, eK], by simp only [aR]; rw [qE hb]; exact aB.le_refl _, Nat.zero_le _, rfl, by simp, Nat.le_refl _, hst, fL _ _ _, rfl⟩ ?_
 rintro ⟨k, vs, t, c', o⟩ ⟨hk2, hvl, hvs, zA, ht, ho, hos⟩
 simp only at hk2 hvl hvs zA ht ho hos ⊢
 rcases Nat.lt_or_ge k e.aI.length with hlt | hge
 ·have ek : e.aI[k]? = some e.aI[k] := List.getElem?_eq_getElem hlt
  have hnext : ∀ (s : List Int) (t2 : Nat) (c2 : Int), gT (lY c' (gR p sz n t e.aI[k] env)) s t2 c2 → gT (lY 0 (kB (fun t e => gR p sz n t e env) (e.aI.take (k + 1)) st)) (vs ++ [s]) t2 c2 := fun s t2 c2 h3 => by
   rw [List.take_succ_eq_append_getElem hlt, sH]
   exact ho.cQ (h3.cQ (fL _ _ _))
  have hall : ∀ s, bC sz s → ∀ x ∈ vs ++ [s], bC sz x := fun s hs => qH hvs hs
  cases o with
  |none =>
   rw [a9] at hos
   subst hos
   simp -dsimp -implicitDefEqProofs only [go_sem, ↓reduceIte, Tryz.f215, a7, aR, hlt, ek]
   intro _
   refine aG.fF (hv.at ek (a5 h nb (c6 p sz t c')) nb t c' env funcs (aH _ _ _) ht (by omega) (hkok _ (List.getElem_mem _)) c7 hf henv (by omega)) ?_
   rintro r h' ⟨s, t2, c2, rfl, rfl, hs, h1, h2, h3⟩
   simp -dsimp -implicitDefEqProofs only [go_sem, ↓reduceIte, Tryz.f215]
   refine ⟨Nat.zero_lt_one, Nat.zero_lt_one, Nat.zero_lt_one, ?_⟩
   intro b aS
   have bS : ¬ b = nb := by first | exact aS.1 | exact aS | exact aS.2.1 | exact aS.2 | exact aS.2.2.1 | exact aS.2.2 | exact aS.2.2.2.1 | exact aS.2.2.2 | exact aS.2.2.2.2.1 | exact aS.2.2.2.2 | exact aS.2.2.2.2.2.1 | exact aS.2.2.2.2.2 | exact aS.2.2.2.2.2.2.1 | exact aS.2.2.2.2.2.2 | exact aS.2.2.2.2.2.2.2.1 | exact aS.2.2.2.2.2.2.2 | exact aS.2.2.2.2.2.2.2.2.1 | exact aS.2.2.2.2.2.2.2.2 | exact aS.2.2.2.2.2.2.2.2.2.1 | exact aS.2.2.2.2.2.2.2.2.2 | exact aS.2.2.2.2.2.2.2.2.2.2.1 | exact aS.2.2.2.2.2.2.2.2.2.2 | exact aS.2.2.2.2.2.2.2.2.2.2.2.1 | exact aS.2.2.2.2.2.2.2.2.2.2.2 | exact aS.2.2.2.2.2.2.2.2.2.2.2.2.1 | exact aS.2.2.2.2.2.2.2.2.2.2.2.2 | exact aS.2.2.2.2.2.2.2.2.2.2.2.2.2.1 | exact aS.2.2.2.2.2.2.2.2.2.2.2.2.2
   have cI : (b = nb) = False := eq_false bS
   have cJ : (nb = b) = False := eq_false (Ne.symm bS)
   have dO : ¬ nb = b := Ne.symm bS
   have z_b : h b = none := by first | exact aS.1 | exact aS | exact aS.2.1 | exact aS.2 | exact aS.2.2.1 | exact aS.2.2 | exact aS.2.2.2.1 | exact aS.2.2.2 | exact aS.2.2.2.2.1 | exact aS.2.2.2.2 | exact aS.2.2.2.2.2.1 | exact aS.2.2.2.2.2 | exact aS.2.2.2.2.2.2.1 | exact aS.2.2.2.2.2.2 | exact aS.2.2.2.2.2.2.2.1 | exact aS.2.2.2.2.2.2.2 | exact aS.2.2.2.2.2.2.2.2.1 | exact aS.2.2.2.2.2.2.2.2 | exact aS.2.2.2.2.2.2.2.2.2.1 | exact aS.2.2.2.2.2.2.2.2.2 | exact aS.2.2.2.2.2.2.2.2.2.2.1 | exact aS.2.2.2.2.2.2.2.2.2.2 | exact aS.2.2.2.2.2.2.2.2.2.2.2.1 | exact aS.2.2.2.2.2.2.2.2.2.2.2 | exact aS.2.2.2.2.2.2.2.2.2.2.2.2.1 | exact aS.2.2.2.2.2.2.2.2.2.2.2.2 | exact aS.2.2.2.2.2.2.2.2.2.2.2.2.2.1 | exact aS.2.2.2.2.2.2.2.2.2.2.2.2.2
   refine ⟨(k + 1, [s], t2, c2, some b), ⟨rfl, by rw [IntWalk.i64_in _ (by omega)]; rfl⟩, (jM (by repeat' (first | exact h8 _ _ | refine jN (by simp only [c8, ↓reduceIte, eq_self, if_true, cJ, cI, List.map_cons, List.map_nil]) ?_ | refine fY (by first | exact .inr (by assumption) | exact .inl (by simp)) ?_))), ⟨by omega, by simp only [List.length_nil] at hvl; subst hvl; rfl, fun x hx => hall s hs x hx, Nat.le_trans zA h1, h2, hnext s t2 c2 h3, z_b⟩, by simp only; omega⟩
  |some m =>
   rw [aU] at hos
   have dA : ¬ m = nb := fun e => by rw [e, hb] at hos; cases hos
   have c5 : ¬ nb = m := Ne.symm dA
   have dG : (m = nb) = False := eq_false dA
   have dH : (nb = m) = False := eq_false c5
   simp -dsimp -implicitDefEqProofs only [go_sem, ↓reduceIte, Tryz.f215, aT, aL, hlt, ek]
   intro _
   refine aG.fF (hv.at ek (a5 (a5 h nb (c6 p sz t c')) m (.row 1 ((vs.map fun s => [ints s]).map (List.map .v)))) nb t c' env funcs (by rw [aF _ _ _ _ c5, aH]) ht (by omega) (hkok _ (List.getElem_mem _)) c7 hf henv (by omega)) ?_
   rintro r h' ⟨s, t2, c2, rfl, rfl, hs, h1, h2, h3⟩
   simp -dsimp -implicitDefEqProofs only [go_sem, ↓reduceIte, Tryz.f215, aF, dG, dH]
   refine ⟨Nat.zero_lt_one, Nat.zero_lt_one, Nat.zero_lt_one, Nat.le_refl _, by omega, by omega, ?_⟩
   intro b aS
   have bS : ¬ b = nb := by first | exact aS.1 | exact aS | exact aS.2.1 | exact aS.2 | exact aS.2.2.1 | exact aS.2.2 | exact aS.2.2.2.1 | exact aS.2.2.2 | exact aS.2.2.2.2.1 | exact aS.2.2.2.2 | exact aS.2.2.2.2.2.1 | exact aS.2.2.2.2.2 | exact aS.2.2.2.2.2.2.1 | exact aS.2.2.2.2.2.2 | exact aS.2.2.2.2.2.2.2.1 | exact aS.2.2.2.2.2.2.2 | exact aS.2.2.2.2.2.2.2.2.1 | exact aS.2.2.2.2.2.2.2.2 | exact aS.2.2.2.2.2.2.2.2.2.1 | exact aS.2.2.2.2.2.2.2.2.2 | exact aS.2.2.2.2.2.2.2.2.2.2.1 | exact aS.2.2.2.2.2.2.2.2.2.2 | exact aS.2.2.2.2.2.2.2.2.2.2.2.1 | exact aS.2.2.2.2.2.2.2.2.2.2.2 | exact aS.2.2.2.2.2.2.2.2.2.2.2.2.1 | exact aS.2.2.2.2.2.2.2.2.2.2.2.2 | exact aS.2.2.2.2.2.2.2.2.2.2.2.2.2.1 | exact aS.2.2.2.2.2.2.2.2.2.2.2.2.2
   have cI : (b = nb) = False := eq_false bS
   have cJ : (nb = b) = False := eq_false (Ne.symm bS)
   have dO : ¬ nb = b := Ne.symm bS
   have gJ : ¬ b = m := by first | exact aS.1 | exact aS | exact aS.2.1 | exact aS.2 | exact aS.2.2.1 | exact aS.2.2 | exact aS.2.2.2.1 | exact aS.2.2.2 | exact aS.2.2.2.2.1 | exact aS.2.2.2.2 | exact aS.2.2.2.2.2.1 | exact aS.2.2.2.2.2 | exact aS.2.2.2.2.2.2.1 | exact aS.2.2.2.2.2.2 | exact aS.2.2.2.2.2.2.2.1 | exact aS.2.2.2.2.2.2.2 | exact aS.2.2.2.2.2.2.2.2.1 | exact aS.2.2.2.2.2.2.2.2 | exact aS.2.2.2.2.2.2.2.2.2.1 | exact aS.2.2.2.2.2.2.2.2.2 | exact aS.2.2.2.2.2.2.2.2.2.2.1 | exact aS.2.2.2.2.2.2.2.2.2.2 | exact aS.2.2.2.2.2.2.2.2.2.2.2.1 | exact aS.2.2.2.2.2.2.2.2.2.2.2 | exact aS.2.2.2.2.2.2.2.2.2.2.2.2.1 | exact aS.2.2.2.2.2.2.2.2.2.2.2.2 | exact aS.2.2.2.2.2.2.2.2.2.2.2.2.2.1 | exact aS.2.2.2.2.2.2.2.2.2.2.2.2.2
   have lB : (b = m) = False := eq_false gJ
   have lC : (m = b) = False := eq_false (Ne.symm gJ)
   have kV : ¬ m = b := Ne.symm gJ
   have z_b : h b = none := by first | exact aS.1 | exact aS | exact aS.2.1 | exact aS.2 | exact aS.2.2.1 | exact aS.2.2 | exact aS.2.2.2.1 | exact aS.2.2.2 | exact aS.2.2.2.2.1 | exact aS.2.2.2.2 | exact aS.2.2.2.2.2.1 | exact aS.2.2.2.2.2 | exact aS.2.2.2.2.2.2.1 | exact aS.2.2.2.2.2.2 | exact aS.2.2.2.2.2.2.2.1 | exact aS.2.2.2.2.2.2.2 | exact aS.2.2.2.2.2.2.2.2.1 | exact aS.2.2.2.2.2.2.2.2 | exact aS.2.2.2.2.2.2.2.2.2.1 | exact aS.2.2.2.2.2.2.2.2.2 | exact aS.2.2.2.2.2.2.2.2.2.2.1 | exact aS.2.2.2.2.2.2.2.2.2.2 | exact aS.2.2.2.2.2.2.2.2.2.2.2.1 | exact aS.2.2.2.2.2.2.2.2.2.2.2 | exact aS.2.2.2.2.2.2.2.2.2.2.2.2.1 | exact aS.2.2.2.2.2.2.2.2.2.2.2.2 | exact aS.2.2.2.2.2.2.2.2.2.2.2.2.2.1 | exact aS.2.2.2.2.2.2.2.2.2.2.2.2.2
   refine ⟨(k + 1, vs ++ [s], t2, c2, some b), ⟨by rw [aT, List.length_append]; rfl, by rw [IntWalk.i64_in _ (by omega)]; rfl⟩, ?_, ⟨by omega, by rw [List.length_append, hvl]; rfl, hall s hs, Nat.le_trans zA h1, h2, hnext s t2 c2 h3, z_b⟩, by simp only; omega⟩
   simp only [aL]
   rw [← eN ints]
   exact (jM (by repeat' (first | exact h8 _ _ | refine jN (by simp only [c8, ↓reduceIte, eq_self, if_true, cJ, dH, cI, lB, dG, lC]) ?_ | refine fY (by first | exact .inr (by assumption) | exact .inl (by simp)) ?_)))
 have hk' : k = e.aI.length := by omega
 subst hk'
 rw [List.take_length] at ho
 have gp : vs[e.b7.toNat]? = some (vs.getD e.b7.toNat []) ∨ e.aQ = 10 := by
  by_cases h10 : e.aQ = 10
  ·exact .inr h10
  ·exact .inl (fO (by have := f9 (by omega); omega))
 cases o with
 |none =>
  rw [a9] at hos
  subst hos
  simp -dsimp -implicitDefEqProofs only [go_sem, ↓reduceIte, Tryz.f215, a7, aR, Nat.lt_irrefl, Int.lt_irrefl, c6, hk, F.get, F.out, aP.aN, aC.aN]
  intro _
  refine ⟨f1, f2, f3, by omega, ?_⟩
  refine aG.fF (eH.sub (.cons (.refl _) (.cons (.refl _) (.cons (Sub.loose _ _ _) .nil))) (hv.at F.out (a5 h nb (c6 p sz t c')) nb t c' [] e.aW (aH _ _ _) ht (by omega) (by rw [hvl, f5]; exact F.oks _ (List.mem_of_getElem? F.out)) f1 (by omega) (by simp) (by simp))) ?_
  rintro r h' ⟨s, t2, c2, rfl, rfl, hs, b1, b2, b3⟩
  simp -dsimp -implicitDefEqProofs only [go_sem, ↓reduceIte, Tryz.f215]
  refine ⟨_, a5 h nb (c6 p sz t2 c2), bQ (by rw [aK]; exact aB.le_refl _), s, t2, c2, rfl, rfl, hs, by omega, b2, ?_⟩
  exact ho.cQ b3
 |some m =>
  rw [aU] at hos
  have dA : ¬ m = nb := fun e => by rw [e, hb] at hos; cases hos
  have c5 : ¬ nb = m := Ne.symm dA
  have dG : (m = nb) = False := eq_false dA
  have dH : (nb = m) = False := eq_false c5
  simp -dsimp -implicitDefEqProofs only [go_sem, ↓reduceIte, Tryz.f215, aT, aL, Nat.lt_irrefl, Int.lt_irrefl, c6, aF, dG, dH, hk, F.get, F.out, aP.aN, aC.aN]
  intro _
  refine ⟨f1, f2, f3, by omega, ?_⟩
  refine aG.aBI rfl rfl c5 (by rw [List.length_map]) (by rw [aF _ _ _ _ dA]; exact hos) ?_
  refine eH.mono (hv.at F.out (a5 (a5 h nb (c6 p sz t c')) m .gone) nb t c' vs e.aW (by rw [aF _ _ _ _ c5, aH]) ht (by omega) (by rw [hvl, f5]; exact F.oks _ (List.mem_of_getElem? F.out)) f1 (by omega) hvs (by omega)) ?_
  rintro r h' ⟨s, t2, c2, rfl, rfl, hs, b1, b2, b3⟩
  simp -dsimp -implicitDefEqProofs only [go_sem, ↓reduceIte, Tryz.f215]
  refine ⟨_, a5 h nb (c6 p sz t2 c2), bQ (jM (by repeat' (first | exact h8 _ _ | refine jN (by simp only [c8, ↓reduceIte, eq_self, if_true, dH, dG]) ?_ | refine fY (by first | exact .inr (by assumption) | exact .inl (by simp)) ?_))), s, t2, c2, rfl, rfl, hs, by omega, b2, ?_⟩
  exact ho.cQ b3
theorem aXD {p : aC} (hp : p.ok) {sz n : Nat} (hv : oY p sz n) (h : aB) (nb st : Nat) (e : aA) (env : List (List Int)) (funcs : Int) (hb : h nb = some (c6 p sz st 0)) (hst : st ≤ 3000) (hn : 3001 ≤ n + st) (hok : e.ok p funcs env.length) (c7 : 0 ≤ funcs) (hf : funcs ≤ p.aJ.length) (henv : ∀ s ∈ env, bC sz s) (hel : env.length ≤ 412 + st) (hk : e.aQ = 11) :
  eH Tryz.prog 215 [.op nb 4 0 0, .ip 5 [e.c] 0 0, bI env] h (RnQ h nb p sz st 0 ((kB (fun t e => gR p sz n t e env) e.aI st).andThen fun vs t => (nF (fun vs t => kB (fun t e => gR p sz n t e vs) (p.outs e.aW) t) e.bV.toNat vs t).andThen fun vs t => .ok (vs.getD e.b7.toNat [], t))) := by
 obtain ⟨f, F⟩ := lQ hp hok hf (.inr hk)
 have f1 := F.lo
 have f2 := F.hi
 have f3 := F.pk
 have f4 := F.pk2
 have f5 := F.kids
 have f6 := F.params
 have f8 := F.outs
 have f9 := F.loop
 have hkok := dD hok (by omega)
 rw [aA.aN]
 refine gG 81 aA8 aA9 aBA mix Tryz.func215 rfl (by kernel_rfl) (by simp) ?_
 simp -dsimp -implicitDefEqProofs only [go_sem, ↓reduceIte, Tryz.f215]
 refine ⟨Nat.zero_lt_one, ?_⟩
 refine bX (keep := aA8) (ib := aA9) (mk := aBA) mix (by kernel_rfl) (fun x : Nat × List (List Int) × Nat × Int × Option Nat => [(0, .op nb 4 0 0), (1, .ip 5 [[I e.aQ, I e.aW, I e.b7, I e.bV, dB 5 aA.c e.aI]] 0 0), (2, bI env), (7, eK 1 x.2.1.length x.2.2.2.2), (8, I x.1)]) (fun x => gQ (a5 h nb (c6 p sz x.2.2.1 x.2.2.2.1)) (.row 1 ((x.2.1.map fun s => [ints s]).map (List.map .v))) x.2.2.2.2) (fun x => x.1 ≤ e.aI.length ∧ x.2.1.length = x.1 ∧ (∀ s ∈ x.2.1, bC sz s) ∧ st ≤ x.2.2.1 ∧ x.2.2.1 ≤ 3000 ∧ gT (lY 0 (kB (fun t e => gR p sz n t e env) (e.aI.take x.1) st)) x.2.1 x.2.2.1 x.2.2.2.1 ∧ eP h x.2.1 x.2.2.2.2) (fun x => e.aI.length - x.1) (0, [], st, 0, none) ⟨by simp [b8, bJ, eK], by simp only [aR]; rw [qE hb]; exact aB.le_refl _, Nat.zero_le _, rfl, by simp, Nat.le_refl _, hst, fL _ _ _, rfl⟩ ?_
 rintro ⟨k, vs, t, c', o⟩ ⟨hk2, hvl, hvs, zA, ht, ho, hos⟩
 simp only at hk2 hvl hvs zA ht ho hos ⊢
 rcases Nat.lt_or_ge k e.aI.length with hlt | hge
 ·have ek : e.aI[k]? = some e.aI[k] := List.getElem?_eq_getElem hlt
  have hnext : ∀ (s : List Int) (t2 : Nat) (c2 : Int), gT (lY c' (gR p sz n t e.aI[k] env)) s t2 c2 → gT (lY 0 (kB (fun t e => gR p sz n t e env) (e.aI.take (k + 1)) st)) (vs ++ [s]) t2 c2 := fun s t2 c2 h3 => by
   rw [List.take_succ_eq_append_getElem hlt, sH]
   exact ho.cQ (h3.cQ (fL _ _ _))
  have hall : ∀ s, bC sz s → ∀ x ∈ vs ++ [s], bC sz x := fun s hs => qH hvs hs
  cases o with
  |none =>
   rw [a9] at hos
   subst hos
   simp -dsimp -implicitDefEqProofs only [go_sem, ↓reduceIte, Tryz.f215, a7, aR, hlt, ek]
   intro _
   refine aG.fF (hv.at ek (a5 h nb (c6 p sz t c')) nb t c' env funcs (aH _ _ _) ht (by omega) (hkok _ (List.getElem_mem _)) c7 hf henv (by omega)) ?_
   rintro r h' ⟨s, t2, c2, rfl, rfl, hs, h1, h2, h3⟩
   simp -dsimp -implicitDefEqProofs only [go_sem, ↓reduceIte, Tryz.f215]
   refine ⟨Nat.zero_lt_one, Nat.zero_lt_one, Nat.zero_lt_one, ?_⟩
   intro b aS
   have bS : ¬ b = nb := by first | exact aS.1 | exact aS | exact aS.2.1 | exact aS.2 | exact aS.2.2.1 | exact aS.2.2 | exact aS.2.2.2.1 | exact aS.2.2.2 | exact aS.2.2.2.2.1 | exact aS.2.2.2.2 | exact aS.2.2.2.2.2.1 | exact aS.2.2.2.2.2 | exact aS.2.2.2.2.2.2.1 | exact aS.2.2.2.2.2.2 | exact aS.2.2.2.2.2.2.2.1 | exact aS.2.2.2.2.2.2.2 | exact aS.2.2.2.2.2.2.2.2.1 | exact aS.2.2.2.2.2.2.2.2 | exact aS.2.2.2.2.2.2.2.2.2.1 | exact aS.2.2.2.2.2.2.2.2.2 | exact aS.2.2.2.2.2.2.2.2.2.2.1 | exact aS.2.2.2.2.2.2.2.2.2.2 | exact aS.2.2.2.2.2.2.2.2.2.2.2.1 | exact aS.2.2.2.2.2.2.2.2.2.2.2 | exact aS.2.2.2.2.2.2.2.2.2.2.2.2.1 | exact aS.2.2.2.2.2.2.2.2.2.2.2.2 | exact aS.2.2.2.2.2.2.2.2.2.2.2.2.2.1 | exact aS.2.2.2.2.2.2.2.2.2.2.2.2.2
   have cI : (b = nb) = False := eq_false bS
   have cJ : (nb = b) = False := eq_false (Ne.symm bS)
   have dO : ¬ nb = b := Ne.symm bS
   have z_b : h b = none := by first | exact aS.1 | exact aS | exact aS.2.1 | exact aS.2 | exact aS.2.2.1 | exact aS.2.2 | exact aS.2.2.2.1 | exact aS.2.2.2 | exact aS.2.2.2.2.1 | exact aS.2.2.2.2 | exact aS.2.2.2.2.2.1 | exact aS.2.2.2.2.2 | exact aS.2.2.2.2.2.2.1 | exact aS.2.2.2.2.2.2 | exact aS.2.2.2.2.2.2.2.1 | exact aS.2.2.2.2.2.2.2 | exact aS.2.2.2.2.2.2.2.2.1 | exact aS.2.2.2.2.2.2.2.2 | exact aS.2.2.2.2.2.2.2.2.2.1 | exact aS.2.2.2.2.2.2.2.2.2 | exact aS.2.2.2.2.2.2.2.2.2.2.1 | exact aS.2.2.2.2.2.2.2.2.2.2 | exact aS.2.2.2.2.2.2.2.2.2.2.2.1 | exact aS.2.2.2.2.2.2.2.2.2.2.2 | exact aS.2.2.2.2.2.2.2.2.2.2.2.2.1 | exact aS.2.2.2.2.2.2.2.2.2.2.2.2 | exact aS.2.2.2.2.2.2.2.2.2.2.2.2.2.1 | exact aS.2.2.2.2.2.2.2.2.2.2.2.2.2
   refine ⟨(k + 1, [s], t2, c2, some b), ⟨rfl, by rw [IntWalk.i64_in _ (by omega)]; rfl⟩, (jM (by repeat' (first | exact h8 _ _ | refine jN (by simp only [c8, ↓reduceIte, eq_self, if_true, cJ, cI, List.map_cons, List.map_nil]) ?_ | refine fY (by first | exact .inr (by assumption) | exact .inl (by simp)) ?_))), ⟨by omega, by simp only [List.length_nil] at hvl; subst hvl; rfl, fun x hx => hall s hs x hx, Nat.le_trans zA h1, h2, hnext s t2 c2 h3, z_b⟩, by simp only; omega⟩
  |some m =>
   rw [aU] at hos
   have dA : ¬ m = nb := fun e => by rw [e, hb] at hos; cases hos
   have c5 : ¬ nb = m := Ne.symm dA
   have dG : (m = nb) = False := eq_false dA
   have dH : (nb = m) = False := eq_false c5
   simp -dsimp -implicitDefEqProofs only [go_sem, ↓reduceIte, Tryz.f215, aT, aL, hlt, ek]
   intro _
   refine aG.fF (hv.at ek (a5 (a5 h nb (c6 p sz t c')) m (.row 1 ((vs.map fun s => [ints s]).map (List.map .v)))) nb t c' env funcs (by rw [aF _ _ _ _ c5, aH]) ht (by omega) (hkok _ (List.getElem_mem _)) c7 hf henv (by omega)) ?_
   rintro r h' ⟨s, t2, c2, rfl, rfl, hs, h1, h2, h3⟩
   simp -dsimp -implicitDefEqProofs only [go_sem, ↓reduceIte, Tryz.f215, aF, dG, dH]
   refine ⟨Nat.zero_lt_one, Nat.zero_lt_one, Nat.zero_lt_one, Nat.le_refl _, by omega, by omega, ?_⟩
   intro b aS
   have bS : ¬ b = nb := by first | exact aS.1 | exact aS | exact aS.2.1 | exact aS.2 | exact aS.2.2.1 | exact aS.2.2 | exact aS.2.2.2.1 | exact aS.2.2.2 | exact aS.2.2.2.2.1 | exact aS.2.2.2.2 | exact aS.2.2.2.2.2.1 | exact aS.2.2.2.2.2 | exact aS.2.2.2.2.2.2.1 | exact aS.2.2.2.2.2.2 | exact aS.2.2.2.2.2.2.2.1 | exact aS.2.2.2.2.2.2.2 | exact aS.2.2.2.2.2.2.2.2.1 | exact aS.2.2.2.2.2.2.2.2 | exact aS.2.2.2.2.2.2.2.2.2.1 | exact aS.2.2.2.2.2.2.2.2.2 | exact aS.2.2.2.2.2.2.2.2.2.2.1 | exact aS.2.2.2.2.2.2.2.2.2.2 | exact aS.2.2.2.2.2.2.2.2.2.2.2.1 | exact aS.2.2.2.2.2.2.2.2.2.2.2 | exact aS.2.2.2.2.2.2.2.2.2.2.2.2.1 | exact aS.2.2.2.2.2.2.2.2.2.2.2.2 | exact aS.2.2.2.2.2.2.2.2.2.2.2.2.2.1 | exact aS.2.2.2.2.2.2.2.2.2.2.2.2.2
   have cI : (b = nb) = False := eq_false bS
   have cJ : (nb = b) = False := eq_false (Ne.symm bS)
   have dO : ¬ nb = b := Ne.symm bS
   have gJ : ¬ b = m := by first | exact aS.1 | exact aS | exact aS.2.1 | exact aS.2 | exact aS.2.2.1 | exact aS.2.2 | exact aS.2.2.2.1 | exact aS.2.2.2 | exact aS.2.2.2.2.1 | exact aS.2.2.2.2 | exact aS.2.2.2.2.2.1 | exact aS.2.2.2.2.2 | exact aS.2.2.2.2.2.2.1 | exact aS.2.2.2.2.2.2 | exact aS.2.2.2.2.2.2.2.1 | exact aS.2.2.2.2.2.2.2 | exact aS.2.2.2.2.2.2.2.2.1 | exact aS.2.2.2.2.2.2.2.2 | exact aS.2.2.2.2.2.2.2.2.2.1 | exact aS.2.2.2.2.2.2.2.2.2 | exact aS.2.2.2.2.2.2.2.2.2.2.1 | exact aS.2.2.2.2.2.2.2.2.2.2 | exact aS.2.2.2.2.2.2.2.2.2.2.2.1 | exact aS.2.2.2.2.2.2.2.2.2.2.2 | exact aS.2.2.2.2.2.2.2.2.2.2.2.2.1 | exact aS.2.2.2.2.2.2.2.2.2.2.2.2 | exact aS.2.2.2.2.2.2.2.2.2.2.2.2.2.1 | exact aS.2.2.2.2.2.2.2.2.2.2.2.2.2
   have lB : (b = m) = False := eq_false gJ
   have lC : (m = b) = False := eq_false (Ne.symm gJ)
   have kV : ¬ m = b := Ne.symm gJ
   have z_b : h b = none := by first | exact aS.1 | exact aS | exact aS.2.1 | exact aS.2 | exact aS.2.2.1 | exact aS.2.2 | exact aS.2.2.2.1 | exact aS.2.2.2 | exact aS.2.2.2.2.1 | exact aS.2.2.2.2 | exact aS.2.2.2.2.2.1 | exact aS.2.2.2.2.2 | exact aS.2.2.2.2.2.2.1 | exact aS.2.2.2.2.2.2 | exact aS.2.2.2.2.2.2.2.1 | exact aS.2.2.2.2.2.2.2 | exact aS.2.2.2.2.2.2.2.2.1 | exact aS.2.2.2.2.2.2.2.2 | exact aS.2.2.2.2.2.2.2.2.2.1 | exact aS.2.2.2.2.2.2.2.2.2 | exact aS.2.2.2.2.2.2.2.2.2.2.1 | exact aS.2.2.2.2.2.2.2.2.2.2 | exact aS.2.2.2.2.2.2.2.2.2.2.2.1 | exact aS.2.2.2.2.2.2.2.2.2.2.2 | exact aS.2.2.2.2.2.2.2.2.2.2.2.2.1 | exact aS.2.2.2.2.2.2.2.2.2.2.2.2 | exact aS.2.2.2.2.2.2.2.2.2.2.2.2.2.1 | exact aS.2.2.2.2.2.2.2.2.2.2.2.2.2
   refine ⟨(k + 1, vs ++ [s], t2, c2, some b), ⟨by rw [aT, List.length_append]; rfl, by rw [IntWalk.i64_in _ (by omega)]; rfl⟩, ?_, ⟨by omega, by rw [List.length_append, hvl]; rfl, hall s hs, Nat.le_trans zA h1, h2, hnext s t2 c2 h3, z_b⟩, by simp only; omega⟩
   simp only [aL]
   rw [← eN ints]
   exact (jM (by repeat' (first | exact h8 _ _ | refine jN (by simp only [c8, ↓reduceIte, eq_self, if_true, cJ, dH, cI, lB, dG, lC]) ?_ | refine fY (by first | exact .inr (by assumption) | exact .inl (by simp)) ?_)))
 have hk' : k = e.aI.length := by omega
 subst hk'
 rw [List.take_length] at ho
 have gp : vs[e.b7.toNat]? = some (vs.getD e.b7.toNat []) ∨ e.aQ = 10 := by
  by_cases h10 : e.aQ = 10
  ·exact .inr h10
  ·exact .inl (fO (by have := f9 (by omega); omega))
 have gp' : vs[e.b7.toNat]? = some (vs.getD e.b7.toNat []) := gp.resolve_right (by omega)
 have g9 := f9 hk
 cases o with
 |none =>
  exfalso
  rw [a9] at hos
  rw [hos] at hvl
  simp at hvl
  omega
 |some m =>
  rw [aU] at hos
  have dA : ¬ m = nb := fun e => by rw [e, hb] at hos; cases hos
  have c5 : ¬ nb = m := Ne.symm dA
  have dG : (m = nb) = False := eq_false dA
  have dH : (nb = m) = False := eq_false c5
  simp -dsimp -implicitDefEqProofs only [go_sem, ↓reduceIte, Tryz.f215, aT, aL, Nat.lt_irrefl, Int.lt_irrefl, c6, aF, dG, dH, hk, F.get, F.out, aP.aN, aC.aN]
  intro _
  refine ⟨f1, f2, ?_⟩
  refine yH.aS0 m (by rw [aF _ _ _ _ dA]; exact hos) (by simp [eF, dG, dH]) ?_
  refine bX (keep := aA8) (ib := aA9) (mk := aBA) mix (by kernel_rfl) (fun x : Nat × List (List Int) × Nat × Int => [(0, .op nb 4 0 0), (1, .ip 5 [[I 11, I e.aW, I e.b7, I e.bV, dB 5 aA.c e.aI]] 0 0), (7, bI x.2.1), (9, .ip 3 (p.aJ.map aP.c) e.aW.toNat 0), (10, I x.1)]) (fun x => a5 h nb (c6 p sz x.2.2.1 x.2.2.2)) (fun x => x.1 ≤ e.bV.toNat ∧ x.2.1.length = f.aM.length ∧ (∀ s ∈ x.2.1, bC sz s) ∧ t ≤ x.2.2.1 ∧ x.2.2.1 ≤ 3000 ∧ gT (lY c' (nF (fun vs t => kB (fun t e => gR p sz n t e vs) (p.outs e.aW) t) x.1 vs t)) x.2.1 x.2.2.1 x.2.2.2) (fun x => e.bV.toNat - x.1) (0, vs, t, c') ⟨by simp [b8, bJ, aD.c9, dG, dH, List.take_of_length_le], (jM (by repeat' (first | exact h8 _ _ | refine jN (by simp only [c8, ↓reduceIte, eq_self, if_true, dG, dH, c6, aC.aN]) ?_ | refine fY (by first | exact .inr (by assumption) | exact .inl (by simp)) ?_))), Nat.zero_le _, by simp only; omega, hvs, Nat.le_refl _, ht, fL _ _ _⟩ ?_
  rintro ⟨k, us, u, d⟩ ⟨hk1, hul, hus, ht1, ht2, hd⟩
  simp only at hk1 hul hus ht1 ht2 hd ⊢
  have gu : us[e.b7.toNat]? = some (us.getD e.b7.toNat []) := fO (by omega)
  simp -dsimp -implicitDefEqProofs only [go_sem, ↓reduceIte, Tryz.f215, c6, gu]
  refine ⟨fun hlt => ?_, fun hge => ?_⟩
  ·refine aG.fF (eH.sub (.cons (.refl _) (.cons (Sub.ip (by rw [List.getElem?_map, F.get]; rfl) (by simp [aP.aN])) (.cons (.refl _) .nil))) (aB8 hv (a5 h nb (c6 p sz u d)) nb u d f us e.aW (aH _ _ _) ht2 (by omega) (by omega) (by rw [hul, g9.2.2]; exact F.oks) f1 (by omega) hus (by omega))) ?_
   rintro r h' ⟨l2, t2, c2, rfl, rfl, hl2, j3, b1, b2, b3⟩
   simp -dsimp -implicitDefEqProofs only [go_sem, ↓reduceIte, Tryz.f215]
   refine ⟨(k + 1, l2, t2, c2), ⟨rfl, by rw [IntWalk.i64_in _ (by omega)]; rfl⟩, by simp only [aK]; exact aB.le_refl _, ⟨by omega, hl2, j3, by simp only; omega, b2, ?_⟩, by simp only; omega⟩
   simp only
   rw [tT]
   refine hd.cQ ?_
   rw [F.eq]
   exact b3
  ·have hke : k = e.bV.toNat := by omega
   refine ⟨f3, by omega, _, _, aV _ _, us.getD e.b7.toNat [], u, d, rfl, rfl, gM hus (by omega), by omega, ht2, ?_⟩
   refine ho.cQ ?_
   rw [← hke]
   exact hd.cQ (fL _ _ _)
theorem aQ2 {p : aC} {sz n : Nat} (hsz : 1 ≤ sz ∧ sz ≤ 1048576) (h : aB) (nb st : Nat) (c : Int) (e : aA) (env : List (List Int)) (hb : h nb = some (c6 p sz st c)) (hst : st ≤ 3000) (hs : ¬ c = 0 ∨ st = 3000) :
  eH Tryz.prog 191 [.op nb 4 0 0, .ip 5 [e.c] 0 0, bI env] h (RnQ h nb p sz st c (gR p sz (n + 1) st e env)) := by
 rw [aA.aN]
 have hb' := hb
 unfold c6 at hb'
 refine gG 186 mG bT uL mix Tryz.func191 rfl (by kernel_rfl) (by simp) ?_
 simp -dsimp -implicitDefEqProofs only [go_sem, ↓reduceIte, Tryz.f191, hb']
 refine ⟨fun hc => ?_, fun hc => ?_⟩
 ·have hc' : ¬ c = 0 := by simpa using hc
  refine aG.fF (aPI h nb p sz st c c hb hsz.2) ?_
  rintro r h' ⟨rfl, rfl⟩
  simp -dsimp -implicitDefEqProofs only [go_sem, ↓reduceIte, Tryz.f191]
  refine ⟨_, _, aV _ _, _, st, c, rfl, by rw [if_neg hc'], dF iZ, Nat.le_refl _, hst, by rw [gD _ hc']; exact dN _ _ hc'⟩
 ·have pB : c = 0 := by simpa using hc
  subst pB
  have h3 : st = 3000 := by rcases hs with hs | hs; exact absurd rfl hs; exact hs
  subst h3
  try simp -dsimp -implicitDefEqProofs only [go_sem, ↓reduceIte, Tryz.f191, hb']
  refine ⟨fun _ => ?_, fun q => absurd q (by simp)⟩
  refine aG.fF (aPI h nb p sz 3000 0 7 hb hsz.2) ?_
  rintro r h' ⟨rfl, rfl⟩
  simp -dsimp -implicitDefEqProofs only [go_sem, ↓reduceIte, Tryz.f191]
  refine ⟨_, _, aV _ _, _, 3000, 7, rfl, rfl, dF iZ, Nat.le_refl _, hst, ?_⟩
  rw [cA, gR, if_pos rfl]
  exact dN _ _ (by decide)
theorem a2H {p : aC} (hp : p.ok) {sz n : Nat} (hsz : 1 ≤ sz ∧ sz ≤ 1048576) (hv : oY p sz n) (h : aB) (nb st : Nat) (e : aA) (env : List (List Int)) (funcs : Int) (hb : h nb = some (c6 p sz st 0)) (hst : st < 3000) (hn : 3001 ≤ n + 1 + st)
  (hok : e.ok p funcs env.length) (c7 : 0 ≤ funcs) (hf : funcs ≤ p.aJ.length) (henv : ∀ s ∈ env, bC sz s) (hel : env.length ≤ 412 + st) (hk : e.aQ = 1) :
  eH Tryz.prog 191 [.op nb 4 0 0, .ip 5 [e.c] 0 0, bI env] h (RnQ h nb p sz st 0 (gR p sz (n + 1) st e env)) := by
 have hb' := hb
 unfold c6 at hb'
 have e3 : ((st : Int) = 3000) = False := eq_false (by omega)
 have ew : IntKind.i64.wrap ((st : Int) + 1) = ((st + 1 : Nat) : Int) := by rw [IntWalk.i64_in _ (by omega)]; rfl
 have hnode := (aA.cC _ _ _ _).1 hok
 have h3 : ¬ st = 3000 := by omega
 have hnum : iI e.aW := ((dM (by omega)).1 hnode.1).2.2.2.1 hk
 rw [aA.aN]
 refine gG 186 mG bT uL mix Tryz.func191 rfl (by kernel_rfl) (by simp) ?_
 simp -dsimp -implicitDefEqProofs only [go_sem, ↓reduceIte, Tryz.f191, hb', e3, ew, hk]
 first | refine aG.mk (dT e.aW sz hsz.2) ?_ | refine aE.mk (dT e.aW sz hsz.2) ?_ | refine aG.a8 (dT e.aW sz hsz.2) ?_ | refine aE.mk (a6.cK (dT e.aW sz hsz.2)) ?_
 simp -dsimp -implicitDefEqProofs only [go_sem, ↓reduceIte, Tryz.f191]
 refine ⟨_, _, aV _ _, _, st + 1, 0, rfl, rfl, dF hnum, Nat.le_succ _, hst, ?_⟩
 rw [cA, aO7 h3 hk]
 exact jP _ _
theorem a2I {p : aC} (hp : p.ok) {sz n : Nat} (hsz : 1 ≤ sz ∧ sz ≤ 1048576) (hv : oY p sz n) (h : aB) (nb st : Nat) (e : aA) (env : List (List Int)) (funcs : Int) (hb : h nb = some (c6 p sz st 0)) (hst : st < 3000) (hn : 3001 ≤ n + 1 + st)
  (hok : e.ok p funcs env.length) (c7 : 0 ≤ funcs) (hf : funcs ≤ p.aJ.length) (henv : ∀ s ∈ env, bC sz s) (hel : env.length ≤ 412 + st) (hk : e.aQ = 2) :
  eH Tryz.prog 191 [.op nb 4 0 0, .ip 5 [e.c] 0 0, bI env] h (RnQ h nb p sz st 0 (gR p sz (n + 1) st e env)) := by
 have hb' := hb
 unfold c6 at hb'
 have e3 : ((st : Int) = 3000) = False := eq_false (by omega)
 have ew : IntKind.i64.wrap ((st : Int) + 1) = ((st + 1 : Nat) : Int) := by rw [IntWalk.i64_in _ (by omega)]; rfl
 have hnode := (aA.cC _ _ _ _).1 hok
 have h3 : ¬ st = 3000 := by omega
 have hnum := ((dM (by omega)).1 hnode.1).2.2.2.2.1 hk
 have hlt : e.aW.toNat < env.length := by omega
 rw [aA.aN]
 refine gG 186 mG bT uL mix Tryz.func191 rfl (by kernel_rfl) (by simp) ?_
 simp -dsimp -implicitDefEqProofs only [go_sem, ↓reduceIte, Tryz.f191, hb', e3, ew, hk, fO hlt]
 refine ⟨hnum.1, by omega, _, _, aV _ _, _, st + 1, 0, rfl, rfl, gM henv hlt, Nat.le_succ _, hst, ?_⟩
 rw [cA, aO8 h3 hk]
 exact jP _ _
theorem a2J {p : aC} (hp : p.ok) {sz n : Nat} (hsz : 1 ≤ sz ∧ sz ≤ 1048576) (hv : oY p sz n) (h : aB) (nb st : Nat) (e : aA) (env : List (List Int)) (funcs : Int) (hb : h nb = some (c6 p sz st 0)) (hst : st < 3000) (hn : 3001 ≤ n + 1 + st)
  (hok : e.ok p funcs env.length) (c7 : 0 ≤ funcs) (hf : funcs ≤ p.aJ.length) (henv : ∀ s ∈ env, bC sz s) (hel : env.length ≤ 412 + st) (hk : e.aQ = 8) :
  eH Tryz.prog 191 [.op nb 4 0 0, .ip 5 [e.c] 0 0, bI env] h (RnQ h nb p sz st 0 (gR p sz (n + 1) st e env)) := by
 have hb' := hb
 unfold c6 at hb'
 have e3 : ((st : Int) = 3000) = False := eq_false (by omega)
 have ew : IntKind.i64.wrap ((st : Int) + 1) = ((st + 1 : Nat) : Int) := by rw [IntWalk.i64_in _ (by omega)]; rfl
 have hnode := (aA.cC _ _ _ _).1 hok
 have h3 : ¬ st = 3000 := by omega
 have hlen := cG hok (by omega)
 rw [hk, show eE 8 = 3 from rfl] at hlen
 have g0 : e.aI[Int.toNat 0]? = some (e.kU 0) := aA.fE (by omega)
 have g1 : e.aI[Int.toNat 1]? = some (e.kU 1) := aA.fE (by omega)
 have g2 : e.aI[Int.toNat 2]? = some (e.kU 2) := aA.fE (by omega)
 have o0 := aA.dW hok (i := 0) (by omega)
 have o1 := aA.dW hok (i := 1) (by omega)
 have o2 := aA.dW hok (i := 2) (by omega)
 rw [gI (by omega)] at o0 o1 o2
 rw [aA.aN]
 refine gG 186 mG bT uL mix Tryz.func191 rfl (by kernel_rfl) (by simp) ?_
 simp -dsimp -implicitDefEqProofs only [go_sem, ↓reduceIte, Tryz.f191, hb', e3, ew, hk, g0]
 refine ⟨by omega, ?_⟩
 refine aG.fF (hv.at g0 (a5 h nb (c6 p sz (st + 1) 0)) nb (st + 1) 0 env funcs (aH _ _ _) (by omega) (by omega) o0 c7 hf henv (by omega)) ?_
 rintro r h' ⟨s1, t1, c1, rfl, rfl, jF, a1, a2, a3⟩
 have gs : s1[Int.toNat 0]? = some (s1.getD 0 0) := bR (by rw [jF.1]; omega)
 simp -dsimp -implicitDefEqProofs only [go_sem, ↓reduceIte, Tryz.f191, gs, g1, g2]
 refine ⟨by rw [jF.1]; omega, fun hz => ⟨by omega, ?_⟩, fun hz => ⟨by omega, ?_⟩⟩
 ·rw [aK]
  refine aG.fF (hv.at g1 (a5 h nb (c6 p sz t1 c1)) nb t1 c1 env funcs (aH _ _ _) (by omega) (by omega) o1 c7 hf henv (by omega)) ?_
  rintro r h' ⟨s2, t2, c2, rfl, rfl, j3, b1, b2, b3⟩
  simp -dsimp -implicitDefEqProofs only [go_sem, ↓reduceIte, Tryz.f191]
  refine ⟨_, _, aV _ _, s2, t2, c2, rfl, by rw [aK], j3, by omega, b2, ?_⟩
  rw [aF4 h3 hk]
  refine a3.cQ ?_
  rw [if_pos hz]
  exact b3
 ·rw [aK]
  refine aG.fF (hv.at g2 (a5 h nb (c6 p sz t1 c1)) nb t1 c1 env funcs (aH _ _ _) (by omega) (by omega) o2 c7 hf henv (by omega)) ?_
  rintro r h' ⟨s2, t2, c2, rfl, rfl, j3, b1, b2, b3⟩
  simp -dsimp -implicitDefEqProofs only [go_sem, ↓reduceIte, Tryz.f191]
  refine ⟨_, _, aV _ _, s2, t2, c2, rfl, by rw [aK], j3, by omega, b2, ?_⟩
  rw [aF4 h3 hk]
  refine a3.cQ ?_
  rw [if_neg hz]
  exact b3
theorem a2K {p : aC} (hp : p.ok) {sz n : Nat} (hsz : 1 ≤ sz ∧ sz ≤ 1048576) (hv : oY p sz n) (h : aB) (nb st : Nat) (e : aA) (env : List (List Int)) (funcs : Int) (hb : h nb = some (c6 p sz st 0)) (hst : st < 3000) (hn : 3001 ≤ n + 1 + st)
  (hok : e.ok p funcs env.length) (c7 : 0 ≤ funcs) (hf : funcs ≤ p.aJ.length) (henv : ∀ s ∈ env, bC sz s) (hel : env.length ≤ 412 + st) (hk : e.aQ = 9) :
  eH Tryz.prog 191 [.op nb 4 0 0, .ip 5 [e.c] 0 0, bI env] h (RnQ h nb p sz st 0 (gR p sz (n + 1) st e env)) := by
 have hb' := hb
 unfold c6 at hb'
 have e3 : ((st : Int) = 3000) = False := eq_false (by omega)
 have ew : IntKind.i64.wrap ((st : Int) + 1) = ((st + 1 : Nat) : Int) := by rw [IntWalk.i64_in _ (by omega)]; rfl
 have hnode := (aA.cC _ _ _ _).1 hok
 have h3 : ¬ st = 3000 := by omega
 have hlen := cG hok (by omega)
 rw [hk, show eE 9 = 2 from rfl] at hlen
 have g0 : e.aI[Int.toNat 0]? = some (e.kU 0) := aA.fE (by omega)
 have g1 : e.aI[Int.toNat 1]? = some (e.kU 1) := aA.fE (by omega)
 have o0 := aA.dW hok (i := 0) (by omega)
 have o1 := aA.dW hok (i := 1) (by omega)
 rw [gI (by omega)] at o0
 rw [hk, show j2 9 1 (env.length : Int) = env.length + 1 from rfl] at o1
 rw [aA.aN]
 refine gG 186 mG bT uL mix Tryz.func191 rfl (by kernel_rfl) (by simp) ?_
 simp -dsimp -implicitDefEqProofs only [go_sem, ↓reduceIte, Tryz.f191, hb', e3, ew, hk, g0, g1]
 refine ⟨by omega, ?_⟩
 refine aG.fF (hv.at g0 (a5 h nb (c6 p sz (st + 1) 0)) nb (st + 1) 0 env funcs (aH _ _ _) (by omega) (by omega) o0 c7 hf henv (by omega)) ?_
 rintro r h' ⟨s1, t1, c1, rfl, rfl, jF, a1, a2, a3⟩
 simp -dsimp -implicitDefEqProofs only [go_sem, ↓reduceIte, Tryz.f191, g0, g1]
 refine ⟨by omega, ?_⟩
 first | refine aG.mk (aHT env s1 (by omega)) ?_ | refine aE.mk (aHT env s1 (by omega)) ?_ | refine aG.a8 (aHT env s1 (by omega)) ?_ | refine aE.mk (a6.cK (aHT env s1 (by omega))) ?_
 simp -dsimp -implicitDefEqProofs only [go_sem, ↓reduceIte, Tryz.f191]
 rw [aK]
 refine aG.fF (hv.at g1 (a5 h nb (c6 p sz t1 c1)) nb t1 c1 (env ++ [s1]) funcs (aH _ _ _) (by omega) (by omega) (by rw [List.length_append]; exact o1) c7 hf (qH henv jF) (by rw [List.length_append]; show env.length + 1 ≤ _; omega)) ?_
 rintro r h' ⟨s2, t2, c2, rfl, rfl, j3, b1, b2, b3⟩
 simp -dsimp -implicitDefEqProofs only [go_sem, ↓reduceIte, Tryz.f191]
 refine ⟨_, a5 h nb (c6 p sz t2 c2), bQ (by rw [aK]; exact aB.le_refl _), s2, t2, c2, rfl, rfl, j3, by omega, b2, ?_⟩
 rw [aO9 h3 hk]
 exact a3.cQ b3
theorem aXE {p : aC} (hp : p.ok) {sz n : Nat} (hsz : 1 ≤ sz ∧ sz ≤ 1048576) (hv : oY p sz n) (h : aB) (nb st : Nat) (e : aA) (env : List (List Int)) (funcs : Int) (hb : h nb = some (c6 p sz st 0)) (hst : st < 3000) (hn : 3001 ≤ n + 1 + st)
  (hok : e.ok p funcs env.length) (c7 : 0 ≤ funcs) (hf : funcs ≤ p.aJ.length) (henv : ∀ s ∈ env, bC sz s) (hel : env.length ≤ 412 + st) (hk : e.aQ = 10) :
  eH Tryz.prog 191 [.op nb 4 0 0, .ip 5 [e.c] 0 0, bI env] h (RnQ h nb p sz st 0 (gR p sz (n + 1) st e env)) := by
 have hb' := hb
 unfold c6 at hb'
 have e3 : ((st : Int) = 3000) = False := eq_false (by omega)
 have ew : IntKind.i64.wrap ((st : Int) + 1) = ((st + 1 : Nat) : Int) := by rw [IntWalk.i64_in _ (by omega)]; rfl
 have hnode := (aA.cC _ _ _ _).1 hok
 have h3 : ¬ st = 3000 := by omega
 have hcl := aXC hp hv (a5 h nb (c6 p sz (st + 1) 0)) nb (st + 1) e env funcs (aH _ _ _) (by omega) (by omega) hok c7 hf henv (by omega) hk
 rw [aA.aN, hk] at hcl
 rw [aA.aN]
 refine gG 186 mG bT uL mix Tryz.func191 rfl (by kernel_rfl) (by simp) ?_
 simp -dsimp -implicitDefEqProofs only [go_sem, ↓reduceIte, Tryz.f191, hb', e3, ew, hk]
 refine aG.fF hcl ?_
 rintro r h' ⟨s2, t2, c2, rfl, rfl, j3, b1, b2, b3⟩
 simp -dsimp -implicitDefEqProofs only [go_sem, ↓reduceIte, Tryz.f191]
 refine ⟨_, a5 h nb (c6 p sz t2 c2), bQ (by rw [aK]; exact aB.le_refl _), s2, t2, c2, rfl, rfl, j3, by omega, b2, ?_⟩
 rw [aD1 h3 hk]
 exact b3
theorem aXF {p : aC} (hp : p.ok) {sz n : Nat} (hsz : 1 ≤ sz ∧ sz ≤ 1048576) (hv : oY p sz n) (h : aB) (nb st : Nat) (e : aA) (env : List (List Int)) (funcs : Int) (hb : h nb = some (c6 p sz st 0)) (hst : st < 3000) (hn : 3001 ≤ n + 1 + st)
  (hok : e.ok p funcs env.length) (c7 : 0 ≤ funcs) (hf : funcs ≤ p.aJ.length) (henv : ∀ s ∈ env, bC sz s) (hel : env.length ≤ 412 + st) (hk : e.aQ = 11) :
  eH Tryz.prog 191 [.op nb 4 0 0, .ip 5 [e.c] 0 0, bI env] h (RnQ h nb p sz st 0 (gR p sz (n + 1) st e env)) := by
 have hb' := hb
 unfold c6 at hb'
 have e3 : ((st : Int) = 3000) = False := eq_false (by omega)
 have ew : IntKind.i64.wrap ((st : Int) + 1) = ((st + 1 : Nat) : Int) := by rw [IntWalk.i64_in _ (by omega)]; rfl
 have hnode := (aA.cC _ _ _ _).1 hok
 have h3 : ¬ st = 3000 := by omega
 have hcl := aXD hp hv (a5 h nb (c6 p sz (st + 1) 0)) nb (st + 1) e env funcs (aH _ _ _) (by omega) (by omega) hok c7 hf henv (by omega) hk
 rw [aA.aN, hk] at hcl
 rw [aA.aN]
 refine gG 186 mG bT uL mix Tryz.func191 rfl (by kernel_rfl) (by simp) ?_
 simp -dsimp -implicitDefEqProofs only [go_sem, ↓reduceIte, Tryz.f191, hb', e3, ew, hk]
 refine aG.fF hcl ?_
 rintro r h' ⟨s2, t2, c2, rfl, rfl, j3, b1, b2, b3⟩
 simp -dsimp -implicitDefEqProofs only [go_sem, ↓reduceIte, Tryz.f191]
 refine ⟨_, a5 h nb (c6 p sz t2 c2), bQ (by rw [aK]; exact aB.le_refl _), s2, t2, c2, rfl, rfl, j3, by omega, b2, ?_⟩
 rw [aD2 h3 hk]
 exact b3
theorem aTK {e : aA} (h : e.aI.length = 1) : e.aI = [e.kU 0] := by
 have h0 := aA.qG (e := e) (i := 0) (by omega)
 rw [h0]
 apply List.ext_getElem (by simp [h])
 intro i hi hi2
 match i, hi2 with
 |0, _ => rfl
theorem aTL {e : aA} (h : e.aI.length = 2) : e.aI = [e.kU 0, e.kU 1] := by
 have h0 := aA.qG (e := e) (i := 0) (by omega)
 have h1 := aA.qG (e := e) (i := 1) (by omega)
 rw [h0, h1]
 apply List.ext_getElem (by simp [h])
 intro i hi hi2
 match i, hi2 with
 |0, _ => rfl
 |1, _ => rfl
theorem a2L {p : aC} {sz n st : Nat} {e : aA} {env : List (List Int)} (h3 : ¬ st = 3000) (hk : e.aQ = 7) (hl : e.aI.length = 1) : gR p sz (n + 1) st e env = (gR p sz n (st + 1) (e.kU 0) env).andThen fun v t => .ok (iP v 1000002, t) := by
 rw [mN h3 (by omega), aTK hl, hk]
 simp only [kB, Out.jW, Out.andThen_ok, opE]
 rfl
theorem wJ {p : aC} {sz n st : Nat} {e : aA} {env : List (List Int)} (h3 : ¬ st = 3000) (hk : e.aQ = 3 ∨ e.aQ = 4 ∨ e.aQ = 5 ∨ e.aQ = 6) (hl : e.aI.length = 2) : gR p sz (n + 1) st e env = (gR p sz n (st + 1) (e.kU 0) env).andThen fun a t => (gR p sz n t (e.kU 1) env).andThen fun b t => opE e.aQ [a, b] t := by
 rw [mN h3 (by omega), aTL hl]
 simp only [kB, Out.jW, Out.andThen_ok]
theorem a2M {p : aC} (hp : p.ok) {sz n : Nat} (hsz : 1 ≤ sz ∧ sz ≤ 1048576) (hv : oY p sz n) (h : aB) (nb st : Nat) (e : aA) (env : List (List Int)) (funcs : Int) (hb : h nb = some (c6 p sz st 0)) (hst : st < 3000) (hn : 3001 ≤ n + 1 + st)
  (hok : e.ok p funcs env.length) (c7 : 0 ≤ funcs) (hf : funcs ≤ p.aJ.length) (henv : ∀ s ∈ env, bC sz s) (hel : env.length ≤ 412 + st) (hk : e.aQ = 7) :
  eH Tryz.prog 191 [.op nb 4 0 0, .ip 5 [e.c] 0 0, bI env] h (RnQ h nb p sz st 0 (gR p sz (n + 1) st e env)) := by
 have hb' := hb
 unfold c6 at hb'
 have e3 : ((st : Int) = 3000) = False := eq_false (by omega)
 have ew : IntKind.i64.wrap ((st : Int) + 1) = ((st + 1 : Nat) : Int) := by rw [IntWalk.i64_in _ (by omega)]; rfl
 have hnode := (aA.cC _ _ _ _).1 hok
 have h3 : ¬ st = 3000 := by omega
 have hlen := cG hok (by omega)
 rw [hk, show eE 7 = 1 from rfl] at hlen
 have g0 : e.aI[Int.toNat 0]? = some (e.kU 0) := aA.fE (by omega)
 have o0 := aA.dW hok (i := 0) (by omega)
 rw [gI (by omega)] at o0
 rw [aA.aN]
 refine gG 186 mG bT uL mix Tryz.func191 rfl (by kernel_rfl) (by simp) ?_
 simp -dsimp -implicitDefEqProofs only [go_sem, ↓reduceIte, Tryz.f191, hb', e3, ew, hk, g0]
 refine ⟨by omega, ?_⟩
 refine aG.fF (hv.at g0 (a5 h nb (c6 p sz (st + 1) 0)) nb (st + 1) 0 env funcs (aH _ _ _) (by omega) (by omega) o0 c7 hf henv (by omega)) ?_
 rintro r h' ⟨s1, t1, c1, rfl, rfl, jF, a1, a2, a3⟩
 simp -dsimp -implicitDefEqProofs only [go_sem, ↓reduceIte, Tryz.f191]
 first | refine aG.mk (kD s1 1000002 (by unfold iI; omega) (by rw [jF.1]; omega) jF.2) ?_ | refine aE.mk (kD s1 1000002 (by unfold iI; omega) (by rw [jF.1]; omega) jF.2) ?_ | refine aG.a8 (kD s1 1000002 (by unfold iI; omega) (by rw [jF.1]; omega) jF.2) ?_ | refine aE.mk (a6.cK (kD s1 1000002 (by unfold iI; omega) (by rw [jF.1]; omega) jF.2)) ?_
 simp -dsimp -implicitDefEqProofs only [go_sem, ↓reduceIte, Tryz.f191]
 refine ⟨_, a5 h nb (c6 p sz t1 c1), bQ (by rw [aK]; exact aB.le_refl _), _, t1, c1, rfl, rfl, eQ _ jF, by omega, a2, ?_⟩
 rw [a2L h3 hk (by omega)]
 exact a3.cQ (fL _ _ _)
theorem a2N {p : aC} (hp : p.ok) {sz n : Nat} (hsz : 1 ≤ sz ∧ sz ≤ 1048576) (hv : oY p sz n) (h : aB) (nb st : Nat) (e : aA) (env : List (List Int)) (funcs : Int) (hb : h nb = some (c6 p sz st 0)) (hst : st < 3000) (hn : 3001 ≤ n + 1 + st)
  (hok : e.ok p funcs env.length) (c7 : 0 ≤ funcs) (hf : funcs ≤ p.aJ.length) (henv : ∀ s ∈ env, bC sz s) (hel : env.length ≤ 412 + st) (hk : e.aQ = 3) :
  eH Tryz.prog 191 [.op nb 4 0 0, .ip 5 [e.c] 0 0, bI env] h (RnQ h nb p sz st 0 (gR p sz (n + 1) st e env)) := by
 have hb' := hb
 unfold c6 at hb'
 have e3 : ((st : Int) = 3000) = False := eq_false (by omega)
 have ew : IntKind.i64.wrap ((st : Int) + 1) = ((st + 1 : Nat) : Int) := by rw [IntWalk.i64_in _ (by omega)]; rfl
 have hnode := (aA.cC _ _ _ _).1 hok
 have h3 : ¬ st = 3000 := by omega
 have hlen := cG hok (by omega)
 rw [hk, show eE 3 = 2 from rfl] at hlen
 have g0 : e.aI[Int.toNat 0]? = some (e.kU 0) := aA.fE (by omega)
 have g1 : e.aI[Int.toNat 1]? = some (e.kU 1) := aA.fE (by omega)
 have o0 := aA.dW hok (i := 0) (by omega)
 have o1 := aA.dW hok (i := 1) (by omega)
 rw [gI (by omega)] at o0 o1
 rw [aA.aN]
 refine gG 186 mG bT uL mix Tryz.func191 rfl (by kernel_rfl) (by simp) ?_
 simp -dsimp -implicitDefEqProofs only [go_sem, ↓reduceIte, Tryz.f191, hb', e3, ew, hk, g0]
 refine ⟨by omega, ?_⟩
 refine aG.fF (hv.at g0 (a5 h nb (c6 p sz (st + 1) 0)) nb (st + 1) 0 env funcs (aH _ _ _) (by omega) (by omega) o0 c7 hf henv (by omega)) ?_
 rintro r h' ⟨s1, t1, c1, rfl, rfl, jF, a1, a2, a3⟩
 simp -dsimp -implicitDefEqProofs only [go_sem, ↓reduceIte, Tryz.f191, g1]
 refine ⟨by omega, ?_⟩
 rw [aK]
 refine aG.fF (hv.at g1 (a5 h nb (c6 p sz t1 c1)) nb t1 c1 env funcs (aH _ _ _) (by omega) (by omega) o1 c7 hf henv (by omega)) ?_
 rintro r h' ⟨s2, t2, c2, rfl, rfl, j3, b1, b2, b3⟩
 rw [aK]
 simp -dsimp -implicitDefEqProofs only [go_sem, ↓reduceIte, Tryz.f191, hk]
 first | refine aG.mk (lI s1 s2 (by rw [jF.1, j3.1]) (by rw [jF.1]; omega) jF.2 j3.2) ?_ | refine aE.mk (lI s1 s2 (by rw [jF.1, j3.1]) (by rw [jF.1]; omega) jF.2 j3.2) ?_ | refine aG.a8 (lI s1 s2 (by rw [jF.1, j3.1]) (by rw [jF.1]; omega) jF.2 j3.2) ?_ | refine aE.mk (a6.cK (lI s1 s2 (by rw [jF.1, j3.1]) (by rw [jF.1]; omega) jF.2 j3.2)) ?_
 simp -dsimp -implicitDefEqProofs only [go_sem, ↓reduceIte, Tryz.f191]
 refine ⟨_, a5 h nb (c6 p sz t2 c2), bQ (aB.le_refl _), _, t2, c2, rfl, rfl, lP jF j3, by omega, b2, ?_⟩
 rw [wJ h3 (by omega) (by omega), hk]
 exact a3.cQ (b3.cQ (fL _ _ _))
theorem a2O {p : aC} (hp : p.ok) {sz n : Nat} (hsz : 1 ≤ sz ∧ sz ≤ 1048576) (hv : oY p sz n) (h : aB) (nb st : Nat) (e : aA) (env : List (List Int)) (funcs : Int) (hb : h nb = some (c6 p sz st 0)) (hst : st < 3000) (hn : 3001 ≤ n + 1 + st)
  (hok : e.ok p funcs env.length) (c7 : 0 ≤ funcs) (hf : funcs ≤ p.aJ.length) (henv : ∀ s ∈ env, bC sz s) (hel : env.length ≤ 412 + st) (hk : e.aQ = 4) :
  eH Tryz.prog 191 [.op nb 4 0 0, .ip 5 [e.c] 0 0, bI env] h (RnQ h nb p sz st 0 (gR p sz (n + 1) st e env)) := by
 have hb' := hb
 unfold c6 at hb'
 have e3 : ((st : Int) = 3000) = False := eq_false (by omega)
 have ew : IntKind.i64.wrap ((st : Int) + 1) = ((st + 1 : Nat) : Int) := by rw [IntWalk.i64_in _ (by omega)]; rfl
 have hnode := (aA.cC _ _ _ _).1 hok
 have h3 : ¬ st = 3000 := by omega
 have hlen := cG hok (by omega)
 rw [hk, show eE 4 = 2 from rfl] at hlen
 have g0 : e.aI[Int.toNat 0]? = some (e.kU 0) := aA.fE (by omega)
 have g1 : e.aI[Int.toNat 1]? = some (e.kU 1) := aA.fE (by omega)
 have o0 := aA.dW hok (i := 0) (by omega)
 have o1 := aA.dW hok (i := 1) (by omega)
 rw [gI (by omega)] at o0 o1
 rw [aA.aN]
 refine gG 186 mG bT uL mix Tryz.func191 rfl (by kernel_rfl) (by simp) ?_
 simp -dsimp -implicitDefEqProofs only [go_sem, ↓reduceIte, Tryz.f191, hb', e3, ew, hk, g0]
 refine ⟨by omega, ?_⟩
 refine aG.fF (hv.at g0 (a5 h nb (c6 p sz (st + 1) 0)) nb (st + 1) 0 env funcs (aH _ _ _) (by omega) (by omega) o0 c7 hf henv (by omega)) ?_
 rintro r h' ⟨s1, t1, c1, rfl, rfl, jF, a1, a2, a3⟩
 simp -dsimp -implicitDefEqProofs only [go_sem, ↓reduceIte, Tryz.f191, g1]
 refine ⟨by omega, ?_⟩
 rw [aK]
 refine aG.fF (hv.at g1 (a5 h nb (c6 p sz t1 c1)) nb t1 c1 env funcs (aH _ _ _) (by omega) (by omega) o1 c7 hf henv (by omega)) ?_
 rintro r h' ⟨s2, t2, c2, rfl, rfl, j3, b1, b2, b3⟩
 rw [aK]
 simp -dsimp -implicitDefEqProofs only [go_sem, ↓reduceIte, Tryz.f191, hk]
 first | refine aG.mk (oF s1 s2 (by rw [jF.1, j3.1]) (by rw [jF.1]; omega) jF.2 j3.2) ?_ | refine aE.mk (oF s1 s2 (by rw [jF.1, j3.1]) (by rw [jF.1]; omega) jF.2 j3.2) ?_ | refine aG.a8 (oF s1 s2 (by rw [jF.1, j3.1]) (by rw [jF.1]; omega) jF.2 j3.2) ?_ | refine aE.mk (a6.cK (oF s1 s2 (by rw [jF.1, j3.1]) (by rw [jF.1]; omega) jF.2 j3.2)) ?_
 simp -dsimp -implicitDefEqProofs only [go_sem, ↓reduceIte, Tryz.f191]
 refine ⟨_, a5 h nb (c6 p sz t2 c2), bQ (aB.le_refl _), _, t2, c2, rfl, rfl, oD jF j3, by omega, b2, ?_⟩
 rw [wJ h3 (by omega) (by omega), hk]
 exact a3.cQ (b3.cQ (fL _ _ _))
theorem a2P {p : aC} (hp : p.ok) {sz n : Nat} (hsz : 1 ≤ sz ∧ sz ≤ 1048576) (hv : oY p sz n) (h : aB) (nb st : Nat) (e : aA) (env : List (List Int)) (funcs : Int) (hb : h nb = some (c6 p sz st 0)) (hst : st < 3000) (hn : 3001 ≤ n + 1 + st)
  (hok : e.ok p funcs env.length) (c7 : 0 ≤ funcs) (hf : funcs ≤ p.aJ.length) (henv : ∀ s ∈ env, bC sz s) (hel : env.length ≤ 412 + st) (hk : e.aQ = 5) :
  eH Tryz.prog 191 [.op nb 4 0 0, .ip 5 [e.c] 0 0, bI env] h (RnQ h nb p sz st 0 (gR p sz (n + 1) st e env)) := by
 have hb' := hb
 unfold c6 at hb'
 have e3 : ((st : Int) = 3000) = False := eq_false (by omega)
 have ew : IntKind.i64.wrap ((st : Int) + 1) = ((st + 1 : Nat) : Int) := by rw [IntWalk.i64_in _ (by omega)]; rfl
 have hnode := (aA.cC _ _ _ _).1 hok
 have h3 : ¬ st = 3000 := by omega
 have hlen := cG hok (by omega)
 rw [hk, show eE 5 = 2 from rfl] at hlen
 have g0 : e.aI[Int.toNat 0]? = some (e.kU 0) := aA.fE (by omega)
 have g1 : e.aI[Int.toNat 1]? = some (e.kU 1) := aA.fE (by omega)
 have o0 := aA.dW hok (i := 0) (by omega)
 have o1 := aA.dW hok (i := 1) (by omega)
 rw [gI (by omega)] at o0 o1
 rw [aA.aN]
 refine gG 186 mG bT uL mix Tryz.func191 rfl (by kernel_rfl) (by simp) ?_
 simp -dsimp -implicitDefEqProofs only [go_sem, ↓reduceIte, Tryz.f191, hb', e3, ew, hk, g0]
 refine ⟨by omega, ?_⟩
 refine aG.fF (hv.at g0 (a5 h nb (c6 p sz (st + 1) 0)) nb (st + 1) 0 env funcs (aH _ _ _) (by omega) (by omega) o0 c7 hf henv (by omega)) ?_
 rintro r h' ⟨s1, t1, c1, rfl, rfl, jF, a1, a2, a3⟩
 simp -dsimp -implicitDefEqProofs only [go_sem, ↓reduceIte, Tryz.f191, g1]
 refine ⟨by omega, ?_⟩
 rw [aK]
 refine aG.fF (hv.at g1 (a5 h nb (c6 p sz t1 c1)) nb t1 c1 env funcs (aH _ _ _) (by omega) (by omega) o1 c7 hf henv (by omega)) ?_
 rintro r h' ⟨s2, t2, c2, rfl, rfl, j3, b1, b2, b3⟩
 rw [aK]
 simp -dsimp -implicitDefEqProofs only [go_sem, ↓reduceIte, Tryz.f191, hk]
 first | refine aG.mk (lJ s1 s2 (by rw [jF.1, j3.1]) (by rw [jF.1]; omega) jF.2 j3.2) ?_ | refine aE.mk (lJ s1 s2 (by rw [jF.1, j3.1]) (by rw [jF.1]; omega) jF.2 j3.2) ?_ | refine aG.a8 (lJ s1 s2 (by rw [jF.1, j3.1]) (by rw [jF.1]; omega) jF.2 j3.2) ?_ | refine aE.mk (a6.cK (lJ s1 s2 (by rw [jF.1, j3.1]) (by rw [jF.1]; omega) jF.2 j3.2)) ?_
 simp -dsimp -implicitDefEqProofs only [go_sem, ↓reduceIte, Tryz.f191]
 refine ⟨_, a5 h nb (c6 p sz t2 c2), bQ (aB.le_refl _), _, t2, c2, rfl, rfl, cW _ jF, by omega, b2, ?_⟩
 rw [wJ h3 (by omega) (by omega), hk]
 exact a3.cQ (b3.cQ (fL _ _ _))
theorem a2Q {p : aC} (hp : p.ok) {sz n : Nat} (hsz : 1 ≤ sz ∧ sz ≤ 1048576) (hv : oY p sz n) (h : aB) (nb st : Nat) (e : aA) (env : List (List Int)) (funcs : Int) (hb : h nb = some (c6 p sz st 0)) (hst : st < 3000) (hn : 3001 ≤ n + 1 + st)
  (hok : e.ok p funcs env.length) (c7 : 0 ≤ funcs) (hf : funcs ≤ p.aJ.length) (henv : ∀ s ∈ env, bC sz s) (hel : env.length ≤ 412 + st) (hk : e.aQ = 6) :
  eH Tryz.prog 191 [.op nb 4 0 0, .ip 5 [e.c] 0 0, bI env] h (RnQ h nb p sz st 0 (gR p sz (n + 1) st e env)) := by
 have hb' := hb
 unfold c6 at hb'
 have e3 : ((st : Int) = 3000) = False := eq_false (by omega)
 have ew : IntKind.i64.wrap ((st : Int) + 1) = ((st + 1 : Nat) : Int) := by rw [IntWalk.i64_in _ (by omega)]; rfl
 have hnode := (aA.cC _ _ _ _).1 hok
 have h3 : ¬ st = 3000 := by omega
 have hlen := cG hok (by omega)
 rw [hk, show eE 6 = 2 from rfl] at hlen
 have g0 : e.aI[Int.toNat 0]? = some (e.kU 0) := aA.fE (by omega)
 have g1 : e.aI[Int.toNat 1]? = some (e.kU 1) := aA.fE (by omega)
 have o0 := aA.dW hok (i := 0) (by omega)
 have o1 := aA.dW hok (i := 1) (by omega)
 rw [gI (by omega)] at o0 o1
 rw [aA.aN]
 refine gG 186 mG bT uL mix Tryz.func191 rfl (by kernel_rfl) (by simp) ?_
 simp -dsimp -implicitDefEqProofs only [go_sem, ↓reduceIte, Tryz.f191, hb', e3, ew, hk, g0]
 refine ⟨by omega, ?_⟩
 refine aG.fF (hv.at g0 (a5 h nb (c6 p sz (st + 1) 0)) nb (st + 1) 0 env funcs (aH _ _ _) (by omega) (by omega) o0 c7 hf henv (by omega)) ?_
 rintro r h' ⟨s1, t1, c1, rfl, rfl, jF, a1, a2, a3⟩
 simp -dsimp -implicitDefEqProofs only [go_sem, ↓reduceIte, Tryz.f191, g1]
 refine ⟨by omega, ?_⟩
 rw [aK]
 refine aG.fF (hv.at g1 (a5 h nb (c6 p sz t1 c1)) nb t1 c1 env funcs (aH _ _ _) (by omega) (by omega) o1 c7 hf henv (by omega)) ?_
 rintro r h' ⟨s2, t2, c2, rfl, rfl, j3, b1, b2, b3⟩
 rw [aK]
 have gs : s2[Int.toNat 0]? = some (s2.getD 0 0) := bR (by rw [j3.1]; omega)
 simp -dsimp -implicitDefEqProofs only [go_sem, ↓reduceIte, Tryz.f191, hk, c6, gs]
 refine ⟨fun hc => ?_, fun hc => ?_⟩
 ·subst hc
  refine ⟨by rw [j3.1]; omega, fun hz => ?_, fun hz => ?_⟩
  ·refine aG.fF (aPI (a5 h nb (c6 p sz t2 0)) nb p sz t2 0 6 (aH _ _ _) hsz.2) ?_
   rintro r h' ⟨rfl, rfl⟩
   simp -dsimp -implicitDefEqProofs only [go_sem, ↓reduceIte, Tryz.f191]
   refine ⟨_, a5 h nb (c6 p sz t2 6), bQ (by rw [aK]; exact aB.le_refl _), _, t2, 6, rfl, rfl, dF iZ, by omega, b2, ?_⟩
   rw [wJ h3 (by omega) (by omega), hk]
   refine a3.cQ (b3.cQ ?_)
   have : opE 6 [s1, s2] t2 = .error 6 := by rw [opE, if_neg (by decide), if_neg (by decide), if_neg (by decide), if_neg (by decide)]; exact if_pos hz
   rw [cA, this]
   exact dN _ _ (by decide)
  ·refine aG.mk (aAN s1 s2 (by rw [jF.1, j3.1]) (by rw [jF.1]; omega) (by rw [jF.1]; omega) jF.2 j3.2) ?_
   simp -dsimp -implicitDefEqProofs only [go_sem, ↓reduceIte, Tryz.f191]
   refine ⟨_, a5 h nb (c6 p sz t2 0), bQ (aB.le_refl _), _, t2, 0, rfl, rfl, mX _ jF, by omega, b2, ?_⟩
   rw [wJ h3 (by omega) (by omega), hk]
   refine a3.cQ (b3.cQ ?_)
   have : opE 6 [s1, s2] t2 = .ok (iK s1 s2, t2) := by rw [opE, if_neg (by decide), if_neg (by decide), if_neg (by decide), if_neg (by decide)]; exact if_neg hz
   rw [cA, this]
   exact jP _ _
 ·refine aG.fF (aPI (a5 h nb (c6 p sz t2 c2)) nb p sz t2 c2 6 (aH _ _ _) hsz.2) ?_
  rintro r h' ⟨rfl, rfl⟩
  simp -dsimp -implicitDefEqProofs only [go_sem, ↓reduceIte, Tryz.f191]
  refine ⟨_, a5 h nb (c6 p sz t2 c2), bQ (by rw [aK, if_neg hc]; exact aB.le_refl _), _, t2, c2, rfl, rfl, dF iZ, by omega, b2, ?_⟩
  rw [wJ h3 (by omega) (by omega), hk]
  exact a3.cQ (b3.cQ (by rw [gD _ hc]; exact dN _ _ hc))
theorem run {p : aC} (hp : p.ok) {sz : Nat} (hsz : 1 ≤ sz ∧ sz ≤ 1048576) : ∀ n, oY p sz n
 |0 => fun h nb st c e env funcs hb hst hn => by omega
 |n + 1 => fun h nb st c e env funcs hb hst hn hok c7 hf henv hel => by
  have hv := run hp hsz n
  by_cases hs : ¬ c = 0 ∨ st = 3000
  ·exact aQ2 hsz h nb st c e env hb hst hs
  have hc : c = 0 := Classical.byContradiction fun q => hs (.inl q)
  have h3 : st < 3000 := by
   rcases Nat.lt_or_ge st 3000 with h | h
   ·exact h
   ·exact absurd (.inr (by omega)) hs
  subst hc
  rcases oE ((aA.cC _ _ _ _).1 hok).1 with hk | hk | hk | hk | hk | hk | hk | hk | hk | hk | hk
  ·exact a2H hp hsz hv h nb st e env funcs hb h3 hn hok c7 hf henv hel hk
  ·exact a2I hp hsz hv h nb st e env funcs hb h3 hn hok c7 hf henv hel hk
  ·exact a2N hp hsz hv h nb st e env funcs hb h3 hn hok c7 hf henv hel hk
  ·exact a2O hp hsz hv h nb st e env funcs hb h3 hn hok c7 hf henv hel hk
  ·exact a2P hp hsz hv h nb st e env funcs hb h3 hn hok c7 hf henv hel hk
  ·exact a2Q hp hsz hv h nb st e env funcs hb h3 hn hok c7 hf henv hel hk
  ·exact a2M hp hsz hv h nb st e env funcs hb h3 hn hok c7 hf henv hel hk
  ·exact a2J hp hsz hv h nb st e env funcs hb h3 hn hok c7 hf henv hel hk
  ·exact a2K hp hsz hv h nb st e env funcs hb h3 hn hok c7 hf henv hel hk
  ·exact aXE hp hsz hv h nb st e env funcs hb h3 hn hok c7 hf henv hel hk
  ·exact aXF hp hsz hv h nb st e env funcs hb h3 hn hok c7 hf henv hel hk
theorem aKT (l : List Int) : dR ((l.map fun n => [I n]).map (List.map Cell.v)) = l.map fun n => [I n] := lF _
theorem gK {h h' : aB} {n sz : Nat} {x r : aD} (es : List (List aD)) (h0 : h n = none) (hl : (a5 h n (.row sz (es.map (List.map .v)))).le h') (hb : eF n sz es.length x = true) (hr : x.c9 n es = r) : Shift x h' r h := by
 subst hr
 refine (Shift.of (Sub.refl _) hl).trans ((Shift.c9 (aH _ _ _) (by rw [List.length_map]; exact hb)).trans ?_)
 rw [lF]
 exact bQ ((bF h0).2 ((bF h0).2 (aB.le_refl h)))
theorem aXG {h g : aB} {m b : Nat} (rows : List (List Int)) (s : List Int) (hm : h m = some (.row 1 ((s.map fun n => [I n]).map (List.map .v)))) (hb : h b = some (.row 1 ((rows.map fun s => [ints s]).map (List.map .v) ++ [[.v (.os m 1 0 s.length)]]))) (hne : ¬ b = m)
  (hg : g.le (a5 (a5 h m .gone) b (.row 1 (((rows ++ [s]).map fun s => [ints s]).map (List.map .v))))) : g.wk h := by
 have hat : ∀ (es : List (List Cell)) i j x, gO es i j = some x → ∃ e ∈ es, x ∈ e := fun es i j x hx => by
  obtain ⟨e, h1, h2⟩ := jH hx
  exact ⟨e, List.mem_of_getElem? h1, List.mem_of_getElem? h2⟩
 have hw := aB.aPJ hm hb hne (fun i j x hx => by
  obtain ⟨e, he, hxe⟩ := hat _ i j _ hx
  rcases List.mem_append.1 he with he | he
  ·obtain ⟨e1, h1, rfl⟩ := List.mem_map.1 he
   obtain ⟨r, _, rfl⟩ := List.mem_map.1 h1
   simp only [List.map_cons, List.map_nil, List.mem_singleton, Cell.v.injEq] at hxe
   subst hxe; rfl
  ·rw [List.mem_singleton.1 he] at hxe
   simp only [List.mem_singleton, Cell.v.injEq] at hxe
   subst hxe
   simp [eF])
 refine aB.wk.trans (aB.iX ?_) hw
 have : ((rows.map fun s => [ints s]).map (List.map Cell.v) ++ [[Cell.v (.os m 1 0 s.length)]]).map (List.map (Cell.uM m (dR ((s.map fun n => [I n]).map (List.map Cell.v))))) = ((rows ++ [s]).map fun s => [ints s]).map (List.map .v) := by
  rw [aKT, List.map_append, List.map_append, List.map_append]
  congr 1
  ·simp only [List.map_map]
   exact List.map_congr_left fun r _ => rfl
  ·simp only [List.map_cons, List.map_nil, Cell.uM, aD.c9, if_true, List.drop_zero]
   rw [List.take_of_length_le (by rw [List.length_map]; exact Nat.le_refl _)]
 rw [this]
 exact hg
theorem aPK {h g : aB} {b : Nat} {A : List (List Cell)} {x y : aD} (hb : h b = some (.row 1 (A ++ [[.v x]]))) (s : Sub x y) (hg : g.le (a5 h b (.row 1 (A ++ [[.v y]])))) : g.wk h :=
 aB.wk.trans (aB.iX hg) (aB.a14 (m := b) (fun q hq => aF _ _ _ _ hq) hb (aH _ _ _) (k7.sub (.cons s .nil) A))
@[go_sem] def aPL : List Nat := [0, 2, 3, 5, 7, 8, 9, 10]
@[go_sem] def aZ4 : List Nat := [6, 17]
theorem a2S (l : List (List Int)) (hl : l.length ≤ 1048576) (hne : ∀ s ∈ l, 0 < s.length) : dV Tryz.prog 103 [bI l] (ints (l.map fun s => s.getD 0 0)) := by
 have hc : (l.map fun s => s.getD 0 0).length = l.length := List.length_map _
 refine lO 21 aPL aZ4 bD mix Tryz.func103 rfl (by kernel_rfl) (by simp) fun h => ?_
 simp -dsimp -implicitDefEqProofs only [go_sem, ↓reduceIte, Tryz.f103]
 refine ⟨Nat.zero_lt_one, fun _ => ?_⟩
 refine bX (keep := aPL) (ib := aZ4) (mk := bD) mix (by kernel_rfl) (fun x : Nat × Option Nat => [(7, bI l), (8, I l.length), (3, eK 1 ((l.map fun s => s.getD 0 0).take x.1).length x.2), (9, I x.1)]) (fun x => gQ h (.row 1 ((((l.map fun s => s.getD 0 0).take x.1).map fun n => [I n]).map (List.map .v))) x.2) (fun x => x.1 ≤ l.length ∧ eP h ((l.map fun s => s.getD 0 0).take x.1) x.2) (fun x => l.length - x.1) (0, none) ⟨by simp [b8, bJ, eK], by simp only [aR]; exact aB.le_refl _, Nat.zero_le _, by simp [eP]⟩ ?_
 rintro ⟨k, o⟩ ⟨hk, hos⟩
 simp only at hk hos ⊢
 rcases Nat.lt_or_ge k l.length with hlt | hge
 ·have ea : l[k]? = some l[k] := List.getElem?_eq_getElem hlt
  have h0 := hne _ (List.getElem_mem hlt)
  have e0 : (l[k])[Int.toNat 0]? = some (l[k].getD 0 0) := bR h0
  have hy : (l.map fun s => s.getD 0 0).take (k + 1) = (l.map fun s => s.getD 0 0).take k ++ [(l.map fun s => s.getD 0 0)[k]'(by omega)] := List.take_succ_eq_append_getElem (by omega)
  have hlk : ((l.map fun s => s.getD 0 0).take k).length = k := by rw [List.length_take]; omega
  rw [List.getElem_map] at hy
  cases o with
  |none =>
   rw [a9] at hos
   rw [hos] at hy ⊢
   simp -dsimp -implicitDefEqProofs only [go_sem, ↓reduceIte, Tryz.f103, a7, aR, hlt, ea, e0]
   repeat' (with_reducible first | intro _ | refine And.intro ?_ ?_)
   all_goals try (first | omega | decide)
   rename_i b hb
   refine ⟨(k + 1, some b), ?_⟩
   simp only [hy]
   refine ⟨⟨rfl, ?_⟩, aB.le_refl _, ⟨by omega, hb⟩, by omega⟩
   rw [IntWalk.i64_in _ (by omega)]; rfl
  |some n =>
   rw [aU] at hos
   simp -dsimp -implicitDefEqProofs only [go_sem, ↓reduceIte, Tryz.f103, aT, aL, hlt, ea, e0]
   repeat' (with_reducible first | intro _ | refine And.intro ?_ ?_)
   all_goals try (first | omega | decide | exact Nat.le_refl _)
   rename_i b hb
   refine ⟨(k + 1, some b), ?_⟩
   simp only [hy, aL, aT, aU]
   refine ⟨⟨by rw [List.length_append]; rfl, ?_⟩, ?_, ⟨by omega, hb.2⟩, by omega⟩
   ·rw [IntWalk.i64_in _ (by omega)]; rfl
   ·rw [← eN]; exact kO hos
 ·have hk' : k = l.length := by omega
  subst hk'
  rw [List.take_of_length_le (by omega)] at hos ⊢
  cases o with
  |none =>
   rw [a9] at hos
   simp -dsimp -implicitDefEqProofs only [go_sem, ↓reduceIte, Tryz.f103, a7, aR, Nat.lt_irrefl, Int.lt_irrefl]
   rw [hos]
   exact Shift.of (Sub.loose _ _ _) (aB.le_refl _)
  |some n =>
   rw [aU] at hos
   simp -dsimp -implicitDefEqProofs only [go_sem, ↓reduceIte, Tryz.f103, aT, aL, Nat.lt_irrefl, Int.lt_irrefl]
   exact iL _ hos (aB.le_refl _) hc.symm
def zB (X : Out (List (List Int))) : List (List Int) × Int × Int := match X with
 | .ok (vs, t) => (vs, t, 0)
 | .error c => ([], 0, c)
theorem aKU {X : Out (List (List Int))} {l : List (List Int)} {t : Nat} {c : Int} (h : gT X l t c) : zB X = if c = 0 then (l, (t : Int), 0) else ([], 0, c) := by
 cases X with
 |ok p =>
  obtain ⟨w, u⟩ := p
  obtain ⟨rfl, rfl, rfl⟩ := h
  rfl
 |error d =>
  obtain ⟨rfl, h⟩ := h
  rw [if_neg h]; rfl
theorem vQ (l : List Int) (hl : l.length ≤ 1048576) : dV Tryz.prog 178 [ints l] (ints l) := sI (a18 l hl)
@[go_sem] def aPM : List Nat := [0, 1, 2, 3, 4, 8, 9, 10, 11, 12, 13, 15, 33, 39, 40, 41, 42]
@[go_sem] def aZ5 : List Nat := [4, 38, 48]
@[go_sem] def aZ6 : Marks := fun id => match id with | 4 => ([3], (.op 0 (.op 1 (.op 2 (.op 3 (.op 4 (.op 5 (.op 6 .nil))))))), []) | 11 => ([4], (.op 0 (.op 1 (.op 2 (.op 3 (.op 4 (.op 5 (.op 6 (.op 7 .nil)))))))), []) | _ => ([], .nil, [])
theorem aF6 {p : aC} (hp : p.ok) {sz : Nat} (hsz : 1 ≤ sz ∧ sz ≤ 1048576) (f : Int) (hf : 0 ≤ f ∧ f < p.aJ.length) (args : List (List Int)) (ha : ∀ s ∈ args, bC sz s) (hl : ∀ F, p.aJ[f.toNat]? = some F → (args.length : Int) = F.aX) :
  dV Tryz.prog 112 [.agg p.c, I f, bI args, I ((sz : Int) - 1)] (.gN [bI (zB (xU p sz f args)).1, I (zB (xU p sz f args)).2.1, I (zB (xU p sz f args)).2.2]) := by
 obtain ⟨F, ef, hF1, hF2, hF3, hF4⟩ := oM hp hf
 have hlF := hl F ef
 rw [aC.aN]
 refine lO 56 aPM aZ5 aZ6 mix Tryz.func112 rfl (by kernel_rfl) (by simp) fun h => ?_
 simp -dsimp -implicitDefEqProofs only [go_sem, ↓reduceIte, Tryz.f112, ef, aP.aN]
 intro nb zb
 refine ⟨hf.1, by omega, ?_⟩
 refine aG.fF (tV (value hp hsz 3001) (a5 h nb (cH p sz 0 0)) nb 0 0 F.aM args f (aH _ _ _) (by omega) (by omega) (by omega) (by rw [hlF]; exact hF4) hf.1 (by omega) ha (by omega)) ?_
 rintro r h' ⟨vs, t, c, rfl, rfl, hvl, hvs, a1, a2, a3⟩
 rw [cA, ← hF3] at a3
 rw [aKU (show gT (xU p sz f args) vs t c from a3)]
 rw [aK]
 have hBn : (a5 h nb (cH p sz t c)) nb = some (.row 4 [[.v (dB 3 aP.c p.aJ), .v (I ((sz : Int) - 1)), .v (I t), .v (I c)]]) := aH _ _ _
 have hBl : h.le (a5 h nb (cH p sz t c)) := aB.bF zb (aB.le_refl _)
 generalize a5 h nb (cH p sz t c) = hB at hBn hBl ⊢
 simp -dsimp -implicitDefEqProofs only [go_sem, ↓reduceIte, Tryz.f112, hBn]
 refine ⟨fun hc => ?_, fun hc => ?_⟩
 ·have hc' : ¬ c = 0 := by simpa using hc
  rw [if_neg hc']
  exact Shift.of (Sub.gN (.cons (Sub.nil 1 false) (.cons (.refl _) (.cons (.refl _) .nil)))) hBl
 ·have hc' : c = 0 := by simpa using hc
  subst hc'
  rw [if_pos rfl]
  refine ⟨Nat.zero_lt_one, fun _ => ?_⟩
  refine bX (keep := aPM) (ib := aZ5) (mk := aZ6) mix (by kernel_rfl) (fun x : Nat × Option Nat => [(11, .op nb 4 0 0), (13, eK 1 (vs.take x.1).length x.2), (39, bI vs), (40, I vs.length), (41, I x.1)]) (fun x => gQ hB (.row 1 (((vs.take x.1).map fun s => [ints s]).map (List.map .v))) x.2) (fun x => x.1 ≤ vs.length ∧ eP hB (vs.take x.1) x.2) (fun x => vs.length - x.1) (0, none) ⟨by simp [b8, bJ, eK], by simp only [aR]; exact aB.le_refl _, Nat.zero_le _, by simp [eP]⟩ ?_
  rintro ⟨k, o⟩ ⟨hk, hos⟩
  simp only at hk hos ⊢
  rcases Nat.lt_or_ge k vs.length with hlt | hge
  ·have ea : vs[k]? = some vs[k] := List.getElem?_eq_getElem hlt
   have hy : vs.take (k + 1) = vs.take k ++ [vs[k]] := List.take_succ_eq_append_getElem hlt
   have hlk : (vs.take k).length = k := by rw [List.length_take]; omega
   have hsk := hvs _ (List.getElem_mem hlt)
   cases o with
   |none =>
    rw [a9] at hos
    rw [hos] at hy ⊢
    simp -dsimp -implicitDefEqProofs only [go_sem, ↓reduceIte, Tryz.f112, a7, aR, hlt, ea]
    first | refine aG.mk (vQ vs[k] (by rw [hsk.1]; omega)) ?_ | refine aE.mk (vQ vs[k] (by rw [hsk.1]; omega)) ?_ | refine aG.a8 (vQ vs[k] (by rw [hsk.1]; omega)) ?_ | refine aE.mk (a6.cK (vQ vs[k] (by rw [hsk.1]; omega))) ?_
    simp -dsimp -implicitDefEqProofs only [go_sem, ↓reduceIte, Tryz.f112]
    repeat' (with_reducible first | intro _ | refine And.intro ?_ ?_)
    all_goals try (first | omega | decide)
    rename_i b hb
    refine ⟨(k + 1, some b), ?_⟩
    simp only [hy]
    refine ⟨⟨rfl, ?_⟩, aB.le_refl _, ⟨by omega, hb⟩, by omega⟩
    rw [IntWalk.i64_in _ (by omega)]; rfl
   |some n =>
    rw [aU] at hos
    simp -dsimp -implicitDefEqProofs only [go_sem, ↓reduceIte, Tryz.f112, aT, aL, hlt, ea]
    first | refine aG.mk (vQ vs[k] (by rw [hsk.1]; omega)) ?_ | refine aE.mk (vQ vs[k] (by rw [hsk.1]; omega)) ?_ | refine aG.a8 (vQ vs[k] (by rw [hsk.1]; omega)) ?_ | refine aE.mk (a6.cK (vQ vs[k] (by rw [hsk.1]; omega))) ?_
    simp -dsimp -implicitDefEqProofs only [go_sem, ↓reduceIte, Tryz.f112]
    repeat' (with_reducible first | intro _ | refine And.intro ?_ ?_)
    all_goals try (first | omega | decide | exact Nat.le_refl _)
    rename_i b hb
    refine ⟨(k + 1, some b), ?_⟩
    simp only [hy, aL, aT, aU]
    refine ⟨⟨by rw [List.length_append]; rfl, ?_⟩, ?_, ⟨by omega, hb.2⟩, by omega⟩
    ·rw [IntWalk.i64_in _ (by omega)]; rfl
    ·rw [← eN]; exact kO hos
  ·have hk' : k = vs.length := by omega
   subst hk'
   rw [List.take_length] at hos ⊢
   cases o with
   |none =>
    rw [a9] at hos
    subst hos
    simp -dsimp -implicitDefEqProofs only [go_sem, ↓reduceIte, Tryz.f112, a7, aR, Nat.lt_irrefl, hBn]
    exact Shift.of (Sub.gN (.cons (Sub.loose _ _ _) (.cons (.refl _) (.cons (.refl _) .nil)))) hBl
   |some n =>
    rw [aU] at hos
    have iA : ¬ n = nb := fun e => by rw [e, hBn] at hos; cases hos
    have jA : ¬ nb = n := Ne.symm iA
    have fP : (n = nb) = False := eq_false iA
    have fQ : (nb = n) = False := eq_false jA
    simp -dsimp -implicitDefEqProofs only [go_sem, ↓reduceIte, Tryz.f112, aT, aL, Nat.lt_irrefl, aF, fP, fQ, hBn]
    refine Shift.trans (gK (vs.map fun s => [ints s]) hos (aB.le_refl _) (by simp [eF, e8]) ?_) (bQ hBl)
    simp [aD.c9, kH, List.take_of_length_le]
@[go_sem] def aPO : List Nat := [0, 1, 4, 5, 7, 10, 11, 12, 13]
theorem a76 (n i : Nat) (hn : n ≤ 1048576) (hi : i < n) : dV Tryz.prog 139 [I n, .sl 1 [[I i]] true] (ints ((List.replicate n 0).set i 1)) := by
 refine lO 27 aPO bT bD mix Tryz.func139 rfl (by kernel_rfl) (by simp) fun h => ?_
 simp -dsimp -implicitDefEqProofs only [go_sem, ↓reduceIte, Tryz.f139]
 refine ⟨Nat.zero_lt_one, by omega, by omega, by omega, fun m hm => ?_⟩
 rw [rD]
 refine tP (keep := aPO) (ib := bT) (mk := bD) mix (by kernel_rfl) (fun k : Nat => [(5, .os m 1 0 n), (10, .sl 1 [[I i]] true), (11, I 1), (12, I k)]) m (fun k => .row 1 (((if k = 0 then List.replicate n (0 : Int) else (List.replicate n 0).set i 1).map fun n => [I n]).map (List.map .v))) (fun k => k ≤ 1) (fun k => 1 - k) 0 ⟨by simp [b8, bJ], by rw [aH, if_pos rfl], Nat.zero_le _⟩ ?_
 intro k hk
 rcases Nat.lt_or_ge k 1 with hlt | hge
 ·have : k = 0 := by omega
  subst this
  have e1 : (List.replicate n (0 : Int))[i]? = some 0 := by rw [List.getElem?_replicate, if_pos hi]
  rw [if_pos rfl]
  simp -dsimp -implicitDefEqProofs only [go_sem, ↓reduceIte, Tryz.f139, aK, e1, List.length_replicate, Int.toNat_natCast]
  refine ⟨fun _ => ⟨Nat.zero_lt_one, hi, hi, 1, by decide, ?_, by omega, by omega⟩, fun q => absurd (by decide) q⟩
  rw [if_neg (by decide), show (IntKind.i64.wrap (0 + 1)).tmod 1000003 = 1 by decide, ← pC I]
  exact aB.le_refl _
 ·have : k = 1 := by omega
  subst this
  rw [if_neg (by decide)]
  simp -dsimp -implicitDefEqProofs only [go_sem, ↓reduceIte, Tryz.f139, Int.lt_irrefl]
  refine ⟨fun q => absurd q (by decide), fun _ => ?_⟩
  rw [aK]
  exact iL ((List.replicate n 0).set i 1) hm (aB.le_refl _) (by rw [List.length_set, List.length_replicate])
theorem w2 : IntKind.i64.wrap (1 + 1) = 2 := by decide
theorem n0 : Int.toNat 0 = 0 := rfl
theorem n1 : Int.toNat 1 = 1 := rfl
theorem n2 : Int.toNat 2 = 2 := rfl
def vR (n i : Nat) : List Int := (List.replicate n 0).set i 1
def aF7 (X : Out (List (List Int))) : List Int × Int × Int := match X with
 | .ok (vs, t) => (vs.map (·.getD 0 0), t, 0)
 | .error c => ([], 0, c)
theorem aKW {X : Out (List (List Int))} {l : List (List Int)} {t : Nat} {c : Int} (h : gT X l t c) : aF7 X = if c = 0 then (l.map (·.getD 0 0), (t : Int), 0) else ([], 0, c) := by
 cases X with
 |ok p =>
  obtain ⟨w, u⟩ := p
  obtain ⟨rfl, rfl, rfl⟩ := h
  rfl
 |error d =>
  obtain ⟨rfl, h⟩ := h
  rw [if_neg h]; rfl
theorem fK (l : List Int) (hl : l.length ≤ 1048576) : dV Tryz.prog 128 [ints l] (ints l) := sI (aM0 l hl)
@[go_sem] def aHV : List Nat := [0, 1, 2, 6, 7, 8, 9, 10, 11, 12, 13, 14, 22, 46, 56]
@[go_sem] def aXH : List Nat := [18, 30, 31, 47, 52, 66]
@[go_sem] def aXI : Marks := fun id => match id with | 9 => ([4], (.op 0 (.op 1 (.op 2 (.op 3 (.op 4 (.op 5 (.op 6 (.op 7 .nil)))))))), []) | 15 => ([4], (.op 0 (.op 1 (.op 2 (.op 3 (.op 4 (.op 5 (.op 6 (.op 7 .nil)))))))), []) | _ => ([], .nil, [])
theorem aPP {p : aC} (hp : p.ok) (f : Int) (hf : 0 ≤ f ∧ f < p.aJ.length) (args : List Int) (na : dP args) (hal : args.length ≤ 12) (hl : ∀ F, p.aJ[f.toNat]? = some F → (args.length : Int) = F.aX) :
  dV Tryz.prog 87 [.ip 1 [p.c] 0 0, I f, ints args] (.gN [ints (aF7 (xU p 1 f (args.map fun n => [n]))).1, I (aF7 (xU p 1 f (args.map fun n => [n]))).2.1, I (aF7 (xU p 1 f (args.map fun n => [n]))).2.2]) := by
 obtain ⟨F, ef, hF1, hF2, hF3, hF4⟩ := oM hp hf
 have hlF := hl F ef
 rw [aC.aN]
 refine lO 73 aHV aXH aXI mix Tryz.func87 rfl (by kernel_rfl) (by simp) fun h => ?_
 simp -dsimp -implicitDefEqProofs only [go_sem, ↓reduceIte, Tryz.f87]
 intro nb zb
 refine ⟨Nat.zero_lt_one, ?_⟩
 have hbd : bL.row 4 [[Cell.v (.ip 1 [[dB 3 aP.c p.aJ]] 0 0), Cell.v (I 1), Cell.v (I 0), Cell.v (I 0)]] = c6 p 1 0 0 := rfl
 rw [hbd]
 have hB0 : (a5 h nb (c6 p 1 0 0)) nb = some (c6 p 1 0 0) := aH _ _ _
 have hBl : h.le (a5 h nb (c6 p 1 0 0)) := aB.bF zb (aB.le_refl _)
 generalize hgB : a5 h nb (c6 p 1 0 0) = hB at hB0 hBl ⊢
 refine aKH (keep := aHV) (ib := aXH) (mk := aXI) mix (by kernel_rfl) (fun x : Nat × Option Nat => [(0, .ip 1 [[dB 3 aP.c p.aJ]] 0 0), (1, I f), (2, ints args), (9, .op nb 4 0 0), (10, eK 1 (args.take x.1).length x.2), (11, I x.1)]) (fun x => gQ hB (.row 1 ((((args.take x.1).map fun n => [n]).map fun s => [ints s]).map (List.map .v))) x.2) (fun x => x.1 ≤ args.length ∧ eP hB (args.take x.1) x.2) (fun x => args.length - x.1) (0, none) ⟨by simp [b8, bJ, eK], by simp only [aR]; exact aB.iX (aB.le_refl _), Nat.zero_le _, by simp [eP]⟩ ?_
 rintro ⟨k, o⟩ ⟨hk, hos⟩
 simp only at hk hos ⊢
 rcases Nat.lt_or_ge k args.length with hlt | hge
 ·have ea : args[k]? = some args[k] := List.getElem?_eq_getElem hlt
  have hy : args.take (k + 1) = args.take k ++ [args[k]] := List.take_succ_eq_append_getElem hlt
  have hlk : (args.take k).length = k := by rw [List.length_take]; omega
  cases o with
  |none =>
   rw [a9] at hos
   rw [hos] at hy ⊢
   simp -dsimp -implicitDefEqProofs only [go_sem, ↓reduceIte, Tryz.f87, a7, aR, hlt, ea]
   intro _
   refine ⟨Nat.zero_lt_one, Nat.zero_lt_one, Nat.zero_lt_one, Nat.zero_lt_one, Nat.zero_lt_one, fun b hb => ⟨(k + 1, some b), ?_⟩⟩
   simp only [hy]
   refine ⟨⟨rfl, by rw [IntWalk.i64_in _ (by omega)]; rfl⟩, aPK (A := []) (x := .sl 1 [[I args[k]]] true) (y := ints [args[k]]) (aH _ _ _) (Sub.loose _ _ _) (by rw [aK]; exact aB.le_refl _), ⟨by omega, hb⟩, by omega⟩
  |some n =>
   rw [aU] at hos
   simp -dsimp -implicitDefEqProofs only [go_sem, ↓reduceIte, Tryz.f87, aT, aL, hlt, ea]
   intro _
   refine ⟨Nat.zero_lt_one, Nat.zero_lt_one, Nat.zero_lt_one, Nat.zero_lt_one, Nat.zero_lt_one, Nat.le_refl _, by omega, by omega, fun b hb => ⟨(k + 1, some b), ?_⟩⟩
   simp only [hy, aL, aT, aU]
   refine ⟨⟨by rw [List.length_append]; rfl, by rw [IntWalk.i64_in _ (by omega)]; rfl⟩, aPK (x := .sl 1 [[I args[k]]] true) (y := ints [args[k]]) (aH _ _ _) (Sub.loose _ _ _) ?_, ⟨by omega, hb.2⟩, by omega⟩
   have hl2 : (args.take k).length = ((args.take k).map fun n => [n]).length := by rw [List.length_map]
   rw [aK, List.map_append, show ((args.take k).map fun n => [n]) ++ [args[k]].map (fun n => [n]) = ((args.take k).map fun n => [n]) ++ [[args[k]]] from rfl, ← eN ints, hl2]
   exact kO hos
 have hk' : k = args.length := by omega
 subst hk'
 rw [List.take_length] at hos ⊢
 have hserA : ∀ s ∈ args.map (fun n => [n]), bC 1 s := fun s hs => by
  obtain ⟨n, hn, rfl⟩ := List.mem_map.1 hs
  refine ⟨rfl, fun x hx => ?_⟩
  rw [List.mem_singleton.1 hx]
  exact na n hn
 have hlA : ((args.map fun n => [n]).length : Int) = F.aX := by rw [List.length_map]; exact hlF
 have hnbB : ∀ {m : Nat}, hB m = none → ¬ nb = m := fun hm e => by rw [← e, hB0] at hm; cases hm
 cases o with
 |none =>
  rw [a9] at hos
  subst hos
  simp -dsimp -implicitDefEqProofs only [go_sem, ↓reduceIte, Tryz.f87, a7, aR, Nat.lt_irrefl, Int.lt_irrefl, ef]
  refine ⟨hf.1, by omega, ?_⟩
  have ho := aB8 (run hp (by decide : 1 ≤ 1 ∧ 1 ≤ 1048576) 3001) hB nb 0 0 F [] f hB0 (by omega) (by omega) (by omega) (by rw [List.length_map] at hlA; rw [show (([] : List (List Int)).length : Int) = F.aX from hlA]; exact hF4) hf.1 (by omega) (by simp) (by simp)
  refine aG.fF (eH.sub (.cons (.refl _) (.cons (Sub.ip (by rw [List.getElem?_map, ef]; rfl) (by simp [aP.aN])) (.cons (Sub.loose _ _ _) .nil))) ho) ?_
  rintro r h' ⟨vs, t, c, rfl, rfl, hvl, hvs, a1, a2, a3⟩
  have hCl : h.le (a5 hB nb (c6 p 1 t c)) := aB.bF zb hBl
  have hCn : (a5 hB nb (c6 p 1 t c)) nb = some (.row 4 [[.v (.ip 1 [p.c] 0 0), .v (I 1), .v (I t), .v (I c)]]) := aH _ _ _
  generalize a5 hB nb (c6 p 1 t c) = hC at hCn hCl ⊢
  rw [cA, ← hF3] at a3
  simp -dsimp -implicitDefEqProofs only [go_sem, ↓reduceIte, Tryz.f87, hCn]
  have qQ := aKW (show gT (xU p 1 f _) vs t c from a3)
  refine ⟨fun hc => ⟨Nat.zero_lt_one, ?_⟩, fun hc => ⟨Nat.zero_lt_one, ?_⟩⟩
  ·try simp only [List.map_nil]
   rw [qQ, if_neg hc]
   exact Shift.of (Sub.gN (.cons (Sub.loose _ _ _) (.cons (.refl _) (.cons (.refl _) .nil)))) hCl
  subst hc
  rw [if_pos rfl] at qQ
  have hcv : (vs.map fun s => s.getD 0 0).length = vs.length := List.length_map _
  refine bX (keep := aHV) (ib := aXH) (mk := aXI) mix (by kernel_rfl) (fun x : Nat × Option Nat => [(9, .op nb 4 0 0), (12, bI vs), (13, eK 1 ((vs.map fun s => s.getD 0 0).take x.1).length x.2), (14, I x.1)]) (fun x => gQ hC (.row 1 ((((vs.map fun s => s.getD 0 0).take x.1).map fun n => [I n]).map (List.map .v))) x.2) (fun x => x.1 ≤ vs.length ∧ eP hC ((vs.map fun s => s.getD 0 0).take x.1) x.2) (fun x => vs.length - x.1) (0, none) ⟨by simp [b8, bJ, eK], by simp only [aR]; exact aB.le_refl _, Nat.zero_le _, by simp [eP]⟩ ?_
  rintro ⟨k, o⟩ ⟨hk, hos⟩
  simp only at hk hos ⊢
  rcases Nat.lt_or_ge k vs.length with hlt | hge
  ·have ea : vs[k]? = some vs[k] := List.getElem?_eq_getElem hlt
   have h0 := hvs _ (List.getElem_mem hlt)
   have e0 : (vs[k])[Int.toNat 0]? = some (vs[k].getD 0 0) := bR (by rw [h0.1]; decide)
   have h0l := h0.1
   have hy : (vs.map fun s => s.getD 0 0).take (k + 1) = (vs.map fun s => s.getD 0 0).take k ++ [(vs.map fun s => s.getD 0 0)[k]'(by omega)] := List.take_succ_eq_append_getElem (by omega)
   have hlk : ((vs.map fun s => s.getD 0 0).take k).length = k := by rw [List.length_take]; omega
   rw [List.getElem_map] at hy
   cases o with
   |none =>
    rw [a9] at hos
    rw [hos] at hy ⊢
    simp -dsimp -implicitDefEqProofs only [go_sem, ↓reduceIte, Tryz.f87, a7, aR, hlt, ea, e0]
    repeat' (with_reducible first | intro _ | refine And.intro ?_ ?_)
    all_goals try (first | omega | decide)
    rename_i b hb
    refine ⟨(k + 1, some b), ?_⟩
    simp only [hy]
    refine ⟨⟨rfl, ?_⟩, aB.le_refl _, ⟨by omega, hb⟩, by omega⟩
    rw [IntWalk.i64_in _ (by omega)]; rfl
   |some n =>
    rw [aU] at hos
    simp -dsimp -implicitDefEqProofs only [go_sem, ↓reduceIte, Tryz.f87, aT, aL, hlt, ea, e0]
    repeat' (with_reducible first | intro _ | refine And.intro ?_ ?_)
    all_goals try (first | omega | decide | exact Nat.le_refl _)
    rename_i b hb
    refine ⟨(k + 1, some b), ?_⟩
    simp only [hy, aL, aT, aU]
    refine ⟨⟨by rw [List.length_append]; rfl, ?_⟩, ?_, ⟨by omega, hb.2⟩, by omega⟩
    ·rw [IntWalk.i64_in _ (by omega)]; rfl
    ·rw [← eN]; exact kO hos
  ·have hk' : k = vs.length := by omega
   subst hk'
   rw [List.take_of_length_le (by omega)] at hos ⊢
   cases o with
   |none =>
    rw [a9] at hos
    simp -dsimp -implicitDefEqProofs only [go_sem, ↓reduceIte, Tryz.f87, a7, aR, Nat.lt_irrefl, Int.lt_irrefl, hCn]
    intro _
    try simp only [List.map_nil]
    rw [qQ, hos]
    exact Shift.of (Sub.gN (.cons (Sub.loose _ _ _) (.cons (.refl _) (.cons (.refl _) .nil)))) hCl
   |some n =>
    rw [aU] at hos
    have iA : ¬ n = nb := fun e => by rw [e, hCn] at hos; cases hos
    have jA : ¬ nb = n := Ne.symm iA
    have fP : (n = nb) = False := eq_false iA
    have fQ : (nb = n) = False := eq_false jA
    simp -dsimp -implicitDefEqProofs only [go_sem, ↓reduceIte, Tryz.f87, aT, aL, Nat.lt_irrefl, Int.lt_irrefl, aF, fP, fQ, hCn]
    intro _
    try simp only [List.map_nil]
    rw [qQ]
    refine Shift.trans (gK ((vs.map fun s => s.getD 0 0).map fun n => [I n]) hos (aB.le_refl _) (by simp [eF, e8]) ?_) (bQ hCl)
    simp [aD.c9, kH, List.take_of_length_le]
 |some n =>
  rw [aU] at hos
  simp -dsimp -implicitDefEqProofs only [go_sem, ↓reduceIte, Tryz.f87, aT, aL, Nat.lt_irrefl, Int.lt_irrefl, ef]
  intro _
  refine ⟨hf.1, by omega, ?_⟩
  have hnn := hnbB hos
  refine aG.aBI rfl rfl hnn (by rw [List.length_map, List.length_map]) hos ?_
  have ho := aB8 (run hp (by decide : 1 ≤ 1 ∧ 1 ≤ 1048576) 3001) (a5 hB n .gone) nb 0 0 F (args.map fun n => [n]) f (by rw [aF _ _ _ _ hnn]; exact hB0) (by omega) (by omega) (by omega) (by rw [hlA]; exact hF4) hf.1 (by omega) hserA (by rw [List.length_map]; omega)
  refine eH.mono (eH.sub (.cons (.refl _) (.cons (Sub.ip (by rw [List.getElem?_map, ef]; rfl) (by simp [aP.aN])) (.cons (.refl _) .nil))) ho) ?_
  rintro r h' ⟨vs, t, c, rfl, rfl, hvl, hvs, a1, a2, a3⟩
  have hhn : h n = none := by rw [← hgB, aF _ _ _ _ (Ne.symm hnn)] at hos; exact hos
  have hCl : h.le (a5 (a5 hB n .gone) nb (c6 p 1 t c)) := aB.bF zb (aB.bF hhn hBl)
  have hCn : (a5 (a5 hB n .gone) nb (c6 p 1 t c)) nb = some (.row 4 [[.v (.ip 1 [p.c] 0 0), .v (I 1), .v (I t), .v (I c)]]) := aH _ _ _
  generalize a5 (a5 hB n .gone) nb (c6 p 1 t c) = hC at hCn hCl ⊢
  rw [cA, ← hF3] at a3
  simp -dsimp -implicitDefEqProofs only [go_sem, ↓reduceIte, Tryz.f87, hCn]
  have qQ := aKW (show gT (xU p 1 f _) vs t c from a3)
  refine ⟨fun hc => ⟨Nat.zero_lt_one, ?_⟩, fun hc => ⟨Nat.zero_lt_one, ?_⟩⟩
  ·try simp only [List.map_nil]
   rw [qQ, if_neg hc]
   exact Shift.of (Sub.gN (.cons (Sub.loose _ _ _) (.cons (.refl _) (.cons (.refl _) .nil)))) hCl
  subst hc
  rw [if_pos rfl] at qQ
  have hcv : (vs.map fun s => s.getD 0 0).length = vs.length := List.length_map _
  refine bX (keep := aHV) (ib := aXH) (mk := aXI) mix (by kernel_rfl) (fun x : Nat × Option Nat => [(9, .op nb 4 0 0), (12, bI vs), (13, eK 1 ((vs.map fun s => s.getD 0 0).take x.1).length x.2), (14, I x.1)]) (fun x => gQ hC (.row 1 ((((vs.map fun s => s.getD 0 0).take x.1).map fun n => [I n]).map (List.map .v))) x.2) (fun x => x.1 ≤ vs.length ∧ eP hC ((vs.map fun s => s.getD 0 0).take x.1) x.2) (fun x => vs.length - x.1) (0, none) ⟨by simp [b8, bJ, eK], by simp only [aR]; exact aB.le_refl _, Nat.zero_le _, by simp [eP]⟩ ?_
  rintro ⟨k, o⟩ ⟨hk, hos⟩
  simp only at hk hos ⊢
  rcases Nat.lt_or_ge k vs.length with hlt | hge
  ·have ea : vs[k]? = some vs[k] := List.getElem?_eq_getElem hlt
   have h0 := hvs _ (List.getElem_mem hlt)
   have e0 : (vs[k])[Int.toNat 0]? = some (vs[k].getD 0 0) := bR (by rw [h0.1]; decide)
   have h0l := h0.1
   have hy : (vs.map fun s => s.getD 0 0).take (k + 1) = (vs.map fun s => s.getD 0 0).take k ++ [(vs.map fun s => s.getD 0 0)[k]'(by omega)] := List.take_succ_eq_append_getElem (by omega)
   have hlk : ((vs.map fun s => s.getD 0 0).take k).length = k := by rw [List.length_take]; omega
   rw [List.getElem_map] at hy
   cases o with
   |none =>
    rw [a9] at hos
    rw [hos] at hy ⊢
    simp -dsimp -implicitDefEqProofs only [go_sem, ↓reduceIte, Tryz.f87, a7, aR, hlt, ea, e0]
    repeat' (with_reducible first | intro _ | refine And.intro ?_ ?_)
    all_goals try (first | omega | decide)
    rename_i b hb
    refine ⟨(k + 1, some b), ?_⟩
    simp only [hy]
    refine ⟨⟨rfl, ?_⟩, aB.le_refl _, ⟨by omega, hb⟩, by omega⟩
    rw [IntWalk.i64_in _ (by omega)]; rfl
   |some n =>
    rw [aU] at hos
    simp -dsimp -implicitDefEqProofs only [go_sem, ↓reduceIte, Tryz.f87, aT, aL, hlt, ea, e0]
    repeat' (with_reducible first | intro _ | refine And.intro ?_ ?_)
    all_goals try (first | omega | decide | exact Nat.le_refl _)
    rename_i b hb
    refine ⟨(k + 1, some b), ?_⟩
    simp only [hy, aL, aT, aU]
    refine ⟨⟨by rw [List.length_append]; rfl, ?_⟩, ?_, ⟨by omega, hb.2⟩, by omega⟩
    ·rw [IntWalk.i64_in _ (by omega)]; rfl
    ·rw [← eN]; exact kO hos
  ·have hk' : k = vs.length := by omega
   subst hk'
   rw [List.take_of_length_le (by omega)] at hos ⊢
   cases o with
   |none =>
    rw [a9] at hos
    simp -dsimp -implicitDefEqProofs only [go_sem, ↓reduceIte, Tryz.f87, a7, aR, Nat.lt_irrefl, Int.lt_irrefl, hCn]
    intro _
    try simp only [List.map_nil]
    rw [qQ, hos]
    exact Shift.of (Sub.gN (.cons (Sub.loose _ _ _) (.cons (.refl _) (.cons (.refl _) .nil)))) hCl
   |some n =>
    rw [aU] at hos
    have iA : ¬ n = nb := fun e => by rw [e, hCn] at hos; cases hos
    have jA : ¬ nb = n := Ne.symm iA
    have fP : (n = nb) = False := eq_false iA
    have fQ : (nb = n) = False := eq_false jA
    simp -dsimp -implicitDefEqProofs only [go_sem, ↓reduceIte, Tryz.f87, aT, aL, Nat.lt_irrefl, Int.lt_irrefl, aF, fP, fQ, hCn]
    intro _
    try simp only [List.map_nil]
    rw [qQ]
    refine Shift.trans (gK ((vs.map fun s => s.getD 0 0).map fun n => [I n]) hos (aB.le_refl _) (by simp [eF, e8]) ?_) (bQ hCl)
    simp [aD.c9, kH, List.take_of_length_le]
@[go_sem] def aTM : List Nat := [0, 1, 2, 3, 8, 9, 10, 11, 12, 13, 31, 41]
@[go_sem] def a77 : List Nat := [32, 37, 50]
@[go_sem] def a78 : Marks := fun id => match id with | 4 => ([4], (.op 0 (.op 1 (.op 2 (.op 3 (.op 4 (.op 5 (.op 6 .nil))))))), []) | _ => ([], .nil, [])
theorem aXJ {p : aC} (hp : p.ok) {sz : Nat} (hsz : 1 ≤ sz ∧ sz ≤ 1048576) (f : Int) (hf : 0 ≤ f ∧ f < p.aJ.length) (args : List (List Int)) (ha : ∀ s ∈ args, bC sz s) (hl : ∀ F, p.aJ[f.toNat]? = some F → (args.length : Int) = F.aX) :
  dV Tryz.prog 69 [.ip 1 [p.c] 0 0, I f, bI args, I sz] (.gN [bI (zB (xU p sz f args)).1, I (zB (xU p sz f args)).2.2]) := by
 obtain ⟨F, ef, hF1, hF2, hF3, hF4⟩ := oM hp hf
 have hlF := hl F ef
 rw [aC.aN]
 refine lO 53 aTM a77 a78 mix Tryz.func69 rfl (by kernel_rfl) (by simp) fun h => ?_
 simp -dsimp -implicitDefEqProofs only [go_sem, ↓reduceIte, Tryz.f69, ef]
 intro nb zb
 refine ⟨hf.1, by omega, ?_⟩
 refine aG.fF (eH.sub (.cons (.refl _) (.cons (Sub.ip (by rw [List.getElem?_map, ef]; rfl) (by simp [aP.aN])) (.cons (.refl _) .nil))) (aB8 (run hp hsz 3001) (a5 h nb (c6 p sz 0 0)) nb 0 0 F args f (aH _ _ _) (by omega) (by omega) (by omega) (by rw [hlF]; exact hF4) hf.1 (by omega) ha (by omega))) ?_
 rintro r h' ⟨vs, t, c, rfl, rfl, hvl, hvs, a1, a2, a3⟩
 rw [cA, ← hF3] at a3
 have qQ := aKU (show gT (xU p sz f args) vs t c from a3)
 rw [aK]
 have hBn : (a5 h nb (c6 p sz t c)) nb = some (.row 4 [[.v (.ip 1 [p.c] 0 0), .v (I sz), .v (I t), .v (I c)]]) := aH _ _ _
 have hBl : h.le (a5 h nb (c6 p sz t c)) := aB.bF zb (aB.le_refl _)
 generalize a5 h nb (c6 p sz t c) = hB at hBn hBl ⊢
 simp -dsimp -implicitDefEqProofs only [go_sem, ↓reduceIte, Tryz.f69, hBn]
 refine ⟨fun hc => ⟨Nat.zero_lt_one, ?_⟩, fun hc => ⟨Nat.zero_lt_one, ?_⟩⟩
 ·rw [qQ, if_neg hc]
  exact Shift.of (Sub.gN (.cons (Sub.loose _ _ _) (.cons (.refl _) .nil))) hBl
 subst hc
 rw [if_pos rfl] at qQ
 refine bX (keep := aTM) (ib := a77) (mk := a78) mix (by kernel_rfl) (fun x : Nat × Option Nat => [(10, .op nb 4 0 0), (11, bI vs), (12, eK 1 (vs.take x.1).length x.2), (13, I x.1)]) (fun x => gQ hB (.row 1 (((vs.take x.1).map fun s => [ints s]).map (List.map .v))) x.2) (fun x => x.1 ≤ vs.length ∧ eP hB (vs.take x.1) x.2) (fun x => vs.length - x.1) (0, none) ⟨by simp [b8, bJ, eK], by simp only [aR]; exact aB.le_refl _, Nat.zero_le _, by simp [eP]⟩ ?_
 rintro ⟨k, o⟩ ⟨hk, hos⟩
 simp only at hk hos ⊢
 rcases Nat.lt_or_ge k vs.length with hlt | hge
 ·have ea : vs[k]? = some vs[k] := List.getElem?_eq_getElem hlt
  have hy : vs.take (k + 1) = vs.take k ++ [vs[k]] := List.take_succ_eq_append_getElem hlt
  have hlk : (vs.take k).length = k := by rw [List.length_take]; omega
  have hsk := hvs _ (List.getElem_mem hlt)
  cases o with
  |none =>
   rw [a9] at hos
   rw [hos] at hy ⊢
   simp -dsimp -implicitDefEqProofs only [go_sem, ↓reduceIte, Tryz.f69, a7, aR, hlt, ea]
   intro _
   first | refine aG.mk (fK vs[k] (by rw [hsk.1]; omega)) ?_ | refine aE.mk (fK vs[k] (by rw [hsk.1]; omega)) ?_ | refine aG.a8 (fK vs[k] (by rw [hsk.1]; omega)) ?_ | refine aE.mk (a6.cK (fK vs[k] (by rw [hsk.1]; omega))) ?_
   simp -dsimp -implicitDefEqProofs only [go_sem, ↓reduceIte, Tryz.f69]
   repeat' (with_reducible first | intro _ | refine And.intro ?_ ?_)
   all_goals try (first | omega | decide)
   rename_i b hb
   refine ⟨(k + 1, some b), ?_⟩
   simp only [hy]
   refine ⟨⟨rfl, ?_⟩, aB.le_refl _, ⟨by omega, hb⟩, by omega⟩
   rw [IntWalk.i64_in _ (by omega)]; rfl
  |some n =>
   rw [aU] at hos
   simp -dsimp -implicitDefEqProofs only [go_sem, ↓reduceIte, Tryz.f69, aT, aL, hlt, ea]
   intro _
   first | refine aG.mk (fK vs[k] (by rw [hsk.1]; omega)) ?_ | refine aE.mk (fK vs[k] (by rw [hsk.1]; omega)) ?_ | refine aG.a8 (fK vs[k] (by rw [hsk.1]; omega)) ?_ | refine aE.mk (a6.cK (fK vs[k] (by rw [hsk.1]; omega))) ?_
   simp -dsimp -implicitDefEqProofs only [go_sem, ↓reduceIte, Tryz.f69]
   repeat' (with_reducible first | intro _ | refine And.intro ?_ ?_)
   all_goals try (first | omega | decide | exact Nat.le_refl _)
   rename_i b hb
   refine ⟨(k + 1, some b), ?_⟩
   simp only [hy, aL, aT, aU]
   refine ⟨⟨by rw [List.length_append]; rfl, ?_⟩, ?_, ⟨by omega, hb.2⟩, by omega⟩
   ·rw [IntWalk.i64_in _ (by omega)]; rfl
   ·rw [← eN]; exact kO hos
 ·have hk' : k = vs.length := by omega
  subst hk'
  rw [List.take_length] at hos ⊢
  cases o with
  |none =>
   rw [a9] at hos
   simp -dsimp -implicitDefEqProofs only [go_sem, ↓reduceIte, Tryz.f69, a7, aR, Nat.lt_irrefl, Int.lt_irrefl]
   intro _
   rw [qQ, hos]
   exact Shift.of (Sub.gN (.cons (Sub.loose _ _ _) (.cons (.refl _) .nil))) hBl
  |some n =>
   rw [aU] at hos
   simp -dsimp -implicitDefEqProofs only [go_sem, ↓reduceIte, Tryz.f69, aT, aL, Nat.lt_irrefl, Int.lt_irrefl]
   intro _
   rw [qQ]
   refine Shift.trans (gK (vs.map fun s => [ints s]) hos (aB.le_refl _) (by simp [eF, e8]) ?_) (bQ hBl)
   simp [aD.c9, kH, List.take_of_length_le]
theorem iM.rT {h g : aB} {n : Nat} {o : bL} (w : iM h [(n, o)] g) : h n = none ∧ g = a5 h n o := by
 refine ⟨w.fresh n (by simp [aY]), ?_⟩
 funext q
 rw [c8]
 split
 ·rename_i e; rw [e]; exact w.iJ (n, o) List.mem_cons_self
 ·rename_i e; exact w.upto q (by simp [aY, e])
@[go_sem] def aXK : List Nat := [0, 1, 4, 7, 16]
structure aZ where
 fM : Int
 fA : Int
 fB : Int
 aW : Int
def aZ.c (x : aZ) : List aD := [I x.fM, I x.fA, I x.fB, I x.aW]
theorem aZ.aN (x : aZ) : x.c = [I x.fM, I x.fA, I x.fB, I x.aW] := rfl
structure dX where
 aQ3 : Int
 a79 : Bool
def dX.c (x : dX) : List aD := [I x.aQ3, .bool x.a79]
structure b5 where
 code : List aZ
 dU : List Int
 guards : List dX
def b5.val (S : b5) (k : Int) : Int := S.dU.getD k.toNat 0
def b5.put (S : b5) (c : aZ) (v : Int) : b5 := ⟨S.code ++ [c], S.dU ++ [v], S.guards⟩
def b5.guard (S : b5) (g : dX) : b5 := ⟨S.code, S.dU, S.guards ++ [g]⟩
def jG (ev : Nat → aA → b5 → Out (Int × b5)) : List aA → Nat → b5 → Out (List Int × b5)
 | [], t, S => .ok (([], S), t)
 |e :: l, t, S => (ev t e S).andThen fun r t => (jG ev l t r.2).andThen fun q t => .ok ((r.1 :: q.1, q.2), t)
def mB (f : List Int → Nat → b5 → Out (List Int × b5)) : Nat → List Int → Nat → b5 → Out (List Int × b5)
 |0, vs, t, S => .ok ((vs, S), t)
 |n + 1, vs, t, S => (f vs t S).andThen fun r t => mB f n r.1 t r.2
def opV (k a b : Int) : Option Int :=
 if k = 3 then some ((a + b) % 1000003) else if k = 4 then some ((a - b) % 1000003) else if k = 5 then some (a * b % 1000003) else if k = 7 then some ((0 - a) % 1000003)
 else if b = 0 then none else some (a * iQ b % 1000003)
def opB (k : Int) (vs : List Int) : Int := if k = 7 then 0 else vs.getD 1 0
def xG (k : Int) (vs : List Int) (S : b5) (t : Nat) : Out (Int × b5) := match opV k (S.val (vs.getD 0 0)) (S.val (opB k vs)) with
 |none => .error 6
 |some v => .ok (((S.dU.length : Int), S.put ⟨k, vs.getD 0 0, opB k vs, 0⟩ v), t)
def cN (p : aC) : Nat → Nat → aA → List Int → b5 → Out (Int × b5)
 |0, _, _, _, _ => .error 7
 |n + 1, t, e, env, S =>
  if t = 3000 then .error 7
  else if e.aQ = 1 then .ok (((S.dU.length : Int), S.put ⟨2, 0, 0, e.aW⟩ e.aW), t + 1)
  else if e.aQ = 2 then .ok ((env.getD e.aW.toNat 0, S), t + 1)
  else if e.aQ = 8 then (cN p n (t + 1) (e.kU 0) env S).andThen fun r t =>
   if r.2.val r.1 = 0 then cN p n t (e.kU 1) env (r.2.guard ⟨r.1, true⟩) else cN p n t (e.kU 2) env (r.2.guard ⟨r.1, false⟩)
  else if e.aQ = 9 then (cN p n (t + 1) (e.kU 0) env S).andThen fun r t => cN p n t (e.kU 1) (env ++ [r.1]) r.2
  else (jG (fun t e S => cN p n t e env S) e.aI (t + 1) S).andThen fun r t =>
   if e.aQ = 10 then cN p n t (p.out e.aW e.b7) r.1 r.2
   else if e.aQ = 11 then (mB (fun vs t S => jG (fun t e S => cN p n t e vs S) (p.outs e.aW) t S) e.bV.toNat r.1 t r.2).andThen fun r t => .ok ((r.1.getD e.b7.toNat 0, r.2), t)
   else xG e.aQ r.1 r.2 t
theorem aAP (ev : Nat → aA → b5 → Out (Int × b5)) (e : aA) : ∀ (l : List aA) (t : Nat) (S : b5), jG ev (l ++ [e]) t S = (jG ev l t S).andThen fun q t => (ev t e q.2).andThen fun r t => .ok ((q.1 ++ [r.1], r.2), t)
 | [], t, S => rfl
 |x :: l, t, S => by
  simp only [List.cons_append, jG, aAP ev e l, Out.jW, Out.andThen_ok]
theorem tX (f : List Int → Nat → b5 → Out (List Int × b5)) : ∀ (n : Nat) (vs : List Int) (t : Nat) (S : b5), mB f (n + 1) vs t S = (mB f n vs t S).andThen fun r t => f r.1 t r.2
 |0, vs, t, S => by
  show (f vs t S).andThen (fun r t => .ok ((r.1, r.2), t)) = f vs t S
  cases f vs t S with
  |ok p => rfl
  |error c => rfl
 |n + 1, vs, t, S => by
  rw [mB, show mB f (n + 1) vs t S = (f vs t S).andThen fun r t => mB f n r.1 t r.2 from rfl, Out.jW]
  congr 1
  funext r t
  exact tX f n r.1 t r.2
theorem aF8 (f : List Int → Nat → b5 → Out (List Int × b5)) {vs : List Int} {t : Nat} {S : b5} {c : Int} : ∀ (k : Nat) {n : Nat}, k ≤ n → mB f k vs t S = .error c → mB f n vs t S = .error c := by
 intro k n hkn h
 induction n with
 |zero => obtain rfl : k = 0 := by omega
          exact h
 |succ n ih =>
  rcases Nat.lt_or_ge k (n + 1) with h1 | h1
  ·rw [tX, ih (by omega)]; rfl
  ·obtain rfl : k = n + 1 := by omega
   exact h
def bE (inp : Int) (i : Nat) (c : aZ) : Prop :=
 (c.fM = 1 ∧ c.fA = 0 ∧ c.fB = 0 ∧ 0 ≤ c.aW ∧ c.aW < inp) ∨ (c.fM = 2 ∧ c.fA = 0 ∧ c.fB = 0 ∧ iI c.aW) ∨ ((c.fM = 3 ∨ c.fM = 4 ∨ c.fM = 5 ∨ c.fM = 6) ∧ c.aW = 0 ∧ 0 ≤ c.fA ∧ c.fA < i ∧ 0 ≤ c.fB ∧ c.fB < i) ∨ (c.fM = 7 ∧ c.aW = 0 ∧ c.fB = 0 ∧ 0 ≤ c.fA ∧ c.fA < i)
structure Good (inp : Int) (S : b5) (t : Nat) : Prop where
 len : S.code.length = S.dU.length
 aXL : dP S.dU
 ins : ∀ i c, S.code[i]? = some c → bE inp i c
 gds : ∀ g ∈ S.guards, 0 ≤ g.aQ3 ∧ g.aQ3 < S.dU.length
 cap : S.dU.length ≤ 12 + t
 m5 : S.guards.length ≤ t
def b5.ext (S S' : b5) : Prop := S.code <+: S'.code ∧ S.dU <+: S'.dU ∧ S.guards <+: S'.guards
theorem b5.qI (S : b5) : S.ext S := ⟨List.prefix_refl _, List.prefix_refl _, List.prefix_refl _⟩
theorem b5.ext.trans {a b c : b5} (h : a.ext b) (k : b.ext c) : a.ext c := ⟨h.1.trans k.1, h.2.1.trans k.2.1, h.2.2.trans k.2.2⟩
theorem b5.aB9 (S : b5) (c : aZ) (v : Int) : S.ext (S.put c v) := ⟨List.prefix_append _ _, List.prefix_append _ _, List.prefix_refl _⟩
theorem b5.kE (S : b5) (g : dX) : S.ext (S.guard g) := ⟨List.prefix_refl _, List.prefix_refl _, List.prefix_append _ _⟩
theorem b5.ext.val {S S' : b5} (h : S.ext S') {k : Int} (h0 : 0 ≤ k) (hk : k < S.dU.length) : S'.val k = S.val k := by
 obtain ⟨x, hx⟩ := h.2.1
 rw [b5.val, b5.val, ← hx, List.getD_eq_getElem?_getD, List.getD_eq_getElem?_getD, List.getElem?_append_left (by omega)]
theorem b5.ext.len {S S' : b5} (h : S.ext S') : S.dU.length ≤ S'.dU.length := h.2.1.length_le
def j5 (S : b5) (k : Int) : Prop := 0 ≤ k ∧ k < S.dU.length
theorem j5.ext {S S' : b5} {k : Int} (h : j5 S k) (e : S.ext S') : j5 S' k := ⟨h.1, by have := h.2; have := e.len; omega⟩
theorem Good.kJ {inp : Int} {S : b5} {t u : Nat} (h : Good inp S t) (hu : t ≤ u) : Good inp S u := ⟨h.len, h.aXL, h.ins, h.gds, by have := h.cap; omega, by have := h.m5; omega⟩
theorem Good.put {inp : Int} {S : b5} {t : Nat} {c : aZ} {v : Int} (h : Good inp S t) (hc : bE inp S.dU.length c) (hv : iI v) (hcap : S.dU.length < 12 + t) : Good inp (S.put c v) t := by
 refine ⟨by simp [b5.put, h.len], fun x hx => ?_, fun i d hd => ?_, fun g hg => ?_, by simp [b5.put]; omega, h.m5⟩
 ·rcases List.mem_append.1 hx with hx | hx
  ·exact h.aXL x hx
  ·rw [List.mem_singleton.1 hx]; exact hv
 ·rcases Nat.lt_or_ge i S.code.length with hi | hi
  ·rw [b5.put, List.getElem?_append_left hi] at hd; exact h.ins i d hd
  ·rw [b5.put, List.getElem?_append_right hi] at hd
   have hd2 := List.getElem?_eq_some_iff.1 hd
   obtain ⟨h1, h2⟩ := hd2
   have h3 : i = S.dU.length := by simp at h1; have := h.len; omega
   simp at h2
   subst h2; rw [h3]; exact hc
 ·have := h.gds g hg
  simp only [b5.put, List.length_append, List.length_singleton]; omega
theorem Good.guard {inp : Int} {S : b5} {t : Nat} {k : Int} {b : Bool} (h : Good inp S t) (hk : j5 S k) (hcap : S.guards.length < t) : Good inp (S.guard ⟨k, b⟩) t := by
 refine ⟨h.len, h.aXL, h.ins, fun g hg => ?_, h.cap, by simp [b5.guard]; omega⟩
 rcases List.mem_append.1 hg with hg | hg
 ·exact h.gds g hg
 ·rw [List.mem_singleton.1 hg]; exact hk
theorem aXM {k a b v : Int} (h : opV k a b = some v) : iI v := by
 unfold opV at h
 repeat' (split at h)
 all_goals first | (cases h; done) | (cases h; exact j4 _)
def qR {α : Type} (P : α → Nat → Prop) (X : Out α) : Prop := ∀ v u, X = .ok (v, u) → P v u
theorem qR.then {α β : Type} {P : α → Nat → Prop} {Q : β → Nat → Prop} {X : Out α} {F : α → Nat → Out β} (h : qR P X) (hf : ∀ v t, P v t → qR Q (F v t)) : qR Q (X.andThen F) := fun w u hw => by
 cases X with
 |ok p => obtain ⟨v, t⟩ := p; exact hf v t (h v t rfl) w u hw
 |error c => cases hw
theorem qR.pure {α : Type} {P : α → Nat → Prop} {v : α} {t : Nat} (h : P v t) : qR P (.ok (v, t)) := fun w u e => by cases e; exact h
theorem qR.err {α : Type} {P : α → Nat → Prop} {c : Int} : qR P (.error c : Out α) := fun w u e => by cases e
theorem qR.mono {α : Type} {P Q : α → Nat → Prop} {X : Out α} (h : qR P X) (hq : ∀ v u, P v u → Q v u) : qR Q X := fun v u e => hq v u (h v u e)
def k8 (S : b5) (t : Nat) (S' : b5) (u : Nat) : Prop := S'.dU.length + t ≤ S.dU.length + u ∧ S'.guards.length + t ≤ S.guards.length + u ∧ t ≤ u ∧ u ≤ 3000
theorem k8.refl {S : b5} {t : Nat} (h : t ≤ 3000) : k8 S t S t := ⟨Nat.le_refl _, Nat.le_refl _, Nat.le_refl _, h⟩
theorem k8.trans {A B C : b5} {t u v : Nat} (h : k8 A t B u) (k : k8 B u C v) : k8 A t C v := by
 unfold k8 at *; omega
def aD9 (inp : Int) (S : b5) (t : Nat) (r : Int × b5) (u : Nat) : Prop := Good inp r.2 u ∧ S.ext r.2 ∧ j5 r.2 r.1 ∧ k8 S t r.2 u
def vS (inp : Int) (S : b5) (t n : Nat) (r : List Int × b5) (u : Nat) : Prop := Good inp r.2 u ∧ S.ext r.2 ∧ (r.1.length = n ∧ ∀ x ∈ r.1, j5 r.2 x) ∧ k8 S t r.2 u
theorem jQ {ev : Nat → aA → b5 → Out (Int × b5)} {inp : Int} : ∀ (l : List aA) (t : Nat) (S : b5), Good inp S t → t ≤ 3000 → (∀ e ∈ l, ∀ u S', Good inp S' u → S.ext S' → k8 S t S' u → qR (aD9 inp S' u) (ev u e S')) → qR (vS inp S t l.length) (jG ev l t S)
 | [], t, S, hg, ht, _ => qR.pure ⟨hg, S.qI, ⟨rfl, by simp⟩, .refl ht⟩
 |e :: l, t, S, hg, ht, h => (h e List.mem_cons_self t S hg S.qI (.refl ht)).then fun r u hr => by
  obtain ⟨r1, r2, r3, r4⟩ := hr
  refine (jQ l u r.2 r1 r4.2.2.2 fun x hx u' S' a b c => h x (List.mem_cons_of_mem _ hx) u' S' a (r2.trans b) (r4.trans c)).then fun q u' hq => ?_
  obtain ⟨q1, q2, ⟨q3, q4⟩, q5⟩ := hq
  refine qR.pure ⟨q1, r2.trans q2, ⟨by rw [List.length_cons, q3]; rfl, fun x hx => ?_⟩, r4.trans q5⟩
  rcases List.mem_cons.1 hx with rfl | hx
  ·exact r3.ext q2
  ·exact q4 x hx
theorem qJ {f : List Int → Nat → b5 → Out (List Int × b5)} {inp : Int} {m : Nat} (h : ∀ vs t S, Good inp S t → (vs.length = m ∧ ∀ x ∈ vs, j5 S x) → t ≤ 3000 → qR (vS inp S t m) (f vs t S)) :
  ∀ (n : Nat) (vs : List Int) (t : Nat) (S : b5), Good inp S t → (vs.length = m ∧ ∀ x ∈ vs, j5 S x) → t ≤ 3000 → qR (vS inp S t m) (mB f n vs t S)
 |0, vs, t, S, hg, hv, ht => qR.pure ⟨hg, S.qI, hv, .refl ht⟩
 |n + 1, vs, t, S, hg, hv, ht => (h vs t S hg hv ht).then fun r u hr => by
  obtain ⟨r1, r2, r3, r4⟩ := hr
  refine (qJ h n r.1 u r.2 r1 r3 r4.2.2.2).mono fun q u' hq => ?_
  obtain ⟨q1, q2, q3, q4⟩ := hq
  exact ⟨q1, r2.trans q2, q3, r4.trans q4⟩
theorem a2T {inp k : Int} {vs : List Int} {S : b5} {t : Nat} {m : Nat} (hk : k = 3 ∨ k = 4 ∨ k = 5 ∨ k = 6 ∨ k = 7) (hm : vs.length = m ∧ ∀ x ∈ vs, j5 S x) (hm1 : 1 ≤ m) (hm2 : ¬ k = 7 → 2 ≤ m) (hg : Good inp S (t + 1)) (hcap : S.dU.length < 12 + (t + 1)) (ht : t + 1 ≤ 3000) : qR (fun r u => Good inp r.2 u ∧ S.ext r.2 ∧ j5 r.2 r.1 ∧ u = t + 1 ∧ r.2.dU.length = S.dU.length + 1 ∧ r.2.guards = S.guards) (xG k vs S (t + 1)) := by
 have at_ : ∀ i, i < m → j5 S (vs.getD i 0) := fun i hi => by
  rw [List.getD_eq_getElem?_getD, List.getElem?_eq_getElem (by omega)]
  exact hm.2 _ (List.getElem_mem _)
 unfold xG
 split
 ·exact qR.err
 ·rename_i v hv
  have h0 := at_ 0 (by omega)
  refine qR.pure ⟨hg.put ?_ (aXM hv) hcap, S.aB9 _ _, ⟨by simp, by simp [b5.put]; omega⟩, rfl, by simp [b5.put], rfl⟩
  unfold j5 at h0
  by_cases h7 : k = 7
  ·subst h7
   exact .inr (.inr (.inr ⟨rfl, rfl, rfl, h0⟩))
  ·have h1 := at_ 1 (hm2 h7)
   unfold j5 at h1
   have hb : opB k vs = vs.getD 1 0 := if_neg h7
   exact .inr (.inr (.inl ⟨by simp only; omega, rfl, h0.1, h0.2, by simp only [hb]; exact h1.1, by simp only [hb]; exact h1.2⟩))
theorem aEA {p : aC} {n st : Nat} {e : aA} {env : List Int} {S : b5} (h3 : ¬ st = 3000) (hk : e.aQ = 1) : cN p (n + 1) st e env S = .ok (((S.dU.length : Int), S.put ⟨2, 0, 0, e.aW⟩ e.aW), st + 1) := by rw [cN, if_neg h3, if_pos hk]
theorem aEB {p : aC} {n st : Nat} {e : aA} {env : List Int} {S : b5} (h3 : ¬ st = 3000) (hk : e.aQ = 2) : cN p (n + 1) st e env S = .ok ((env.getD e.aW.toNat 0, S), st + 1) := by rw [cN, if_neg h3, if_neg (by omega), if_pos hk]
theorem tY {p : aC} {n st : Nat} {e : aA} {env : List Int} {S : b5} (h3 : ¬ st = 3000) (hk : e.aQ = 8) : cN p (n + 1) st e env S = (cN p n (st + 1) (e.kU 0) env S).andThen fun r t =>
   if r.2.val r.1 = 0 then cN p n t (e.kU 1) env (r.2.guard ⟨r.1, true⟩) else cN p n t (e.kU 2) env (r.2.guard ⟨r.1, false⟩) := by rw [cN, if_neg h3, if_neg (by omega), if_neg (by omega), if_pos hk]
theorem aEC {p : aC} {n st : Nat} {e : aA} {env : List Int} {S : b5} (h3 : ¬ st = 3000) (hk : e.aQ = 9) : cN p (n + 1) st e env S = (cN p n (st + 1) (e.kU 0) env S).andThen fun r t => cN p n t (e.kU 1) (env ++ [r.1]) r.2 := by rw [cN, if_neg h3, if_neg (by omega), if_neg (by omega), if_neg (by omega), if_pos hk]
theorem tZ {p : aC} {n st : Nat} {e : aA} {env : List Int} {S : b5} (h3 : ¬ st = 3000) (hk : e.aQ = 10) : cN p (n + 1) st e env S = (jG (fun t e S => cN p n t e env S) e.aI (st + 1) S).andThen fun r t => cN p n t (p.out e.aW e.b7) r.1 r.2 := by
 rw [cN, if_neg h3, if_neg (by omega), if_neg (by omega), if_neg (by omega), if_neg (by omega)]; simp only [if_pos hk]
theorem uA {p : aC} {n st : Nat} {e : aA} {env : List Int} {S : b5} (h3 : ¬ st = 3000) (hk : e.aQ = 11) : cN p (n + 1) st e env S = (jG (fun t e S => cN p n t e env S) e.aI (st + 1) S).andThen fun r t => (mB (fun vs t S => jG (fun t e S => cN p n t e vs S) (p.outs e.aW) t S) e.bV.toNat r.1 t r.2).andThen fun r t => .ok ((r.1.getD e.b7.toNat 0, r.2), t) := by
 have h : ¬ e.aQ = 10 := by omega
 rw [cN, if_neg h3, if_neg (by omega), if_neg (by omega), if_neg (by omega), if_neg (by omega)]; simp only [if_neg h, if_pos hk]
theorem jD {p : aC} {n st : Nat} {e : aA} {env : List Int} {S : b5} (h3 : ¬ st = 3000) (hk : e.aQ = 3 ∨ e.aQ = 4 ∨ e.aQ = 5 ∨ e.aQ = 6 ∨ e.aQ = 7) : cN p (n + 1) st e env S = (jG (fun t e S => cN p n t e env S) e.aI (st + 1) S).andThen fun r t => xG e.aQ r.1 r.2 t := by
 have h : ¬ e.aQ = 10 := by omega
 have h2 : ¬ e.aQ = 11 := by omega
 rw [cN, if_neg h3, if_neg (by omega), if_neg (by omega), if_neg (by omega), if_neg (by omega)]; simp only [if_neg h, if_neg h2]
theorem k8.step {S S' : b5} {t u : Nat} (h : k8 S (t + 1) S' u) : k8 S t S' u := by unfold k8 at *; omega
theorem lD {p : aC} (hp : p.ok) {inp : Int} : ∀ (n t : Nat) (e : aA) (env : List Int) (S : b5) (funcs : Int), e.ok p funcs env.length → funcs ≤ p.aJ.length → Good inp S t → t ≤ 3000 → (∀ x ∈ env, j5 S x) → qR (aD9 inp S t) (cN p n t e env S)
 |0, t, e, env, S, funcs, _, _, _, _, _ => qR.err
 |n + 1, t, e, env, S, funcs, hok, hf, hg, ht, henv => by
  have ih := lD hp (inp := inp) n
  have hnode := ((aA.cC _ _ _ _).1 hok).1
  by_cases h3 : t = 3000
  ·rw [cN, if_pos h3]; exact qR.err
  have iY := hg.kJ (Nat.le_succ t)
  have hcap := hg.cap
  have hgcap := hg.m5
  have henvE : ∀ {S'}, S.ext S' → ∀ x ∈ env, j5 S' x := fun e x hx => (henv x hx).ext e
  rcases oE hnode with hk | hk | hk | hk | hk | hk | hk | hk | hk | hk | hk
  ·rw [aEA h3 hk]
   have hn := ((dM (by omega)).1 hnode).2.2.2.1 hk
   exact qR.pure ⟨iY.put (.inr (.inl ⟨rfl, rfl, rfl, hn⟩)) hn (by omega), S.aB9 _ _, ⟨by simp, by simp [b5.put]; omega⟩, by simp [k8, b5.put]; omega⟩
  ·rw [aEB h3 hk]
   have hn := ((dM (by omega)).1 hnode).2.2.2.2.1 hk
   refine qR.pure ⟨iY, S.qI, ?_, by simp [k8]; omega⟩
   simp only [List.getD_eq_getElem?_getD]
   rw [List.getElem?_eq_getElem (by omega)]
   exact henv _ (List.getElem_mem _)
  iterate 5
   ·have hlen := cG hok (by omega)
    rw [hk] at hlen
    rw [jD h3 (by omega)]
    refine (jQ _ _ S iY (by omega) fun x hx u S' a b c => ih u x env S' funcs (dD hok (by omega) x hx) hf a c.2.2.2 (henvE b)).then fun r u hr => ?_
    obtain ⟨r1, r2, r3, r4⟩ := hr
    obtain ⟨u, rfl⟩ : ∃ w, u = w + 1 := ⟨u - 1, by have := r4.2.2.1; omega⟩
    unfold k8 at r4
    refine (a2T (inp := inp) (by omega) r3 (by unfold eE at hlen; simp at hlen; omega) (fun q => by unfold eE at hlen; simp at hlen; omega) r1 (by omega) (by omega)).mono fun q v hq => ?_
    obtain ⟨q1, q2, q3, rfl, q5, q6⟩ := hq
    exact ⟨q1, r2.trans q2, q3, by unfold k8; rw [q5, q6]; omega⟩
  ·have hlen := cG hok (by omega)
   rw [hk, show eE 8 = 3 from rfl] at hlen
   have o0 := aA.dW hok (i := 0) (by omega)
   have o1 := aA.dW hok (i := 1) (by omega)
   have o2 := aA.dW hok (i := 2) (by omega)
   rw [gI (by omega)] at o0 o1 o2
   rw [tY h3 hk]
   refine (ih _ _ _ _ _ o0 hf iY (by omega) henv).then fun r u hr => ?_
   obtain ⟨r1, r2, r3, r4⟩ := hr
   have r4' := r4
   unfold k8 at r4'
   have go : ∀ (b : Bool) (k : aA), k.ok p funcs env.length → qR (aD9 inp S t) (cN p n u k env (r.2.guard ⟨r.1, b⟩)) := fun b k hk => by
    have he : r.2.ext (r.2.guard ⟨r.1, b⟩) := r.2.kE _
    refine (ih u k env _ _ hk hf (r1.guard r3 (by omega)) (by omega) (henvE (r2.trans he))).mono fun q v hq => ?_
    obtain ⟨q1, q2, q3, q4⟩ := hq
    refine ⟨q1, (r2.trans he).trans q2, q3, ?_⟩
    unfold k8 at q4 ⊢
    simp only [b5.guard, List.length_append, List.length_singleton] at q4
    omega
   split
   ·exact go _ _ o1
   ·exact go _ _ o2
  ·have hlen := cG hok (by omega)
   rw [hk, show eE 9 = 2 from rfl] at hlen
   have o0 := aA.dW hok (i := 0) (by omega)
   have o1 := aA.dW hok (i := 1) (by omega)
   rw [gI (by omega)] at o0
   rw [hk, show j2 9 1 (env.length : Int) = env.length + 1 from rfl] at o1
   rw [aEC h3 hk]
   refine (ih _ _ _ _ _ o0 hf iY (by omega) henv).then fun r u hr => ?_
   obtain ⟨r1, r2, r3, r4⟩ := hr
   refine (ih _ _ (env ++ [r.1]) _ _ (by rw [List.length_append]; exact o1) hf r1 r4.2.2.2 fun x hx => ?_).mono fun q v hq => ?_
   ·rcases List.mem_append.1 hx with hx | hx
    ·exact henvE r2 x hx
    ·rw [List.mem_singleton.1 hx]; exact r3
   ·obtain ⟨q1, q2, q3, q4⟩ := hq
    exact ⟨q1, r2.trans q2, q3, (r4.trans q4).step⟩
  ·obtain ⟨f, F⟩ := lQ hp hok hf (.inl hk)
   have f2 := F.hi
   have f4 := F.pk2
   rw [tZ h3 hk]
   refine (jQ _ _ S iY (by omega) fun x hx u S' a b c => ih u x env S' funcs (dD hok (by omega) x hx) hf a c.2.2.2 (henvE b)).then fun r u hr => ?_
   obtain ⟨r1, r2, r3, r4⟩ := hr
   refine (ih _ _ r.1 _ e.aW (by rw [r3.1, F.kids]; exact F.oks _ (List.mem_of_getElem? F.out)) (by omega) r1 r4.2.2.2 r3.2).mono fun q v hq => ?_
   obtain ⟨q1, q2, q3, q4⟩ := hq
   exact ⟨q1, r2.trans q2, q3, (r4.trans q4).step⟩
  ·obtain ⟨f, F⟩ := lQ hp hok hf (.inr hk)
   have f2 := F.hi
   have f4 := F.pk2
   have f9 := F.loop hk
   rw [uA h3 hk]
   refine (jQ _ _ S iY (by omega) fun x hx u S' a b c => ih u x env S' funcs (dD hok (by omega) x hx) hf a c.2.2.2 (henvE b)).then fun r u hr => ?_
   obtain ⟨r1, r2, r3, r4⟩ := hr
   refine (qJ (inp := inp) (m := f.aM.length) (fun vs w S' hg' hv hw => ?_) _ _ _ _ r1 ⟨by have := r3.1; have := F.kids; omega, r3.2⟩ r4.2.2.2).then fun q v hq => ?_
   ·rw [F.eq]
    exact jQ _ _ S' hg' hw fun x hx u S'' a b c => ih u x vs S'' e.aW (by rw [hv.1, f9.2.2]; exact F.oks x hx) (by omega) a c.2.2.2 fun y hy => (hv.2 y hy).ext b
   ·obtain ⟨q1, q2, q3, q4⟩ := hq
    refine qR.pure ⟨q1, r2.trans q2, ?_, (r4.trans q4).step⟩
    simp only [List.getD_eq_getElem?_getD]
    rw [List.getElem?_eq_getElem (by rw [q3.1]; exact f4)]
    exact q3.2 _ (List.getElem_mem _)
def kW {α β : Type} (R : α → β → Prop) (X : Out α) (Y : Out β) : Prop := match X, Y with
 | .ok (v, t), .ok (v', t') => R v v' ∧ t = t'
 | .error c, .error c' => c = c'
 | _, _ => False
theorem kW.bind {α β γ δ : Type} {R : α → β → Prop} {R' : γ → δ → Prop} {P : α → Nat → Prop} {X : Out α} {Y : Out β} {F : α → Nat → Out γ} {G : β → Nat → Out δ} (hp : qR P X) (h : kW R X Y) (hf : ∀ v v' t, P v t → R v v' → kW R' (F v t) (G v' t)) : kW R' (X.andThen F) (Y.andThen G) := by
 cases X with
 |ok p =>
  cases Y with
  |ok q =>
   obtain ⟨v, t⟩ := p
   obtain ⟨v', t'⟩ := q
   obtain ⟨h1, rfl⟩ := h
   exact hf _ _ _ (hp v t rfl) h1
  |error c => exact h.elim
 |error c =>
  cases Y with
  |ok q => exact h.elim
  |error d => exact h
theorem kW.pure {α β : Type} {R : α → β → Prop} {v : α} {v' : β} {t : Nat} (h : R v v') : kW R (.ok (v, t)) (.ok (v', t)) := ⟨h, rfl⟩
def sv (S : b5) (l : List Int) : List (List Int) := l.map fun k => [S.val k]
def sR1 (r : Int × b5) (v : List Int) : Prop := v = [r.2.val r.1]
def sRL (r : List Int × b5) (vs : List (List Int)) : Prop := vs = sv r.2 r.1
theorem aED {S S' : b5} {l : List Int} (h : ∀ x ∈ l, j5 S x) (e : S.ext S') : sv S' l = sv S l :=
 List.map_congr_left fun x hx => by rw [e.val (h x hx).1 (h x hx).2]
theorem sN {ev : Nat → aA → b5 → Out (Int × b5)} {ev' : Nat → aA → Out (List Int)} {inp : Int} : ∀ (l : List aA) (t : Nat) (S : b5), Good inp S t → t ≤ 3000 → (∀ e ∈ l, ∀ u S', Good inp S' u → S.ext S' → k8 S t S' u → qR (aD9 inp S' u) (ev u e S') ∧ kW sR1 (ev u e S') (ev' u e)) → kW sRL (jG ev l t S) (kB ev' l t)
 | [], t, S, hg, ht, _ => kW.pure rfl
 |e :: l, t, S, hg, ht, h => by
  obtain ⟨h1, h2⟩ := h e List.mem_cons_self t S hg S.qI (.refl ht)
  refine kW.bind h1 h2 fun r v u hr hv => ?_
  obtain ⟨r1, r2, r3, r4⟩ := hr
  have hl := fun x hx u' S' a b c => h x (List.mem_cons_of_mem _ hx) u' S' a (r2.trans b) (r4.trans c)
  refine kW.bind (jQ l u r.2 r1 r4.2.2.2 fun x hx u' S' a b c => (hl x hx u' S' a b c).1) (sN l u r.2 r1 r4.2.2.2 hl) fun q vs u' hq hvs => kW.pure ?_
  rw [sR1] at hv
  rw [sRL] at hvs ⊢
  rw [hv, hvs, ← hq.2.1.val r3.1 r3.2]; rfl
theorem aF9 {f : List Int → Nat → b5 → Out (List Int × b5)} {g : List (List Int) → Nat → Out (List (List Int))} {inp : Int} {m : Nat} (h : ∀ vs t S, Good inp S t → (vs.length = m ∧ ∀ x ∈ vs, j5 S x) → t ≤ 3000 → qR (vS inp S t m) (f vs t S) ∧ kW sRL (f vs t S) (g (sv S vs) t)) :
  ∀ (n : Nat) (vs : List Int) (t : Nat) (S : b5), Good inp S t → (vs.length = m ∧ ∀ x ∈ vs, j5 S x) → t ≤ 3000 → kW sRL (mB f n vs t S) (nF g n (sv S vs) t)
 |0, vs, t, S, hg, hv, ht => kW.pure rfl
 |n + 1, vs, t, S, hg, hv, ht => by
  obtain ⟨h1, h2⟩ := h vs t S hg hv ht
  refine kW.bind h1 h2 fun r w u hr hw => ?_
  rw [sRL] at hw
  rw [hw]
  exact aF9 h n r.1 u r.2 hr.1 hr.2.2.1 hr.2.2.2.2.2.2
theorem xH {S : b5} {l : List Int} {i : Nat} (hi : i < l.length) : (sv S l).getD i [] = [S.val (l.getD i 0)] := by
 simp [sv, List.getD_eq_getElem?_getD, List.getElem?_eq_getElem hi]
theorem aXN {k : Int} {vs : List Int} {S : b5} {t : Nat} (hk : k = 3 ∨ k = 4 ∨ k = 5 ∨ k = 6 ∨ k = 7) (h1 : 1 ≤ vs.length) (h2 : ¬ k = 7 → 2 ≤ vs.length) : kW sR1 (xG k vs S t) (opE k (sv S vs) t) := by
 have g0 := xH (S := S) (l := vs) (i := 0) (by omega)
 have pv : ∀ c v, (S.put c v).val (S.dU.length : Int) = v := fun c v => by
  rw [b5.val, b5.put, List.getD_eq_getElem?_getD, Int.toNat_natCast, List.getElem?_append_right (Nat.le_refl _), Nat.sub_self]; rfl
 unfold xG opE opV
 rcases hk with rfl | rfl | rfl | rfl | rfl
 all_goals simp only [reduceCtorEq, if_true, if_false, Int.reduceEq]
 ·refine kW.pure ?_
  have g1 := xH (S := S) (l := vs) (i := 1) (h2 (by decide))
  rw [sR1, pv, g0, g1]
  rfl
 ·refine kW.pure ?_
  have g1 := xH (S := S) (l := vs) (i := 1) (h2 (by decide))
  rw [sR1, pv, g0, g1]
  show [(_ + _ * 1000002 % 1000003) % 1000003] = [(_ - S.val (vs.getD 1 0)) % 1000003]
  congr 1
  omega
 ·refine kW.pure ?_
  have g1 := xH (S := S) (l := vs) (i := 1) (h2 (by decide))
  rw [sR1, pv, g0, g1]
  show [(0 + _ * _) % 1000003] = [_ * S.val (vs.getD 1 0) % 1000003]
  rw [Int.zero_add]; rfl
 ·have g1 := xH (S := S) (l := vs) (i := 1) (h2 (by decide))
  rw [g0, g1, show opB 6 vs = vs.getD 1 0 from rfl, show [S.val (vs.getD 1 0)].getD 0 0 = S.val (vs.getD 1 0) from rfl]
  by_cases h : S.val (vs.getD 1 0) = 0
  ·rw [if_pos h, if_pos h]; exact rfl
  ·rw [if_neg h, if_neg h]
   refine kW.pure ?_
   rw [sR1, pv]; rfl
 ·refine kW.pure ?_
  rw [sR1, pv, g0]
  show [_ * 1000002 % 1000003] = [(0 - S.val (vs.getD 0 0)) % 1000003]
  congr 1
  omega
theorem aKY {p : aC} (hp : p.ok) {inp : Int} : ∀ (n t : Nat) (e : aA) (env : List Int) (S : b5) (funcs : Int), e.ok p funcs env.length → funcs ≤ p.aJ.length → Good inp S t → t ≤ 3000 → (∀ x ∈ env, j5 S x) → kW sR1 (cN p n t e env S) (gR p 1 n t e (sv S env))
 |0, t, e, env, S, funcs, _, _, _, _, _ => rfl
 |n + 1, t, e, env, S, funcs, hok, hf, hg, ht, henv => by
  have ih := aKY hp (inp := inp) n
  have io := lD hp (inp := inp) n
  have hnode := ((aA.cC _ _ _ _).1 hok).1
  by_cases h3 : t = 3000
  ·rw [cN, gR, if_pos h3, if_pos h3]; exact rfl
  have iY := hg.kJ (Nat.le_succ t)
  have hcap := hg.cap
  have hgcap := hg.m5
  have henvE : ∀ {S'}, S.ext S' → ∀ x ∈ env, j5 S' x := fun e x hx => (henv x hx).ext e
  have kidsS : ¬ e.aQ = 9 → ∀ x ∈ e.aI, ∀ u S', Good inp S' u → S.ext S' → k8 S (t + 1) S' u → qR (aD9 inp S' u) (cN p n u x env S') ∧ kW sR1 (cN p n u x env S') (gR p 1 n u x (sv S env)) := fun h9 x hx u S' a b c =>
   ⟨io u x env S' funcs (dD hok h9 x hx) hf a c.2.2.2 (henvE b), by
    have := ih u x env S' funcs (dD hok h9 x hx) hf a c.2.2.2 (henvE b)
    rwa [aED henv b] at this⟩
  rcases oE hnode with hk | hk | hk | hk | hk | hk | hk | hk | hk | hk | hk
  ·rw [aEA h3 hk, aO7 h3 hk]
   refine kW.pure ?_
   simp [sR1, b5.val, b5.put, cF, List.replicate_succ]
  ·rw [aEB h3 hk, aO8 h3 hk]
   have hn := ((dM (by omega)).1 hnode).2.2.2.2.1 hk
   exact kW.pure (xH (by omega))
  iterate 5
   ·have hlen := cG hok (by omega)
    rw [hk] at hlen
    rw [jD h3 (by omega), mN h3 (by omega)]
    have hs := kidsS (by omega)
    refine kW.bind (jQ _ _ S iY (by omega) fun x hx u S' a b c => (hs x hx u S' a b c).1) (sN _ _ S iY (by omega) hs) fun r vs u hr hv => ?_
    obtain ⟨r1, r2, r3, r4⟩ := hr
    rw [sRL] at hv
    rw [hv]
    exact aXN (by omega) (by unfold eE at hlen; simp at hlen; omega) (fun q => by unfold eE at hlen; simp at hlen; omega)
  ·have hlen := cG hok (by omega)
   rw [hk, show eE 8 = 3 from rfl] at hlen
   have o0 := aA.dW hok (i := 0) (by omega)
   have o1 := aA.dW hok (i := 1) (by omega)
   have o2 := aA.dW hok (i := 2) (by omega)
   rw [gI (by omega)] at o0 o1 o2
   rw [tY h3 hk, aF4 h3 hk]
   refine kW.bind (io _ _ _ _ _ o0 hf iY (by omega) henv) (ih _ _ _ _ _ o0 hf iY (by omega) henv) fun r v u hr hv => ?_
   obtain ⟨r1, r2, r3, r4⟩ := hr
   have r4' := r4
   unfold k8 at r4'
   rw [sR1] at hv
   subst hv
   rw [show [r.2.val r.1].getD 0 0 = r.2.val r.1 from rfl]
   have go : ∀ (b : Bool) (k : aA), k.ok p funcs env.length → kW sR1 (cN p n u k env (r.2.guard ⟨r.1, b⟩)) (gR p 1 n u k (sv S env)) := fun b k hk => by
    have he : r.2.ext (r.2.guard ⟨r.1, b⟩) := r.2.kE _
    have := ih u k env _ _ hk hf (r1.guard (b := b) r3 (by omega)) (by omega) (henvE (r2.trans he))
    rwa [aED henv (r2.trans he)] at this
   by_cases hz : r.2.val r.1 = 0
   ·rw [if_pos hz, if_pos hz]; exact go _ _ o1
   ·rw [if_neg hz, if_neg hz]; exact go _ _ o2
  ·have hlen := cG hok (by omega)
   rw [hk, show eE 9 = 2 from rfl] at hlen
   have o0 := aA.dW hok (i := 0) (by omega)
   have o1 := aA.dW hok (i := 1) (by omega)
   rw [gI (by omega)] at o0
   rw [hk, show j2 9 1 (env.length : Int) = env.length + 1 from rfl] at o1
   rw [aEC h3 hk, aO9 h3 hk]
   refine kW.bind (io _ _ _ _ _ o0 hf iY (by omega) henv) (ih _ _ _ _ _ o0 hf iY (by omega) henv) fun r v u hr hv => ?_
   obtain ⟨r1, r2, r3, r4⟩ := hr
   rw [sR1] at hv
   subst hv
   have := ih u (e.kU 1) (env ++ [r.1]) r.2 funcs (by rw [List.length_append]; exact o1) hf r1 r4.2.2.2 (fun x hx => by
    rcases List.mem_append.1 hx with hx | hx
    ·exact henvE r2 x hx
    ·rw [List.mem_singleton.1 hx]; exact r3)
   rwa [show sv r.2 (env ++ [r.1]) = sv S env ++ [[r.2.val r.1]] by rw [← aED henv r2, sv, List.map_append]; rfl] at this
  ·obtain ⟨f, F⟩ := lQ hp hok hf (.inl hk)
   have f2 := F.hi
   have f4 := F.pk2
   rw [tZ h3 hk, aD1 h3 hk]
   have hs := kidsS (by omega)
   refine kW.bind (jQ _ _ S iY (by omega) fun x hx u S' a b c => (hs x hx u S' a b c).1) (sN _ _ S iY (by omega) hs) fun r vs u hr hv => ?_
   obtain ⟨r1, r2, r3, r4⟩ := hr
   rw [sRL] at hv
   rw [hv]
   exact ih _ _ r.1 _ e.aW (by rw [r3.1, F.kids]; exact F.oks _ (List.mem_of_getElem? F.out)) (by omega) r1 r4.2.2.2 r3.2
  ·obtain ⟨f, F⟩ := lQ hp hok hf (.inr hk)
   have f2 := F.hi
   have f4 := F.pk2
   have f9 := F.loop hk
   rw [uA h3 hk, aD2 h3 hk]
   have hs := kidsS (by omega)
   refine kW.bind (jQ _ _ S iY (by omega) fun x hx u S' a b c => (hs x hx u S' a b c).1) (sN _ _ S iY (by omega) hs) fun r vs u hr hv => ?_
   obtain ⟨r1, r2, r3, r4⟩ := hr
   rw [sRL] at hv
   rw [hv]
   have hfl : ∀ vs t S, Good inp S t → (vs.length = f.aM.length ∧ ∀ x ∈ vs, j5 S x) → t ≤ 3000 → qR (vS inp S t f.aM.length) (jG (fun t e S => cN p n t e vs S) (p.outs e.aW) t S) ∧ kW sRL (jG (fun t e S => cN p n t e vs S) (p.outs e.aW) t S) (kB (fun t e => gR p 1 n t e (sv S vs)) (p.outs e.aW) t) := fun vs w S' hg' hv hw => by
    rw [F.eq]
    have hx2 : ∀ x ∈ f.aM, ∀ u S'', Good inp S'' u → S'.ext S'' → k8 S' w S'' u → qR (aD9 inp S'' u) (cN p n u x vs S'') ∧ kW sR1 (cN p n u x vs S'') (gR p 1 n u x (sv S' vs)) := fun x hx u S'' a b c =>
     ⟨io u x vs S'' e.aW (by rw [hv.1, f9.2.2]; exact F.oks x hx) (by omega) a c.2.2.2 fun y hy => (hv.2 y hy).ext b, by
      have := ih u x vs S'' e.aW (by rw [hv.1, f9.2.2]; exact F.oks x hx) (by omega) a c.2.2.2 fun y hy => (hv.2 y hy).ext b
      rwa [aED hv.2 b] at this⟩
    exact ⟨jQ _ _ S' hg' hw fun x hx u S'' a b c => (hx2 x hx u S'' a b c).1, sN _ _ S' hg' hw hx2⟩
   have lV : r.1.length = f.aM.length ∧ ∀ x ∈ r.1, j5 r.2 x := ⟨by have := r3.1; have := F.kids; omega, r3.2⟩
   refine kW.bind (qJ (inp := inp) (m := f.aM.length) (fun vs t S a b c => (hfl vs t S a b c).1) _ _ _ _ r1 lV r4.2.2.2) (aF9 (inp := inp) (m := f.aM.length) (g := fun vs t => kB (fun t e => gR p 1 n t e vs) (p.outs e.aW) t) hfl _ _ _ _ r1 lV r4.2.2.2) fun q vs2 v hq hvs => ?_
   refine kW.pure ?_
   rw [sRL] at hvs
   rw [hvs]
   exact xH (by rw [hq.2.2.1.1]; exact f4)
def inS (args : List Int) : b5 := ⟨(List.range args.length).map fun i : Nat => ⟨1, 0, 0, (i : Int)⟩, args, []⟩
def zU (args : List Int) : List Int := (List.range args.length).map fun i : Nat => (i : Int)
theorem zC (args : List Int) (ha : dP args) (hl : args.length ≤ 12) : Good args.length (inS args) 0 := by
 refine ⟨by simp [inS], ha, fun i c hc => ?_, fun g hg => (by cases hg), by simpa [inS] using hl, Nat.le_refl _⟩
 obtain ⟨h1, h2⟩ := List.getElem?_eq_some_iff.1 hc
 simp [inS] at h1 h2
 subst h2
 exact .inl ⟨rfl, rfl, rfl, by simp only; omega, by simp only; omega⟩
theorem aHW (args : List Int) : ∀ x ∈ zU args, j5 (inS args) x := fun x hx => by
 obtain ⟨i, hi, rfl⟩ := List.mem_map.1 hx
 have := List.mem_range.1 hi
 exact ⟨by omega, by simp [inS]; omega⟩
theorem a2V (args : List Int) : sv (inS args) (zU args) = args.map fun n => [n] := by
 apply List.ext_getElem
 ·simp [sv, zU]
 ·intro i h1 h2
  simp [sv, zU, inS, b5.val]
  simp at h2
  rw [List.getElem?_eq_getElem h2]; rfl
def vT (p : aC) (f : Int) (args : List Int) : Out (List Int × b5) := jG (fun t e S => cN p 3001 t e (zU args) S) (p.outs f) 0 (inS args)
theorem aHX {p : aC} (hp : p.ok) (f : Int) (hf : 0 ≤ f ∧ f < p.aJ.length) (args : List Int) (ha : dP args) (hl : ∀ F, p.aJ[f.toNat]? = some F → (args.length : Int) = F.aX) :
  qR (vS args.length (inS args) 0 (p.outs f).length) (vT p f args) ∧ kW sRL (vT p f args) (xU p 1 f (args.map fun n => [n])) := by
 obtain ⟨F, ef, hF1, hF2, hF3, hF4⟩ := oM hp hf
 have hla := hl F ef
 have hg := zC args ha (by omega)
 have hin := aHW args
 have hel : (zU args).length = args.length := by simp [zU]
 have hx2 : ∀ x ∈ p.outs f, ∀ u S'', Good args.length S'' u → (inS args).ext S'' → k8 (inS args) 0 S'' u → qR (aD9 args.length S'' u) (cN p 3001 u x (zU args) S'') ∧ kW sR1 (cN p 3001 u x (zU args) S'') (gR p 1 3001 u x (args.map fun n => [n])) := fun x hx u S'' a b c => by
  have hxo : x.ok p f (zU args).length := by rw [hel, hla]; exact hF4 x (by rw [← hF3]; exact hx)
  refine ⟨lD hp _ u x _ S'' f hxo (by omega) a c.2.2.2 fun y hy => (hin y hy).ext b, ?_⟩
  have := aKY hp 3001 u x (zU args) S'' f hxo (by omega) a c.2.2.2 fun y hy => (hin y hy).ext b
  rwa [aED hin b, a2V] at this
 exact ⟨jQ _ _ _ hg (by omega) fun x hx u S'' a b c => (hx2 x hx u S'' a b c).1, sN _ _ _ hg (by omega) hx2⟩
end Go.Hl

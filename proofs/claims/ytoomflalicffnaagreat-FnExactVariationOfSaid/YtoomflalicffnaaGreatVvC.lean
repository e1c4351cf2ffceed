/-
  Contracts of functions and laws of the layer over the walk.
-/
import Derived.Test.YtoomflalicffnaaGreatVvB
namespace Go.Hl
set_option maxRecDepth 100000
open Go.Proofs
set_option linter.unusedVariables false
set_option linter.unusedSimpArgs false
def cH (p : aC) (sz st : Nat) (c : Int) : bL := .row 4 [[.v (dB 3 aP.c p.aJ), .v (I ((sz : Int) - 1)), .v (I st), .v (I c)]]
abbrev bI (l : List (List Int)) : aD := dB 1 (fun s => [ints s]) l
def EvQ (h : aB) (nb : Nat) (p : aC) (sz st : Nat) (c : Int) (X : Out (List Int)) : aD → aB → Prop := fun r h' => ∃ s t c', r = ints s ∧ h' = a5 h nb (cH p sz t c') ∧ bC sz s ∧ st ≤ t ∧ t ≤ 3000 ∧ gT (lY c X) s t c'
def bCG (h : aB) (nb : Nat) (p : aC) (sz st : Nat) (c : Int) (n : Nat) (X : Out (List (List Int))) : aD → aB → Prop := fun r h' => ∃ l t c', r = bI l ∧ h' = a5 h nb (cH p sz t c') ∧ l.length = n ∧ (∀ s ∈ l, bC sz s) ∧ st ≤ t ∧ t ≤ 3000 ∧ gT (lY c X) l t c'
@[go_sem] def lR : List Nat := [0, 1, 2, 4, 6, 7, 8, 13, 20, 34, 35, 41, 48, 59, 74, 102, 106, 107, 126, 138, 159, 168, 177, 186, 197]
@[go_sem] def sK : List Nat := [4, 90]
@[go_sem] def sM : Marks := fun id => match id with | 17 => ([6, 13, 15, 16], (.op 0 (.op 1 (.op 2 (.op 3 (.op 4 (.op 5 (.op 7 (.op 8 (.op 9 (.op 10 (.op 11 (.op 12 (.op 6 (.op 13 (.op 14 (.op 15 (.op 16 (.op 17 .nil)))))))))))))))))), []) | 23 => ([5, 16], (.op 0 (.op 1 (.op 2 (.op 3 (.op 4 (.op 6 (.op 7 (.op 11 (.op 12 (.op 15 (.op 5 (.op 8 (.op 9 (.op 10 (.op 13 (.op 14 (.op 16 (.op 17 .nil)))))))))))))))))), []) | 28 => ([5, 12], (.op 0 (.op 1 (.op 2 (.op 3 (.op 4 (.op 6 (.op 7 (.op 11 (.op 5 (.op 8 (.op 9 (.op 10 (.op 12 (.op 13 .nil)))))))))))))), []) | 31 => ([6], (.op 0 (.op 1 (.op 2 (.op 3 (.op 4 (.op 5 (.op 6 (.op 7 .nil)))))))), []) | 33 => ([6], (.op 0 (.op 1 (.op 2 (.op 3 (.op 4 (.op 5 (.op 6 (.op 7 .nil)))))))), []) | 35 => ([6], (.op 0 (.op 1 (.op 2 (.op 3 (.op 4 (.op 5 (.op 6 (.op 7 .nil)))))))), []) | 41 => ([6], (.op 0 (.op 1 (.op 2 (.op 3 (.op 4 (.op 5 (.op 6 (.op 7 .nil)))))))), []) | _ => ([], .nil, [])
def lS (p : aC) (sz n : Nat) : Prop := ∀ (h : aB) (nb st : Nat) (c : Int) (e : aA) (env : List (List Int)) (funcs : Int), h nb = some (cH p sz st c) → st ≤ 3000 → 3001 ≤ n + st → e.ok p funcs env.length → 0 ≤ funcs → funcs ≤ p.aJ.length → (∀ s ∈ env, bC sz s) → env.length ≤ 412 + st →
 eH Tryz.prog 206 [.op nb 4 0 0, .agg e.c, bI env] h (EvQ h nb p sz st c (gR p sz n st e env))
theorem tV {p : aC} {sz n : Nat} (hv : lS p sz n) (h : aB) (nb st : Nat) (c : Int) (l : List aA) (env : List (List Int)) (funcs : Int) (hb : h nb = some (cH p sz st c)) (hst : st ≤ 3000) (hn : 3001 ≤ n + st)
  (hl : l.length ≤ 1048576) (hok : ∀ e ∈ l, e.ok p funcs env.length) (c7 : 0 ≤ funcs) (hf : funcs ≤ p.aJ.length) (henv : ∀ s ∈ env, bC sz s) (hel : env.length ≤ 412 + st) :
  eH Tryz.prog 177 [.op nb 4 0 0, dB 5 aA.c l, bI env] h (bCG h nb p sz st c l.length (kB (fun t e => gR p sz n t e env) l st)) := by
 refine gG 26 aOG aOH bD mix Tryz.func177 rfl (by kernel_rfl) (by simp) ?_
 simp -dsimp -implicitDefEqProofs only [go_sem, ↓reduceIte, Tryz.f177]
 refine ⟨Nat.zero_lt_one, fun _ => ?_⟩
 refine bX (keep := aOG) (ib := aOH) (mk := bD) mix (by kernel_rfl) (fun x : Nat × List (List Int) × Nat × Int × Option Nat => [(0, .op nb 4 0 0), (2, bI env), (7, eK 1 x.2.1.length x.2.2.2.2), (11, dB 5 aA.c l), (12, I l.length), (13, I x.1)]) (fun x => gQ (a5 h nb (cH p sz x.2.2.1 x.2.2.2.1)) (.row 1 ((x.2.1.map fun s => [ints s]).map (List.map .v))) x.2.2.2.2) (fun x => x.1 ≤ l.length ∧ x.2.1.length = x.1 ∧ (∀ s ∈ x.2.1, bC sz s) ∧ st ≤ x.2.2.1 ∧ x.2.2.1 ≤ 3000 ∧ gT (lY c (kB (fun t e => gR p sz n t e env) (l.take x.1) st)) x.2.1 x.2.2.1 x.2.2.2.1 ∧ eP h x.2.1 x.2.2.2.2) (fun x => l.length - x.1) (0, [], st, c, none) ⟨by simp [b8, bJ, eK], by simp only [aR]; rw [qE hb]; exact aB.le_refl _, Nat.zero_le _, rfl, by simp, Nat.le_refl _, hst, fL _ _ _, rfl⟩ ?_
 rintro ⟨k, vs, t, c', o⟩ ⟨hk, hvl, hvs, zA, ht, ho, hos⟩
 simp only at hk hvl hvs zA ht ho hos ⊢
 rcases Nat.lt_or_ge k l.length with hlt | hge
 ·have ek : l[k]? = some l[k] := List.getElem?_eq_getElem hlt
  have hnext : ∀ (s : List Int) (t2 : Nat) (c2 : Int), gT (lY c' (gR p sz n t l[k] env)) s t2 c2 → gT (lY c (kB (fun t e => gR p sz n t e env) (l.take (k + 1)) st)) (vs ++ [s]) t2 c2 := fun s t2 c2 h3 => by
   rw [List.take_succ_eq_append_getElem hlt, sH]
   exact ho.cQ (h3.cQ (fL _ _ _))
  have hall : ∀ s, bC sz s → ∀ x ∈ vs ++ [s], bC sz x := fun s hs x hx => by
   rcases List.mem_append.1 hx with hx | hx
   ·exact hvs x hx
   ·rw [List.mem_singleton.1 hx]; exact hs
  cases o with
  |none =>
   rw [a9] at hos
   subst hos
   simp -dsimp -implicitDefEqProofs only [go_sem, ↓reduceIte, Tryz.f177, a7, aR, hlt, ek, aA.aN]
   intro m9 bW
   have tW : ¬ m9 = nb := by first | exact bW.1 | exact bW | exact bW.2.1 | exact bW.2 | exact bW.2.2.1 | exact bW.2.2 | exact bW.2.2.2.1 | exact bW.2.2.2 | exact bW.2.2.2.2.1 | exact bW.2.2.2.2 | exact bW.2.2.2.2.2.1 | exact bW.2.2.2.2.2 | exact bW.2.2.2.2.2.2.1 | exact bW.2.2.2.2.2.2 | exact bW.2.2.2.2.2.2.2.1 | exact bW.2.2.2.2.2.2.2 | exact bW.2.2.2.2.2.2.2.2.1 | exact bW.2.2.2.2.2.2.2.2 | exact bW.2.2.2.2.2.2.2.2.2.1 | exact bW.2.2.2.2.2.2.2.2.2 | exact bW.2.2.2.2.2.2.2.2.2.2.1 | exact bW.2.2.2.2.2.2.2.2.2.2 | exact bW.2.2.2.2.2.2.2.2.2.2.2.1 | exact bW.2.2.2.2.2.2.2.2.2.2.2 | exact bW.2.2.2.2.2.2.2.2.2.2.2.2.1 | exact bW.2.2.2.2.2.2.2.2.2.2.2.2 | exact bW.2.2.2.2.2.2.2.2.2.2.2.2.2.1 | exact bW.2.2.2.2.2.2.2.2.2.2.2.2.2
   have aB4 : (m9 = nb) = False := eq_false tW
   have aB5 : (nb = m9) = False := eq_false (Ne.symm tW)
   have aHR : ¬ nb = m9 := Ne.symm tW
   have bCH : h m9 = none := by first | exact bW.1 | exact bW | exact bW.2.1 | exact bW.2 | exact bW.2.2.1 | exact bW.2.2 | exact bW.2.2.2.1 | exact bW.2.2.2 | exact bW.2.2.2.2.1 | exact bW.2.2.2.2 | exact bW.2.2.2.2.2.1 | exact bW.2.2.2.2.2 | exact bW.2.2.2.2.2.2.1 | exact bW.2.2.2.2.2.2 | exact bW.2.2.2.2.2.2.2.1 | exact bW.2.2.2.2.2.2.2 | exact bW.2.2.2.2.2.2.2.2.1 | exact bW.2.2.2.2.2.2.2.2 | exact bW.2.2.2.2.2.2.2.2.2.1 | exact bW.2.2.2.2.2.2.2.2.2 | exact bW.2.2.2.2.2.2.2.2.2.2.1 | exact bW.2.2.2.2.2.2.2.2.2.2 | exact bW.2.2.2.2.2.2.2.2.2.2.2.1 | exact bW.2.2.2.2.2.2.2.2.2.2.2 | exact bW.2.2.2.2.2.2.2.2.2.2.2.2.1 | exact bW.2.2.2.2.2.2.2.2.2.2.2.2 | exact bW.2.2.2.2.2.2.2.2.2.2.2.2.2.1 | exact bW.2.2.2.2.2.2.2.2.2.2.2.2.2
   rw [aK]
   have hvk := hv (a5 (a5 h nb (cH p sz t c')) m9 (.row 5 [l[k].c.map .v])) nb t c' l[k] env funcs (by rw [aF _ _ _ _ aHR, aH]) ht (by omega) (hok _ (List.getElem_mem _)) c7 hf henv (by omega)
   rw [aA.aN] at hvk
   refine aG.fF hvk ?_
   rintro r h' ⟨s, t2, c2, rfl, rfl, hs, h1, h2, h3⟩
   simp -dsimp -implicitDefEqProofs only [go_sem, ↓reduceIte, Tryz.f177]
   refine ⟨Nat.zero_lt_one, Nat.zero_lt_one, Nat.zero_lt_one, ?_⟩
   intro b aS
   have bS : ¬ b = nb := by first | exact aS.1 | exact aS | exact aS.2.1 | exact aS.2 | exact aS.2.2.1 | exact aS.2.2 | exact aS.2.2.2.1 | exact aS.2.2.2 | exact aS.2.2.2.2.1 | exact aS.2.2.2.2 | exact aS.2.2.2.2.2.1 | exact aS.2.2.2.2.2 | exact aS.2.2.2.2.2.2.1 | exact aS.2.2.2.2.2.2 | exact aS.2.2.2.2.2.2.2.1 | exact aS.2.2.2.2.2.2.2 | exact aS.2.2.2.2.2.2.2.2.1 | exact aS.2.2.2.2.2.2.2.2 | exact aS.2.2.2.2.2.2.2.2.2.1 | exact aS.2.2.2.2.2.2.2.2.2 | exact aS.2.2.2.2.2.2.2.2.2.2.1 | exact aS.2.2.2.2.2.2.2.2.2.2 | exact aS.2.2.2.2.2.2.2.2.2.2.2.1 | exact aS.2.2.2.2.2.2.2.2.2.2.2 | exact aS.2.2.2.2.2.2.2.2.2.2.2.2.1 | exact aS.2.2.2.2.2.2.2.2.2.2.2.2 | exact aS.2.2.2.2.2.2.2.2.2.2.2.2.2.1 | exact aS.2.2.2.2.2.2.2.2.2.2.2.2.2
   have cI : (b = nb) = False := eq_false bS
   have cJ : (nb = b) = False := eq_false (Ne.symm bS)
   have dO : ¬ nb = b := Ne.symm bS
   have rS : ¬ b = m9 := by first | exact aS.1 | exact aS | exact aS.2.1 | exact aS.2 | exact aS.2.2.1 | exact aS.2.2 | exact aS.2.2.2.1 | exact aS.2.2.2 | exact aS.2.2.2.2.1 | exact aS.2.2.2.2 | exact aS.2.2.2.2.2.1 | exact aS.2.2.2.2.2 | exact aS.2.2.2.2.2.2.1 | exact aS.2.2.2.2.2.2 | exact aS.2.2.2.2.2.2.2.1 | exact aS.2.2.2.2.2.2.2 | exact aS.2.2.2.2.2.2.2.2.1 | exact aS.2.2.2.2.2.2.2.2 | exact aS.2.2.2.2.2.2.2.2.2.1 | exact aS.2.2.2.2.2.2.2.2.2 | exact aS.2.2.2.2.2.2.2.2.2.2.1 | exact aS.2.2.2.2.2.2.2.2.2.2 | exact aS.2.2.2.2.2.2.2.2.2.2.2.1 | exact aS.2.2.2.2.2.2.2.2.2.2.2 | exact aS.2.2.2.2.2.2.2.2.2.2.2.2.1 | exact aS.2.2.2.2.2.2.2.2.2.2.2.2 | exact aS.2.2.2.2.2.2.2.2.2.2.2.2.2.1 | exact aS.2.2.2.2.2.2.2.2.2.2.2.2.2
   have aD5 : (b = m9) = False := eq_false rS
   have aD6 : (m9 = b) = False := eq_false (Ne.symm rS)
   have aM2 : ¬ m9 = b := Ne.symm rS
   have z_b : h b = none := by first | exact aS.1 | exact aS | exact aS.2.1 | exact aS.2 | exact aS.2.2.1 | exact aS.2.2 | exact aS.2.2.2.1 | exact aS.2.2.2 | exact aS.2.2.2.2.1 | exact aS.2.2.2.2 | exact aS.2.2.2.2.2.1 | exact aS.2.2.2.2.2 | exact aS.2.2.2.2.2.2.1 | exact aS.2.2.2.2.2.2 | exact aS.2.2.2.2.2.2.2.1 | exact aS.2.2.2.2.2.2.2 | exact aS.2.2.2.2.2.2.2.2.1 | exact aS.2.2.2.2.2.2.2.2 | exact aS.2.2.2.2.2.2.2.2.2.1 | exact aS.2.2.2.2.2.2.2.2.2 | exact aS.2.2.2.2.2.2.2.2.2.2.1 | exact aS.2.2.2.2.2.2.2.2.2.2 | exact aS.2.2.2.2.2.2.2.2.2.2.2.1 | exact aS.2.2.2.2.2.2.2.2.2.2.2 | exact aS.2.2.2.2.2.2.2.2.2.2.2.2.1 | exact aS.2.2.2.2.2.2.2.2.2.2.2.2 | exact aS.2.2.2.2.2.2.2.2.2.2.2.2.2.1 | exact aS.2.2.2.2.2.2.2.2.2.2.2.2.2
   refine ⟨(k + 1, [s], t2, c2, some b), ⟨rfl, by rw [IntWalk.i64_in _ (by omega)]; rfl⟩, (jM (by repeat' (first | exact h8 _ _ | refine jN (by simp only [c8, ↓reduceIte, eq_self, if_true, aB5, cJ, aB4, aD6, cI, aD5, List.map_cons, List.map_nil]) ?_ | refine fY (by first | exact .inr (by assumption) | exact .inl (by simp)) ?_))), ⟨by omega, by simp only [List.length_nil] at hvl; subst hvl; rfl, fun x hx => hall s hs x hx, Nat.le_trans zA h1, h2, hnext s t2 c2 h3, z_b⟩, by simp only; omega⟩
  |some m =>
   rw [aU] at hos
   have dA : ¬ m = nb := fun e => by rw [e, hb] at hos; cases hos
   have c5 : ¬ nb = m := Ne.symm dA
   have dG : (m = nb) = False := eq_false dA
   have dH : (nb = m) = False := eq_false c5
   simp -dsimp -implicitDefEqProofs only [go_sem, ↓reduceIte, Tryz.f177, aT, aL, hlt, ek, aA.aN]
   intro m9 bW
   have vP : ¬ m9 = m := by first | exact bW.1 | exact bW | exact bW.2.1 | exact bW.2 | exact bW.2.2.1 | exact bW.2.2 | exact bW.2.2.2.1 | exact bW.2.2.2 | exact bW.2.2.2.2.1 | exact bW.2.2.2.2 | exact bW.2.2.2.2.2.1 | exact bW.2.2.2.2.2 | exact bW.2.2.2.2.2.2.1 | exact bW.2.2.2.2.2.2 | exact bW.2.2.2.2.2.2.2.1 | exact bW.2.2.2.2.2.2.2 | exact bW.2.2.2.2.2.2.2.2.1 | exact bW.2.2.2.2.2.2.2.2 | exact bW.2.2.2.2.2.2.2.2.2.1 | exact bW.2.2.2.2.2.2.2.2.2 | exact bW.2.2.2.2.2.2.2.2.2.2.1 | exact bW.2.2.2.2.2.2.2.2.2.2 | exact bW.2.2.2.2.2.2.2.2.2.2.2.1 | exact bW.2.2.2.2.2.2.2.2.2.2.2 | exact bW.2.2.2.2.2.2.2.2.2.2.2.2.1 | exact bW.2.2.2.2.2.2.2.2.2.2.2.2 | exact bW.2.2.2.2.2.2.2.2.2.2.2.2.2.1 | exact bW.2.2.2.2.2.2.2.2.2.2.2.2.2
   have aD7 : (m9 = m) = False := eq_false vP
   have aD8 : (m = m9) = False := eq_false (Ne.symm vP)
   have aTG : ¬ m = m9 := Ne.symm vP
   have tW : ¬ m9 = nb := by first | exact bW.1 | exact bW | exact bW.2.1 | exact bW.2 | exact bW.2.2.1 | exact bW.2.2 | exact bW.2.2.2.1 | exact bW.2.2.2 | exact bW.2.2.2.2.1 | exact bW.2.2.2.2 | exact bW.2.2.2.2.2.1 | exact bW.2.2.2.2.2 | exact bW.2.2.2.2.2.2.1 | exact bW.2.2.2.2.2.2 | exact bW.2.2.2.2.2.2.2.1 | exact bW.2.2.2.2.2.2.2 | exact bW.2.2.2.2.2.2.2.2.1 | exact bW.2.2.2.2.2.2.2.2 | exact bW.2.2.2.2.2.2.2.2.2.1 | exact bW.2.2.2.2.2.2.2.2.2 | exact bW.2.2.2.2.2.2.2.2.2.2.1 | exact bW.2.2.2.2.2.2.2.2.2.2 | exact bW.2.2.2.2.2.2.2.2.2.2.2.1 | exact bW.2.2.2.2.2.2.2.2.2.2.2 | exact bW.2.2.2.2.2.2.2.2.2.2.2.2.1 | exact bW.2.2.2.2.2.2.2.2.2.2.2.2 | exact bW.2.2.2.2.2.2.2.2.2.2.2.2.2.1 | exact bW.2.2.2.2.2.2.2.2.2.2.2.2.2
   have aB4 : (m9 = nb) = False := eq_false tW
   have aB5 : (nb = m9) = False := eq_false (Ne.symm tW)
   have aHR : ¬ nb = m9 := Ne.symm tW
   have bCH : h m9 = none := by first | exact bW.1 | exact bW | exact bW.2.1 | exact bW.2 | exact bW.2.2.1 | exact bW.2.2 | exact bW.2.2.2.1 | exact bW.2.2.2 | exact bW.2.2.2.2.1 | exact bW.2.2.2.2 | exact bW.2.2.2.2.2.1 | exact bW.2.2.2.2.2 | exact bW.2.2.2.2.2.2.1 | exact bW.2.2.2.2.2.2 | exact bW.2.2.2.2.2.2.2.1 | exact bW.2.2.2.2.2.2.2 | exact bW.2.2.2.2.2.2.2.2.1 | exact bW.2.2.2.2.2.2.2.2 | exact bW.2.2.2.2.2.2.2.2.2.1 | exact bW.2.2.2.2.2.2.2.2.2 | exact bW.2.2.2.2.2.2.2.2.2.2.1 | exact bW.2.2.2.2.2.2.2.2.2.2 | exact bW.2.2.2.2.2.2.2.2.2.2.2.1 | exact bW.2.2.2.2.2.2.2.2.2.2.2 | exact bW.2.2.2.2.2.2.2.2.2.2.2.2.1 | exact bW.2.2.2.2.2.2.2.2.2.2.2.2 | exact bW.2.2.2.2.2.2.2.2.2.2.2.2.2.1 | exact bW.2.2.2.2.2.2.2.2.2.2.2.2.2
   rw [aK]
   have hvk := hv (a5 (a5 (a5 h nb (cH p sz t c')) m (.row 1 ((vs.map fun s => [ints s]).map (List.map .v)))) m9 (.row 5 [l[k].c.map .v])) nb t c' l[k] env funcs (by rw [aF _ _ _ _ aHR, aF _ _ _ _ c5, aH]) ht (by omega) (hok _ (List.getElem_mem _)) c7 hf henv (by omega)
   rw [aA.aN] at hvk
   refine aG.fF hvk ?_
   rintro r h' ⟨s, t2, c2, rfl, rfl, hs, h1, h2, h3⟩
   simp -dsimp -implicitDefEqProofs only [go_sem, ↓reduceIte, Tryz.f177, aF, dG, aD8, dH, aB5, aD7, aB4]
   refine ⟨Nat.zero_lt_one, Nat.zero_lt_one, Nat.zero_lt_one, Nat.le_refl _, by omega, by omega, ?_⟩
   intro b aS
   have bS : ¬ b = nb := by first | exact aS.1 | exact aS | exact aS.2.1 | exact aS.2 | exact aS.2.2.1 | exact aS.2.2 | exact aS.2.2.2.1 | exact aS.2.2.2 | exact aS.2.2.2.2.1 | exact aS.2.2.2.2 | exact aS.2.2.2.2.2.1 | exact aS.2.2.2.2.2 | exact aS.2.2.2.2.2.2.1 | exact aS.2.2.2.2.2.2 | exact aS.2.2.2.2.2.2.2.1 | exact aS.2.2.2.2.2.2.2 | exact aS.2.2.2.2.2.2.2.2.1 | exact aS.2.2.2.2.2.2.2.2 | exact aS.2.2.2.2.2.2.2.2.2.1 | exact aS.2.2.2.2.2.2.2.2.2 | exact aS.2.2.2.2.2.2.2.2.2.2.1 | exact aS.2.2.2.2.2.2.2.2.2.2 | exact aS.2.2.2.2.2.2.2.2.2.2.2.1 | exact aS.2.2.2.2.2.2.2.2.2.2.2 | exact aS.2.2.2.2.2.2.2.2.2.2.2.2.1 | exact aS.2.2.2.2.2.2.2.2.2.2.2.2 | exact aS.2.2.2.2.2.2.2.2.2.2.2.2.2.1 | exact aS.2.2.2.2.2.2.2.2.2.2.2.2.2
   have cI : (b = nb) = False := eq_false bS
   have cJ : (nb = b) = False := eq_false (Ne.symm bS)
   have dO : ¬ nb = b := Ne.symm bS
   have rS : ¬ b = m9 := by first | exact aS.1 | exact aS | exact aS.2.1 | exact aS.2 | exact aS.2.2.1 | exact aS.2.2 | exact aS.2.2.2.1 | exact aS.2.2.2 | exact aS.2.2.2.2.1 | exact aS.2.2.2.2 | exact aS.2.2.2.2.2.1 | exact aS.2.2.2.2.2 | exact aS.2.2.2.2.2.2.1 | exact aS.2.2.2.2.2.2 | exact aS.2.2.2.2.2.2.2.1 | exact aS.2.2.2.2.2.2.2 | exact aS.2.2.2.2.2.2.2.2.1 | exact aS.2.2.2.2.2.2.2.2 | exact aS.2.2.2.2.2.2.2.2.2.1 | exact aS.2.2.2.2.2.2.2.2.2 | exact aS.2.2.2.2.2.2.2.2.2.2.1 | exact aS.2.2.2.2.2.2.2.2.2.2 | exact aS.2.2.2.2.2.2.2.2.2.2.2.1 | exact aS.2.2.2.2.2.2.2.2.2.2.2 | exact aS.2.2.2.2.2.2.2.2.2.2.2.2.1 | exact aS.2.2.2.2.2.2.2.2.2.2.2.2 | exact aS.2.2.2.2.2.2.2.2.2.2.2.2.2.1 | exact aS.2.2.2.2.2.2.2.2.2.2.2.2.2
   have aD5 : (b = m9) = False := eq_false rS
   have aD6 : (m9 = b) = False := eq_false (Ne.symm rS)
   have aM2 : ¬ m9 = b := Ne.symm rS
   have gJ : ¬ b = m := by first | exact aS.1 | exact aS | exact aS.2.1 | exact aS.2 | exact aS.2.2.1 | exact aS.2.2 | exact aS.2.2.2.1 | exact aS.2.2.2 | exact aS.2.2.2.2.1 | exact aS.2.2.2.2 | exact aS.2.2.2.2.2.1 | exact aS.2.2.2.2.2 | exact aS.2.2.2.2.2.2.1 | exact aS.2.2.2.2.2.2 | exact aS.2.2.2.2.2.2.2.1 | exact aS.2.2.2.2.2.2.2 | exact aS.2.2.2.2.2.2.2.2.1 | exact aS.2.2.2.2.2.2.2.2 | exact aS.2.2.2.2.2.2.2.2.2.1 | exact aS.2.2.2.2.2.2.2.2.2 | exact aS.2.2.2.2.2.2.2.2.2.2.1 | exact aS.2.2.2.2.2.2.2.2.2.2 | exact aS.2.2.2.2.2.2.2.2.2.2.2.1 | exact aS.2.2.2.2.2.2.2.2.2.2.2 | exact aS.2.2.2.2.2.2.2.2.2.2.2.2.1 | exact aS.2.2.2.2.2.2.2.2.2.2.2.2 | exact aS.2.2.2.2.2.2.2.2.2.2.2.2.2.1 | exact aS.2.2.2.2.2.2.2.2.2.2.2.2.2
   have lB : (b = m) = False := eq_false gJ
   have lC : (m = b) = False := eq_false (Ne.symm gJ)
   have kV : ¬ m = b := Ne.symm gJ
   have z_b : h b = none := by first | exact aS.1 | exact aS | exact aS.2.1 | exact aS.2 | exact aS.2.2.1 | exact aS.2.2 | exact aS.2.2.2.1 | exact aS.2.2.2 | exact aS.2.2.2.2.1 | exact aS.2.2.2.2 | exact aS.2.2.2.2.2.1 | exact aS.2.2.2.2.2 | exact aS.2.2.2.2.2.2.1 | exact aS.2.2.2.2.2.2 | exact aS.2.2.2.2.2.2.2.1 | exact aS.2.2.2.2.2.2.2 | exact aS.2.2.2.2.2.2.2.2.1 | exact aS.2.2.2.2.2.2.2.2 | exact aS.2.2.2.2.2.2.2.2.2.1 | exact aS.2.2.2.2.2.2.2.2.2 | exact aS.2.2.2.2.2.2.2.2.2.2.1 | exact aS.2.2.2.2.2.2.2.2.2.2 | exact aS.2.2.2.2.2.2.2.2.2.2.2.1 | exact aS.2.2.2.2.2.2.2.2.2.2.2 | exact aS.2.2.2.2.2.2.2.2.2.2.2.2.1 | exact aS.2.2.2.2.2.2.2.2.2.2.2.2 | exact aS.2.2.2.2.2.2.2.2.2.2.2.2.2.1 | exact aS.2.2.2.2.2.2.2.2.2.2.2.2.2
   refine ⟨(k + 1, vs ++ [s], t2, c2, some b), ⟨by rw [aT, List.length_append]; rfl, by rw [IntWalk.i64_in _ (by omega)]; rfl⟩, ?_, ⟨by omega, by rw [List.length_append, hvl]; rfl, hall s hs, Nat.le_trans zA h1, h2, hnext s t2 c2 h3, z_b⟩, by simp only; omega⟩
   simp only [aL]
   rw [← eN ints]
   exact (jM (by repeat' (first | exact h8 _ _ | refine jN (by simp only [c8, ↓reduceIte, eq_self, if_true, aB5, cJ, dH, aB4, aD6, aD7, cI, aD5, lB, dG, aD8, lC]) ?_ | refine fY (by first | exact .inr (by assumption) | exact .inl (by simp)) ?_)))
 ·have hk' : k = l.length := by omega
  subst hk'
  rw [List.take_length] at ho
  cases o with
  |none =>
   rw [a9] at hos
   subst hos
   simp -dsimp -implicitDefEqProofs only [go_sem, ↓reduceIte, Tryz.f177, a7, aR, Nat.lt_irrefl]
   exact ⟨bI [], _, Shift.of (Sub.loose _ _ _) (aB.le_refl _), [], t, c', rfl, rfl, hvl, hvs, zA, ht, ho⟩
  |some m =>
   rw [aU] at hos
   simp -dsimp -implicitDefEqProofs only [go_sem, ↓reduceIte, Tryz.f177, aT, aL, Nat.lt_irrefl]
   have hmn : ¬ m = nb := fun e => by rw [e, hb] at hos; cases hos
   exact ⟨bI vs, _, nZ (vs.map fun s => [ints s]) (h := a5 h nb (cH p sz t c')) (by rw [aF _ _ _ _ hmn, hos]) (aB.le_refl _) _ (by rw [List.length_map]), vs, t, c', rfl, rfl, hvl, hvs, zA, ht, ho⟩
theorem a2E (m : Nat) (es : List (List aD)) (x : aA) : kH m es x.c = x.c := by rw [aA.aN]; rfl
theorem aTH (m sz k : Nat) (x : aA) : e8 m sz k x.c = true := by rw [aA.aN]; rfl
theorem yH.aS0 {P : Program} {N : Nat} {c : Code} {Q : Exit → bB → aB → Prop} {τ : bB} {h : aB} {t : Tag (c, Q)} (n : Nat) {es : List (List aD)} (hh : h n = none) (hb : τ.all (fun p => eF n 1 es.length p.2) = true)
  (x : yH P N c Q (τ.map fun p => (p.1, p.2.c9 n es)) (a5 h n .gone) ()) : yH P N c Q τ (a5 h n (.row 1 (es.map (List.map .v)))) t := by
 have y := mI.nT (c := c) (Q := Q) (τ := τ) (N := N) (P := P) (h := a5 h n (.row 1 (es.map (List.map .v)))) n (sz := 1) (es := es.map (List.map .v)) (aH _ _ _) (by simpa using hb)
 rw [aK, lF] at y
 exact y x
theorem aG.aBI {P : Program} {f : FuncId} {h : aB} {K : aD → aB → Prop} {t : Tag K} {nb m k len : Nat} {x : aD} {es : List (List aD)} (hx : x.c9 m es = x) (hx2 : eF m 1 es.length x = true) (hne : ¬ nb = m) (hl : len = es.length) (hm : h m = none) (a : eH P f [.op nb k 0 0, x, .sl 1 es false] (a5 h m .gone) K) :
  aG P f [.op nb k 0 0, x, .os m 1 0 len] (a5 h m (.row 1 (es.map (List.map .v)))) K t := by
 subst hl
 refine aG.aS0 m (aH _ _ _) (by simp [e8, eF, hx2, hne]) ?_
 rw [aK, lF]
 have h1 : kH m es [.op nb k 0 0, x, .os m 1 0 es.length] = [.op nb k 0 0, x, .sl 1 es false] := by
  simp only [kH, aD.c9, hx, if_neg hne, if_true, List.drop_zero, List.take_length]
 rw [h1]
 exact a
theorem aG.aPC {P : Program} {f : FuncId} {h : aB} {K : aD → aB → Prop} {t : Tag K} {nb m k len : Nat} {e : aA} {es : List (List aD)} (hne : ¬ nb = m) (hl : len = es.length) (hm : h m = none) (a : eH P f [.op nb k 0 0, .agg e.c, .sl 1 es false] (a5 h m .gone) K) :
  aG P f [.op nb k 0 0, .agg e.c, .os m 1 0 len] (a5 h m (.row 1 (es.map (List.map .v)))) K t := by
 subst hl
 refine aG.aS0 m (aH _ _ _) (by simp [e8, eF, aTH, hne]) ?_
 rw [aK, lF]
 have h1 : kH m es [.op nb k 0 0, .agg e.c, .os m 1 0 es.length] = [.op nb k 0 0, .agg e.c, .sl 1 es false] := by
  simp only [kH, aD.c9, a2E, if_neg hne, if_true, List.drop_zero, List.take_length]
 rw [h1]
 exact a
theorem qH {sz : Nat} {env : List (List Int)} {s : List Int} (he : ∀ x ∈ env, bC sz x) (hs : bC sz s) : ∀ x ∈ env ++ [s], bC sz x := fun x hx => by
 rcases List.mem_append.1 hx with hx | hx
 ·exact he x hx
 ·rw [List.mem_singleton.1 hx]; exact hs
theorem aHS (l : List (List Int)) (hl : l.length ≤ 1048576) : dV Tryz.prog 226 [bI l] (.sl 1 (l.map fun s => [ints s]) true) := by
 refine dS 9 aAH bT bD mix Tryz.func226 rfl (by kernel_rfl) (by simp) fun h => ?_
 simp -dsimp -implicitDefEqProofs only [go_sem, ↓reduceIte, Tryz.f226]
 repeat' (with_reducible first | intro _ | refine And.intro ?_ ?_)
 all_goals try omega
 rw [List.take_of_length_le (by rw [List.length_map]; exact Nat.le_refl _)]
theorem iZ : iI 0 := by unfold iI; simp
theorem aM4 {p : aC} {sz n : Nat} (hsz : 1 ≤ sz ∧ sz ≤ 1048576) (h : aB) (nb st : Nat) (c : Int) (e : aA) (env : List (List Int)) (hb : h nb = some (cH p sz st c)) (hst : st ≤ 3000) (hs : ¬ c = 0 ∨ st = 3000) :
  eH Tryz.prog 206 [.op nb 4 0 0, .agg e.c, bI env] h (EvQ h nb p sz st c (gR p sz (n + 1) st e env)) := by
 rw [aA.aN]
 have hb' := hb
 unfold cH at hb'
 refine gG 210 lR sK sM mix Tryz.func206 rfl (by kernel_rfl) (by simp) ?_
 simp -dsimp -implicitDefEqProofs only [go_sem, ↓reduceIte, Tryz.f206, hb']
 refine ⟨fun hc => ?_, fun hc => ?_⟩
 ·refine aG.fF (kC _ nb _ _ _ 0 sz hb' hsz) ?_
  rintro r h' ⟨rfl, rfl⟩
  simp -dsimp -implicitDefEqProofs only [go_sem, ↓reduceIte, Tryz.f206]
  have hc' : ¬ c = 0 := by simpa using hc
  exact ⟨_, _, aV _ _, _, st, c, rfl, (qE hb).symm, dF iZ, Nat.le_refl _, hst, by rw [gD _ hc']; exact dN _ _ hc'⟩
 ·have pB : c = 0 := by simpa using hc
  subst pB
  have h3 : st = 3000 := by rcases hs with hs | hs; exact absurd rfl hs; exact hs
  subst h3
  try simp -dsimp -implicitDefEqProofs only [go_sem, ↓reduceIte, Tryz.f206, hb']
  refine ⟨fun _ => ?_, fun q => absurd q (by simp)⟩
  refine aG.fF (kC _ nb _ _ _ 0 sz (aH _ _ _) hsz) ?_
  rintro r h' ⟨rfl, rfl⟩
  simp -dsimp -implicitDefEqProofs only [go_sem, ↓reduceIte, Tryz.f206]
  refine ⟨_, _, aV _ _, _, 3000, 7, rfl, rfl, dF iZ, Nat.le_refl _, hst, ?_⟩
  rw [cA, gR, if_pos rfl]
  exact dN _ _ (by decide)
theorem aW2 {p : aC} (hp : p.ok) {sz n : Nat} (hsz : 1 ≤ sz ∧ sz ≤ 1048576) (hv : lS p sz n) (h : aB) (nb st : Nat) (e : aA) (env : List (List Int)) (funcs : Int) (hb : h nb = some (cH p sz st 0)) (hst : st < 3000) (hn : 3001 ≤ n + 1 + st)
  (hok : e.ok p funcs env.length) (c7 : 0 ≤ funcs) (hf : funcs ≤ p.aJ.length) (henv : ∀ s ∈ env, bC sz s) (hel : env.length ≤ 412 + st) (hk : e.aQ = 1) :
  eH Tryz.prog 206 [.op nb 4 0 0, .agg e.c, bI env] h (EvQ h nb p sz st 0 (gR p sz (n + 1) st e env)) := by
 rw [aA.aN]
 have hb' := hb
 unfold cH at hb'
 have e3 : ((st : Int) = 3000) = False := eq_false (by omega)
 have ew : IntKind.i64.wrap ((st : Int) + 1) = ((st + 1 : Nat) : Int) := by rw [IntWalk.i64_in _ (by omega)]; rfl
 have hnode := (aA.cC _ _ _ _).1 hok
 have h3 : ¬ st = 3000 := by omega
 have hnum : iI e.aW := ((dM (by omega)).1 hnode.1).2.2.2.1 hk
 refine gG 210 lR sK sM mix Tryz.func206 rfl (by kernel_rfl) (by simp) ?_
 simp -dsimp -implicitDefEqProofs only [go_sem, ↓reduceIte, Tryz.f206, hb', e3, ew, hk]
 refine aG.fF (kC _ nb _ _ _ e.aW sz (aH _ _ _) hsz) ?_
 rintro r h' ⟨rfl, rfl⟩
 simp -dsimp -implicitDefEqProofs only [go_sem, ↓reduceIte, Tryz.f206]
 refine ⟨_, _, aV _ _, _, st + 1, 0, rfl, rfl, dF hnum, Nat.le_succ _, hst, ?_⟩
 rw [cA, aO7 h3 hk]
 exact jP _ _
theorem aW3 {p : aC} (hp : p.ok) {sz n : Nat} (hsz : 1 ≤ sz ∧ sz ≤ 1048576) (hv : lS p sz n) (h : aB) (nb st : Nat) (e : aA) (env : List (List Int)) (funcs : Int) (hb : h nb = some (cH p sz st 0)) (hst : st < 3000) (hn : 3001 ≤ n + 1 + st)
  (hok : e.ok p funcs env.length) (c7 : 0 ≤ funcs) (hf : funcs ≤ p.aJ.length) (henv : ∀ s ∈ env, bC sz s) (hel : env.length ≤ 412 + st) (hk : e.aQ = 2) :
  eH Tryz.prog 206 [.op nb 4 0 0, .agg e.c, bI env] h (EvQ h nb p sz st 0 (gR p sz (n + 1) st e env)) := by
 rw [aA.aN]
 have hb' := hb
 unfold cH at hb'
 have e3 : ((st : Int) = 3000) = False := eq_false (by omega)
 have ew : IntKind.i64.wrap ((st : Int) + 1) = ((st + 1 : Nat) : Int) := by rw [IntWalk.i64_in _ (by omega)]; rfl
 have hnode := (aA.cC _ _ _ _).1 hok
 have h3 : ¬ st = 3000 := by omega
 have hnum := ((dM (by omega)).1 hnode.1).2.2.2.2.1 hk
 have hlt : e.aW.toNat < env.length := by omega
 refine gG 210 lR sK sM mix Tryz.func206 rfl (by kernel_rfl) (by simp) ?_
 simp -dsimp -implicitDefEqProofs only [go_sem, ↓reduceIte, Tryz.f206, hb', e3, ew, hk, fO hlt]
 refine ⟨hnum.1, by omega, _, _, aV _ _, _, st + 1, 0, rfl, rfl, gM henv hlt, Nat.le_succ _, hst, ?_⟩
 rw [cA, aO8 h3 hk]
 exact jP _ _
theorem aW4 {p : aC} (hp : p.ok) {sz n : Nat} (hsz : 1 ≤ sz ∧ sz ≤ 1048576) (hv : lS p sz n) (h : aB) (nb st : Nat) (e : aA) (env : List (List Int)) (funcs : Int) (hb : h nb = some (cH p sz st 0)) (hst : st < 3000) (hn : 3001 ≤ n + 1 + st)
  (hok : e.ok p funcs env.length) (c7 : 0 ≤ funcs) (hf : funcs ≤ p.aJ.length) (henv : ∀ s ∈ env, bC sz s) (hel : env.length ≤ 412 + st) (hk : e.aQ = 8) :
  eH Tryz.prog 206 [.op nb 4 0 0, .agg e.c, bI env] h (EvQ h nb p sz st 0 (gR p sz (n + 1) st e env)) := by
 rw [aA.aN]
 have hb' := hb
 unfold cH at hb'
 have e3 : ((st : Int) = 3000) = False := eq_false (by omega)
 have ew : IntKind.i64.wrap ((st : Int) + 1) = ((st + 1 : Nat) : Int) := by rw [IntWalk.i64_in _ (by omega)]; rfl
 have hnode := (aA.cC _ _ _ _).1 hok
 have h3 : ¬ st = 3000 := by omega
 have hlen := cG hok (by omega)
 rw [hk, show eE 8 = 3 from rfl] at hlen
 have g0 : e.aI[Int.toNat 0]? = some (e.kU 0) := aA.fE (by omega)
 have g1 : e.aI[Int.toNat 1]? = some (e.kU 1) := aA.fE (by omega)
 have g2 : e.aI[Int.toNat 2]? = some (e.kU 2) := aA.fE (by omega)
 have o0 := aA.dW hok (i := 0) (by omega)
 have o1 := aA.dW hok (i := 1) (by omega)
 have o2 := aA.dW hok (i := 2) (by omega)
 rw [gI (by omega)] at o0 o1 o2
 refine gG 210 lR sK sM mix Tryz.func206 rfl (by kernel_rfl) (by simp) ?_
 simp -dsimp -implicitDefEqProofs only [go_sem, ↓reduceIte, Tryz.f206, hb', e3, ew, hk, g0, aA.ld5]
 refine ⟨by omega, ?_⟩
 refine aG.fF (hv (a5 h nb (cH p sz (st + 1) 0)) nb (st + 1) 0 (e.kU 0) env funcs (aH _ _ _) (by omega) (by omega) o0 c7 hf henv (by omega)) ?_
 rintro r h' ⟨s1, t1, c1, rfl, rfl, jF, a1, a2, a3⟩
 have gs : s1[Int.toNat 0]? = some (s1.getD 0 0) := bR (by rw [jF.1]; omega)
 simp -dsimp -implicitDefEqProofs only [go_sem, ↓reduceIte, Tryz.f206, gs, g1, g2, aA.ld5]
 refine ⟨by rw [jF.1]; omega, fun hz => ⟨by omega, ?_⟩, fun hz => ⟨by omega, ?_⟩⟩
 ·rw [aK]
  refine aG.fF (hv (a5 h nb (cH p sz t1 c1)) nb t1 c1 (e.kU 1) env funcs (aH _ _ _) (by omega) (by omega) o1 c7 hf henv (by omega)) ?_
  rintro r h' ⟨s2, t2, c2, rfl, rfl, j3, b1, b2, b3⟩
  simp -dsimp -implicitDefEqProofs only [go_sem, ↓reduceIte, Tryz.f206]
  refine ⟨_, _, aV _ _, s2, t2, c2, rfl, by rw [aK], j3, by omega, b2, ?_⟩
  rw [aF4 h3 hk]
  refine a3.cQ ?_
  rw [if_pos hz]
  exact b3
 ·rw [aK]
  refine aG.fF (hv (a5 h nb (cH p sz t1 c1)) nb t1 c1 (e.kU 2) env funcs (aH _ _ _) (by omega) (by omega) o2 c7 hf henv (by omega)) ?_
  rintro r h' ⟨s2, t2, c2, rfl, rfl, j3, b1, b2, b3⟩
  simp -dsimp -implicitDefEqProofs only [go_sem, ↓reduceIte, Tryz.f206]
  refine ⟨_, _, aV _ _, s2, t2, c2, rfl, by rw [aK], j3, by omega, b2, ?_⟩
  rw [aF4 h3 hk]
  refine a3.cQ ?_
  rw [if_neg hz]
  exact b3
theorem aW5 {p : aC} (hp : p.ok) {sz n : Nat} (hsz : 1 ≤ sz ∧ sz ≤ 1048576) (hv : lS p sz n) (h : aB) (nb st : Nat) (e : aA) (env : List (List Int)) (funcs : Int) (hb : h nb = some (cH p sz st 0)) (hst : st < 3000) (hn : 3001 ≤ n + 1 + st)
  (hok : e.ok p funcs env.length) (c7 : 0 ≤ funcs) (hf : funcs ≤ p.aJ.length) (henv : ∀ s ∈ env, bC sz s) (hel : env.length ≤ 412 + st) (hk : e.aQ = 9) :
  eH Tryz.prog 206 [.op nb 4 0 0, .agg e.c, bI env] h (EvQ h nb p sz st 0 (gR p sz (n + 1) st e env)) := by
 rw [aA.aN]
 have hb' := hb
 unfold cH at hb'
 have e3 : ((st : Int) = 3000) = False := eq_false (by omega)
 have ew : IntKind.i64.wrap ((st : Int) + 1) = ((st + 1 : Nat) : Int) := by rw [IntWalk.i64_in _ (by omega)]; rfl
 have hnode := (aA.cC _ _ _ _).1 hok
 have h3 : ¬ st = 3000 := by omega
 have hlen := cG hok (by omega)
 rw [hk, show eE 9 = 2 from rfl] at hlen
 have g0 : e.aI[Int.toNat 0]? = some (e.kU 0) := aA.fE (by omega)
 have g1 : e.aI[Int.toNat 1]? = some (e.kU 1) := aA.fE (by omega)
 have o0 := aA.dW hok (i := 0) (by omega)
 have o1 := aA.dW hok (i := 1) (by omega)
 rw [gI (by omega)] at o0
 rw [hk, show j2 9 1 (env.length : Int) = env.length + 1 from rfl] at o1
 refine gG 210 lR sK sM mix Tryz.func206 rfl (by kernel_rfl) (by simp) ?_
 simp -dsimp -implicitDefEqProofs only [go_sem, ↓reduceIte, Tryz.f206, hb', e3, ew, hk, g0, g1, aA.ld5]
 refine ⟨by omega, by omega, ?_⟩
 first | refine aG.mk (aHS env (by omega)) ?_ | refine aE.mk (aHS env (by omega)) ?_ | refine aG.a8 (aHS env (by omega)) ?_ | refine aE.mk (a6.cK (aHS env (by omega))) ?_
 simp -dsimp -implicitDefEqProofs only [go_sem, ↓reduceIte, Tryz.f206]
 refine aG.fF (hv (a5 h nb (cH p sz (st + 1) 0)) nb (st + 1) 0 (e.kU 0) env funcs (aH _ _ _) (by omega) (by omega) o0 c7 hf henv (by omega)) ?_
 rintro r h' ⟨s1, t1, c1, rfl, rfl, jF, a1, a2, a3⟩
 simp -dsimp -implicitDefEqProofs only [go_sem, ↓reduceIte, Tryz.f206]
 refine ⟨Nat.zero_lt_one, Nat.zero_lt_one, Nat.zero_lt_one, by omega, by omega, ?_⟩
 intro m nR
 have dA : ¬ m = nb := by first | exact nR.1 | exact nR | exact nR.2.1 | exact nR.2 | exact nR.2.2.1 | exact nR.2.2 | exact nR.2.2.2.1 | exact nR.2.2.2 | exact nR.2.2.2.2.1 | exact nR.2.2.2.2 | exact nR.2.2.2.2.2.1 | exact nR.2.2.2.2.2 | exact nR.2.2.2.2.2.2.1 | exact nR.2.2.2.2.2.2 | exact nR.2.2.2.2.2.2.2.1 | exact nR.2.2.2.2.2.2.2 | exact nR.2.2.2.2.2.2.2.2.1 | exact nR.2.2.2.2.2.2.2.2 | exact nR.2.2.2.2.2.2.2.2.2.1 | exact nR.2.2.2.2.2.2.2.2.2 | exact nR.2.2.2.2.2.2.2.2.2.2.1 | exact nR.2.2.2.2.2.2.2.2.2.2 | exact nR.2.2.2.2.2.2.2.2.2.2.2.1 | exact nR.2.2.2.2.2.2.2.2.2.2.2 | exact nR.2.2.2.2.2.2.2.2.2.2.2.2.1 | exact nR.2.2.2.2.2.2.2.2.2.2.2.2 | exact nR.2.2.2.2.2.2.2.2.2.2.2.2.2.1 | exact nR.2.2.2.2.2.2.2.2.2.2.2.2.2
 have dG : (m = nb) = False := eq_false dA
 have dH : (nb = m) = False := eq_false (Ne.symm dA)
 have c5 : ¬ nb = m := Ne.symm dA
 have z_m : h m = none := by first | exact nR.1 | exact nR | exact nR.2.1 | exact nR.2 | exact nR.2.2.1 | exact nR.2.2 | exact nR.2.2.2.1 | exact nR.2.2.2 | exact nR.2.2.2.2.1 | exact nR.2.2.2.2 | exact nR.2.2.2.2.2.1 | exact nR.2.2.2.2.2 | exact nR.2.2.2.2.2.2.1 | exact nR.2.2.2.2.2.2 | exact nR.2.2.2.2.2.2.2.1 | exact nR.2.2.2.2.2.2.2 | exact nR.2.2.2.2.2.2.2.2.1 | exact nR.2.2.2.2.2.2.2.2 | exact nR.2.2.2.2.2.2.2.2.2.1 | exact nR.2.2.2.2.2.2.2.2.2 | exact nR.2.2.2.2.2.2.2.2.2.2.1 | exact nR.2.2.2.2.2.2.2.2.2.2 | exact nR.2.2.2.2.2.2.2.2.2.2.2.1 | exact nR.2.2.2.2.2.2.2.2.2.2.2 | exact nR.2.2.2.2.2.2.2.2.2.2.2.2.1 | exact nR.2.2.2.2.2.2.2.2.2.2.2.2 | exact nR.2.2.2.2.2.2.2.2.2.2.2.2.2.1 | exact nR.2.2.2.2.2.2.2.2.2.2.2.2.2
 rw [aK]
 have hrow : env.map (fun s => [ints s]) ++ [[aD.sl 1 (s1.map fun n => [I n]) false]] = (env ++ [s1]).map fun s => [ints s] := by rw [List.map_append]; rfl
 rw [hrow]
 refine aG.aPC c5 (by rw [List.length_map, List.length_append]; rfl) (by rw [aF _ _ _ _ dA]; exact z_m) ?_
 refine eH.mono (hv (a5 (a5 h nb (cH p sz t1 c1)) m .gone) nb t1 c1 (e.kU 1) (env ++ [s1]) funcs (by rw [aF _ _ _ _ c5, aH]) (by omega) (by omega) (by rw [List.length_append]; exact o1) c7 hf (qH henv jF) (by rw [List.length_append]; show env.length + 1 ≤ _; omega)) ?_
 rintro r h' ⟨s2, t2, c2, rfl, rfl, j3, b1, b2, b3⟩
 simp -dsimp -implicitDefEqProofs only [go_sem, ↓reduceIte, Tryz.f206]
 refine ⟨_, a5 h nb (cH p sz t2 c2), bQ (jM (by repeat' (first | exact h8 _ _ | refine jN (by simp only [c8, ↓reduceIte, eq_self, if_true, dH, dG]) ?_ | refine fY (by first | exact .inr (by assumption) | exact .inl (by simp)) ?_))), s2, t2, c2, rfl, rfl, j3, by omega, b2, ?_⟩
 rw [aO9 h3 hk]
 exact a3.cQ b3
theorem aTI {p : aC} (hp : p.ok) {sz n : Nat} (hsz : 1 ≤ sz ∧ sz ≤ 1048576) (hv : lS p sz n) (h : aB) (nb st : Nat) (e : aA) (env : List (List Int)) (funcs : Int) (hb : h nb = some (cH p sz st 0)) (hst : st < 3000) (hn : 3001 ≤ n + 1 + st)
  (hok : e.ok p funcs env.length) (c7 : 0 ≤ funcs) (hf : funcs ≤ p.aJ.length) (henv : ∀ s ∈ env, bC sz s) (hel : env.length ≤ 412 + st) (hk : e.aQ = 10) :
  eH Tryz.prog 206 [.op nb 4 0 0, .agg e.c, bI env] h (EvQ h nb p sz st 0 (gR p sz (n + 1) st e env)) := by
 rw [aA.aN]
 have hb' := hb
 unfold cH at hb'
 have e3 : ((st : Int) = 3000) = False := eq_false (by omega)
 have ew : IntKind.i64.wrap ((st : Int) + 1) = ((st + 1 : Nat) : Int) := by rw [IntWalk.i64_in _ (by omega)]; rfl
 have hnode := (aA.cC _ _ _ _).1 hok
 have h3 : ¬ st = 3000 := by omega
 obtain ⟨f, F⟩ := lQ hp hok hf (.inl hk)
 have hkl : e.aI.length ≤ 1048576 := by have := F.kids; have := F.params; omega
 refine gG 210 lR sK sM mix Tryz.func206 rfl (by kernel_rfl) (by simp) ?_
 simp -dsimp -implicitDefEqProofs only [go_sem, ↓reduceIte, Tryz.f206, hb', e3, ew, hk]
 refine aG.fF (tV hv (a5 h nb (cH p sz (st + 1) 0)) nb (st + 1) 0 e.aI env funcs (aH _ _ _) (by omega) (by omega) hkl (dD hok (by omega)) c7 hf henv (by omega)) ?_
 rintro r h' ⟨vs, t1, c1, rfl, rfl, hvl, hvs, a1, a2, a3⟩
 simp -dsimp -implicitDefEqProofs only [go_sem, ↓reduceIte, Tryz.f206, cH]
 refine ⟨fun hc => ?_, fun hc => ?_⟩
 ·have hc' : ¬ c1 = 0 := by simpa using hc
  refine aG.fF (kC _ nb _ _ _ 0 sz (aH _ _ _) hsz) ?_
  rintro r h' ⟨rfl, rfl⟩
  simp -dsimp -implicitDefEqProofs only [go_sem, ↓reduceIte, Tryz.f206]
  refine ⟨_, a5 h nb (cH p sz t1 c1), bQ (by rw [aK]; exact aB.le_refl _), _, t1, c1, rfl, rfl, dF iZ, by omega, a2, ?_⟩
  rw [aD1 h3 hk]
  exact a3.cQ (by rw [gD _ hc']; exact dN _ _ hc')
 ·have hc' : c1 = 0 := by simpa using hc
  subst hc'
  try simp -dsimp -implicitDefEqProofs only [go_sem, ↓reduceIte, Tryz.f206, hk, F.get, F.out, aP.aN, aA.ld5, aK]
  have f1 := F.lo
  have f2 := F.hi
  have f3 := F.pk
  have f4 := F.pk2
  have f5 := F.kids
  have f6 := F.params
  refine ⟨f1, f2, f3, by omega, ?_⟩
  refine aG.fF (hv (a5 h nb (cH p sz t1 0)) nb t1 0 (p.out e.aW e.b7) vs e.aW (aH _ _ _) (by omega) (by omega) (by rw [hvl, f5]; exact F.oks _ (List.mem_of_getElem? F.out)) f1 (by omega) hvs (by omega)) ?_
  rintro r h' ⟨s2, t2, c2, rfl, rfl, j3, b1, b2, b3⟩
  simp -dsimp -implicitDefEqProofs only [go_sem, ↓reduceIte, Tryz.f206]
  refine ⟨_, a5 h nb (cH p sz t2 c2), bQ (by rw [aK]; exact aB.le_refl _), s2, t2, c2, rfl, rfl, j3, by omega, b2, ?_⟩
  rw [aD1 h3 hk]
  exact a3.cQ b3
theorem aW6 {p : aC} (hp : p.ok) {sz n : Nat} (hsz : 1 ≤ sz ∧ sz ≤ 1048576) (hv : lS p sz n) (h : aB) (nb st : Nat) (e : aA) (env : List (List Int)) (funcs : Int) (hb : h nb = some (cH p sz st 0)) (hst : st < 3000) (hn : 3001 ≤ n + 1 + st)
  (hok : e.ok p funcs env.length) (c7 : 0 ≤ funcs) (hf : funcs ≤ p.aJ.length) (henv : ∀ s ∈ env, bC sz s) (hel : env.length ≤ 412 + st) (hk : e.aQ = 7) :
  eH Tryz.prog 206 [.op nb 4 0 0, .agg e.c, bI env] h (EvQ h nb p sz st 0 (gR p sz (n + 1) st e env)) := by
 rw [aA.aN]
 have hb' := hb
 unfold cH at hb'
 have e3 : ((st : Int) = 3000) = False := eq_false (by omega)
 have ew : IntKind.i64.wrap ((st : Int) + 1) = ((st + 1 : Nat) : Int) := by rw [IntWalk.i64_in _ (by omega)]; rfl
 have hnode := (aA.cC _ _ _ _).1 hok
 have h3 : ¬ st = 3000 := by omega
 have hlen := cG hok (by omega)
 rw [hk, show eE 7 = 1 from rfl] at hlen
 have hkl : e.aI.length ≤ 1048576 := by omega
 refine gG 210 lR sK sM mix Tryz.func206 rfl (by kernel_rfl) (by simp) ?_
 simp -dsimp -implicitDefEqProofs only [go_sem, ↓reduceIte, Tryz.f206, hb', e3, ew, hk]
 refine aG.fF (tV hv (a5 h nb (cH p sz (st + 1) 0)) nb (st + 1) 0 e.aI env funcs (aH _ _ _) (by omega) (by omega) hkl (dD hok (by omega)) c7 hf henv (by omega)) ?_
 rintro r h' ⟨vs, t1, c1, rfl, rfl, hvl, hvs, a1, a2, a3⟩
 have lV := gM hvs (i := 0) (by omega)
 simp -dsimp -implicitDefEqProofs only [go_sem, ↓reduceIte, Tryz.f206, cH]
 refine ⟨fun hc => ?_, fun hc => ?_⟩
 ·have hc' : ¬ c1 = 0 := by simpa using hc
  refine aG.fF (kC _ nb _ _ _ 0 sz (aH _ _ _) hsz) ?_
  rintro r h' ⟨rfl, rfl⟩
  simp -dsimp -implicitDefEqProofs only [go_sem, ↓reduceIte, Tryz.f206]
  refine ⟨_, a5 h nb (cH p sz t1 c1), bQ (by rw [aK]; exact aB.le_refl _), _, t1, c1, rfl, rfl, dF iZ, by omega, a2, ?_⟩
  rw [mN h3 (by omega)]
  exact a3.cQ (by rw [gD _ hc']; exact dN _ _ hc')
 have hc' : c1 = 0 := by simpa using hc
 subst hc'
 have g0 : vs[Int.toNat 0]? = some (vs.getD 0 []) := fO (by omega)
 try simp -dsimp -implicitDefEqProofs only [go_sem, ↓reduceIte, Tryz.f206, hk, aK, g0]
 refine ⟨by omega, ?_⟩
 refine aG.mk (scaled (vs.getD 0 []) 1000002 (by unfold iI; omega) (by rw [lV.1]; omega) lV.2) ?_
 simp -dsimp -implicitDefEqProofs only [go_sem, ↓reduceIte, Tryz.f206]
 refine ⟨_, a5 h nb (cH p sz t1 0), bQ (by exact aB.le_refl _), _, t1, 0, rfl, rfl, eQ _ lV, by omega, a2, ?_⟩
 rw [mN h3 (by omega)]
 refine a3.cQ ?_
 rw [cA, hk]
 exact jP _ _
theorem aW7 {p : aC} (hp : p.ok) {sz n : Nat} (hsz : 1 ≤ sz ∧ sz ≤ 1048576) (hv : lS p sz n) (h : aB) (nb st : Nat) (e : aA) (env : List (List Int)) (funcs : Int) (hb : h nb = some (cH p sz st 0)) (hst : st < 3000) (hn : 3001 ≤ n + 1 + st)
  (hok : e.ok p funcs env.length) (c7 : 0 ≤ funcs) (hf : funcs ≤ p.aJ.length) (henv : ∀ s ∈ env, bC sz s) (hel : env.length ≤ 412 + st) (hk : e.aQ = 3) :
  eH Tryz.prog 206 [.op nb 4 0 0, .agg e.c, bI env] h (EvQ h nb p sz st 0 (gR p sz (n + 1) st e env)) := by
 rw [aA.aN]
 have hb' := hb
 unfold cH at hb'
 have e3 : ((st : Int) = 3000) = False := eq_false (by omega)
 have ew : IntKind.i64.wrap ((st : Int) + 1) = ((st + 1 : Nat) : Int) := by rw [IntWalk.i64_in _ (by omega)]; rfl
 have hnode := (aA.cC _ _ _ _).1 hok
 have h3 : ¬ st = 3000 := by omega
 have hlen := cG hok (by omega)
 rw [hk, show eE 3 = 2 from rfl] at hlen
 have hkl : e.aI.length ≤ 1048576 := by omega
 refine gG 210 lR sK sM mix Tryz.func206 rfl (by kernel_rfl) (by simp) ?_
 simp -dsimp -implicitDefEqProofs only [go_sem, ↓reduceIte, Tryz.f206, hb', e3, ew, hk]
 refine aG.fF (tV hv (a5 h nb (cH p sz (st + 1) 0)) nb (st + 1) 0 e.aI env funcs (aH _ _ _) (by omega) (by omega) hkl (dD hok (by omega)) c7 hf henv (by omega)) ?_
 rintro r h' ⟨vs, t1, c1, rfl, rfl, hvl, hvs, a1, a2, a3⟩
 have lV := gM hvs (i := 0) (by omega)
 simp -dsimp -implicitDefEqProofs only [go_sem, ↓reduceIte, Tryz.f206, cH]
 refine ⟨fun hc => ?_, fun hc => ?_⟩
 ·have hc' : ¬ c1 = 0 := by simpa using hc
  refine aG.fF (kC _ nb _ _ _ 0 sz (aH _ _ _) hsz) ?_
  rintro r h' ⟨rfl, rfl⟩
  simp -dsimp -implicitDefEqProofs only [go_sem, ↓reduceIte, Tryz.f206]
  refine ⟨_, a5 h nb (cH p sz t1 c1), bQ (by rw [aK]; exact aB.le_refl _), _, t1, c1, rfl, rfl, dF iZ, by omega, a2, ?_⟩
  rw [mN h3 (by omega)]
  exact a3.cQ (by rw [gD _ hc']; exact dN _ _ hc')
 have hc' : c1 = 0 := by simpa using hc
 subst hc'
 have g0 : vs[Int.toNat 0]? = some (vs.getD 0 []) := fO (by omega)
 have g1 : vs[Int.toNat 1]? = some (vs.getD 1 []) := fO (by omega)
 have qY := gM hvs (i := 1) (by omega)
 try simp -dsimp -implicitDefEqProofs only [go_sem, ↓reduceIte, Tryz.f206, hk, aK, g0, g1]
 refine ⟨by omega, by omega, ?_⟩
 refine aG.mk (aD4 (vs.getD 0 []) (vs.getD 1 []) (by rw [lV.1, qY.1]) (by rw [lV.1]; omega) lV.2 qY.2) ?_
 simp -dsimp -implicitDefEqProofs only [go_sem, ↓reduceIte, Tryz.f206]
 refine ⟨_, a5 h nb (cH p sz t1 0), bQ (by exact aB.le_refl _), _, t1, 0, rfl, rfl, lP lV qY, by omega, a2, ?_⟩
 rw [mN h3 (by omega)]
 refine a3.cQ ?_
 rw [cA, hk]
 exact jP _ _
theorem aW8 {p : aC} (hp : p.ok) {sz n : Nat} (hsz : 1 ≤ sz ∧ sz ≤ 1048576) (hv : lS p sz n) (h : aB) (nb st : Nat) (e : aA) (env : List (List Int)) (funcs : Int) (hb : h nb = some (cH p sz st 0)) (hst : st < 3000) (hn : 3001 ≤ n + 1 + st)
  (hok : e.ok p funcs env.length) (c7 : 0 ≤ funcs) (hf : funcs ≤ p.aJ.length) (henv : ∀ s ∈ env, bC sz s) (hel : env.length ≤ 412 + st) (hk : e.aQ = 4) :
  eH Tryz.prog 206 [.op nb 4 0 0, .agg e.c, bI env] h (EvQ h nb p sz st 0 (gR p sz (n + 1) st e env)) := by
 rw [aA.aN]
 have hb' := hb
 unfold cH at hb'
 have e3 : ((st : Int) = 3000) = False := eq_false (by omega)
 have ew : IntKind.i64.wrap ((st : Int) + 1) = ((st + 1 : Nat) : Int) := by rw [IntWalk.i64_in _ (by omega)]; rfl
 have hnode := (aA.cC _ _ _ _).1 hok
 have h3 : ¬ st = 3000 := by omega
 have hlen := cG hok (by omega)
 rw [hk, show eE 4 = 2 from rfl] at hlen
 have hkl : e.aI.length ≤ 1048576 := by omega
 refine gG 210 lR sK sM mix Tryz.func206 rfl (by kernel_rfl) (by simp) ?_
 simp -dsimp -implicitDefEqProofs only [go_sem, ↓reduceIte, Tryz.f206, hb', e3, ew, hk]
 refine aG.fF (tV hv (a5 h nb (cH p sz (st + 1) 0)) nb (st + 1) 0 e.aI env funcs (aH _ _ _) (by omega) (by omega) hkl (dD hok (by omega)) c7 hf henv (by omega)) ?_
 rintro r h' ⟨vs, t1, c1, rfl, rfl, hvl, hvs, a1, a2, a3⟩
 have lV := gM hvs (i := 0) (by omega)
 simp -dsimp -implicitDefEqProofs only [go_sem, ↓reduceIte, Tryz.f206, cH]
 refine ⟨fun hc => ?_, fun hc => ?_⟩
 ·have hc' : ¬ c1 = 0 := by simpa using hc
  refine aG.fF (kC _ nb _ _ _ 0 sz (aH _ _ _) hsz) ?_
  rintro r h' ⟨rfl, rfl⟩
  simp -dsimp -implicitDefEqProofs only [go_sem, ↓reduceIte, Tryz.f206]
  refine ⟨_, a5 h nb (cH p sz t1 c1), bQ (by rw [aK]; exact aB.le_refl _), _, t1, c1, rfl, rfl, dF iZ, by omega, a2, ?_⟩
  rw [mN h3 (by omega)]
  exact a3.cQ (by rw [gD _ hc']; exact dN _ _ hc')
 have hc' : c1 = 0 := by simpa using hc
 subst hc'
 have g0 : vs[Int.toNat 0]? = some (vs.getD 0 []) := fO (by omega)
 have g1 : vs[Int.toNat 1]? = some (vs.getD 1 []) := fO (by omega)
 have qY := gM hvs (i := 1) (by omega)
 try simp -dsimp -implicitDefEqProofs only [go_sem, ↓reduceIte, Tryz.f206, hk, aK, g0, g1]
 refine ⟨by omega, by omega, ?_⟩
 refine aG.mk (reduced (vs.getD 0 []) (vs.getD 1 []) (by rw [lV.1, qY.1]) (by rw [lV.1]; omega) lV.2 qY.2) ?_
 simp -dsimp -implicitDefEqProofs only [go_sem, ↓reduceIte, Tryz.f206]
 refine ⟨_, a5 h nb (cH p sz t1 0), bQ (by exact aB.le_refl _), _, t1, 0, rfl, rfl, oD lV qY, by omega, a2, ?_⟩
 rw [mN h3 (by omega)]
 refine a3.cQ ?_
 rw [cA, hk]
 exact jP _ _
theorem aW9 {p : aC} (hp : p.ok) {sz n : Nat} (hsz : 1 ≤ sz ∧ sz ≤ 1048576) (hv : lS p sz n) (h : aB) (nb st : Nat) (e : aA) (env : List (List Int)) (funcs : Int) (hb : h nb = some (cH p sz st 0)) (hst : st < 3000) (hn : 3001 ≤ n + 1 + st)
  (hok : e.ok p funcs env.length) (c7 : 0 ≤ funcs) (hf : funcs ≤ p.aJ.length) (henv : ∀ s ∈ env, bC sz s) (hel : env.length ≤ 412 + st) (hk : e.aQ = 5) :
  eH Tryz.prog 206 [.op nb 4 0 0, .agg e.c, bI env] h (EvQ h nb p sz st 0 (gR p sz (n + 1) st e env)) := by
 rw [aA.aN]
 have hb' := hb
 unfold cH at hb'
 have e3 : ((st : Int) = 3000) = False := eq_false (by omega)
 have ew : IntKind.i64.wrap ((st : Int) + 1) = ((st + 1 : Nat) : Int) := by rw [IntWalk.i64_in _ (by omega)]; rfl
 have hnode := (aA.cC _ _ _ _).1 hok
 have h3 : ¬ st = 3000 := by omega
 have hlen := cG hok (by omega)
 rw [hk, show eE 5 = 2 from rfl] at hlen
 have hkl : e.aI.length ≤ 1048576 := by omega
 refine gG 210 lR sK sM mix Tryz.func206 rfl (by kernel_rfl) (by simp) ?_
 simp -dsimp -implicitDefEqProofs only [go_sem, ↓reduceIte, Tryz.f206, hb', e3, ew, hk]
 refine aG.fF (tV hv (a5 h nb (cH p sz (st + 1) 0)) nb (st + 1) 0 e.aI env funcs (aH _ _ _) (by omega) (by omega) hkl (dD hok (by omega)) c7 hf henv (by omega)) ?_
 rintro r h' ⟨vs, t1, c1, rfl, rfl, hvl, hvs, a1, a2, a3⟩
 have lV := gM hvs (i := 0) (by omega)
 simp -dsimp -implicitDefEqProofs only [go_sem, ↓reduceIte, Tryz.f206, cH]
 refine ⟨fun hc => ?_, fun hc => ?_⟩
 ·have hc' : ¬ c1 = 0 := by simpa using hc
  refine aG.fF (kC _ nb _ _ _ 0 sz (aH _ _ _) hsz) ?_
  rintro r h' ⟨rfl, rfl⟩
  simp -dsimp -implicitDefEqProofs only [go_sem, ↓reduceIte, Tryz.f206]
  refine ⟨_, a5 h nb (cH p sz t1 c1), bQ (by rw [aK]; exact aB.le_refl _), _, t1, c1, rfl, rfl, dF iZ, by omega, a2, ?_⟩
  rw [mN h3 (by omega)]
  exact a3.cQ (by rw [gD _ hc']; exact dN _ _ hc')
 have hc' : c1 = 0 := by simpa using hc
 subst hc'
 have g0 : vs[Int.toNat 0]? = some (vs.getD 0 []) := fO (by omega)
 have g1 : vs[Int.toNat 1]? = some (vs.getD 1 []) := fO (by omega)
 have qY := gM hvs (i := 1) (by omega)
 try simp -dsimp -implicitDefEqProofs only [go_sem, ↓reduceIte, Tryz.f206, hk, aK, g0, g1]
 refine ⟨by omega, by omega, ?_⟩
 refine aG.mk (product (vs.getD 0 []) (vs.getD 1 []) (by rw [lV.1, qY.1]) (by rw [lV.1]; omega) lV.2 qY.2) ?_
 simp -dsimp -implicitDefEqProofs only [go_sem, ↓reduceIte, Tryz.f206]
 refine ⟨_, a5 h nb (cH p sz t1 0), bQ (by exact aB.le_refl _), _, t1, 0, rfl, rfl, cW _ lV, by omega, a2, ?_⟩
 rw [mN h3 (by omega)]
 refine a3.cQ ?_
 rw [cA, hk]
 exact jP _ _
theorem aXA {p : aC} (hp : p.ok) {sz n : Nat} (hsz : 1 ≤ sz ∧ sz ≤ 1048576) (hv : lS p sz n) (h : aB) (nb st : Nat) (e : aA) (env : List (List Int)) (funcs : Int) (hb : h nb = some (cH p sz st 0)) (hst : st < 3000) (hn : 3001 ≤ n + 1 + st)
  (hok : e.ok p funcs env.length) (c7 : 0 ≤ funcs) (hf : funcs ≤ p.aJ.length) (henv : ∀ s ∈ env, bC sz s) (hel : env.length ≤ 412 + st) (hk : e.aQ = 6) :
  eH Tryz.prog 206 [.op nb 4 0 0, .agg e.c, bI env] h (EvQ h nb p sz st 0 (gR p sz (n + 1) st e env)) := by
 rw [aA.aN]
 have hb' := hb
 unfold cH at hb'
 have e3 : ((st : Int) = 3000) = False := eq_false (by omega)
 have ew : IntKind.i64.wrap ((st : Int) + 1) = ((st + 1 : Nat) : Int) := by rw [IntWalk.i64_in _ (by omega)]; rfl
 have hnode := (aA.cC _ _ _ _).1 hok
 have h3 : ¬ st = 3000 := by omega
 have hlen := cG hok (by omega)
 rw [hk, show eE 6 = 2 from rfl] at hlen
 have hkl : e.aI.length ≤ 1048576 := by omega
 refine gG 210 lR sK sM mix Tryz.func206 rfl (by kernel_rfl) (by simp) ?_
 simp -dsimp -implicitDefEqProofs only [go_sem, ↓reduceIte, Tryz.f206, hb', e3, ew, hk]
 refine aG.fF (tV hv (a5 h nb (cH p sz (st + 1) 0)) nb (st + 1) 0 e.aI env funcs (aH _ _ _) (by omega) (by omega) hkl (dD hok (by omega)) c7 hf henv (by omega)) ?_
 rintro r h' ⟨vs, t1, c1, rfl, rfl, hvl, hvs, a1, a2, a3⟩
 have lV := gM hvs (i := 0) (by omega)
 simp -dsimp -implicitDefEqProofs only [go_sem, ↓reduceIte, Tryz.f206, cH]
 refine ⟨fun hc => ?_, fun hc => ?_⟩
 ·have hc' : ¬ c1 = 0 := by simpa using hc
  refine aG.fF (kC _ nb _ _ _ 0 sz (aH _ _ _) hsz) ?_
  rintro r h' ⟨rfl, rfl⟩
  simp -dsimp -implicitDefEqProofs only [go_sem, ↓reduceIte, Tryz.f206]
  refine ⟨_, a5 h nb (cH p sz t1 c1), bQ (by rw [aK]; exact aB.le_refl _), _, t1, c1, rfl, rfl, dF iZ, by omega, a2, ?_⟩
  rw [mN h3 (by omega)]
  exact a3.cQ (by rw [gD _ hc']; exact dN _ _ hc')
 have hc' : c1 = 0 := by simpa using hc
 subst hc'
 have g0 : vs[Int.toNat 0]? = some (vs.getD 0 []) := fO (by omega)
 have g1 : vs[Int.toNat 1]? = some (vs.getD 1 []) := fO (by omega)
 have qY := gM hvs (i := 1) (by omega)
 have gs : (vs.getD 1 [])[Int.toNat 0]? = some ((vs.getD 1 []).getD 0 0) := bR (by rw [qY.1]; omega)
 try simp -dsimp -implicitDefEqProofs only [go_sem, ↓reduceIte, Tryz.f206, hk, aK, g0, g1, gs]
 refine ⟨by omega, by rw [qY.1]; omega, fun hz => ?_, fun hz => ?_⟩
 ·refine aG.fF (kC _ nb _ _ _ 0 sz (aH _ _ _) hsz) ?_
  rintro r h' ⟨rfl, rfl⟩
  simp -dsimp -implicitDefEqProofs only [go_sem, ↓reduceIte, Tryz.f206]
  refine ⟨_, a5 h nb (cH p sz t1 6), bQ (by exact aB.le_refl _), _, t1, 6, rfl, rfl, dF iZ, by omega, a2, ?_⟩
  rw [mN h3 (by omega)]
  refine a3.cQ ?_
  rw [cA, hk]
  have : opE 6 vs t1 = .error 6 := by rw [opE, if_neg (by decide), if_neg (by decide), if_neg (by decide), if_neg (by decide), if_pos hz]
  rw [this]
  exact dN _ _ (by decide)
 ·try simp -dsimp -implicitDefEqProofs only [go_sem, ↓reduceIte, Tryz.f206, hk, aK, g0, g1, gs]
  refine ⟨by omega, by omega, ?_⟩
  refine aG.mk (quotient (vs.getD 0 []) (vs.getD 1 []) (by rw [lV.1, qY.1]) (by rw [lV.1]; omega) (by rw [lV.1]; omega) lV.2 qY.2) ?_
  simp -dsimp -implicitDefEqProofs only [go_sem, ↓reduceIte, Tryz.f206]
  refine ⟨_, a5 h nb (cH p sz t1 0), bQ (by exact aB.le_refl _), _, t1, 0, rfl, rfl, mX _ lV, by omega, a2, ?_⟩
  rw [mN h3 (by omega)]
  refine a3.cQ ?_
  rw [cA, hk]
  have : opE 6 vs t1 = .ok (iK (vs.getD 0 []) (vs.getD 1 []), t1) := by rw [opE, if_neg (by decide), if_neg (by decide), if_neg (by decide), if_neg (by decide), if_neg hz]
  rw [this]
  exact jP _ _
theorem aTJ {p : aC} (hp : p.ok) {sz n : Nat} (hsz : 1 ≤ sz ∧ sz ≤ 1048576) (hv : lS p sz n) (h : aB) (nb st : Nat) (e : aA) (env : List (List Int)) (funcs : Int) (hb : h nb = some (cH p sz st 0)) (hst : st < 3000) (hn : 3001 ≤ n + 1 + st)
  (hok : e.ok p funcs env.length) (c7 : 0 ≤ funcs) (hf : funcs ≤ p.aJ.length) (henv : ∀ s ∈ env, bC sz s) (hel : env.length ≤ 412 + st) (hk : e.aQ = 11) :
  eH Tryz.prog 206 [.op nb 4 0 0, .agg e.c, bI env] h (EvQ h nb p sz st 0 (gR p sz (n + 1) st e env)) := by
 rw [aA.aN]
 have hb' := hb
 unfold cH at hb'
 have e3 : ((st : Int) = 3000) = False := eq_false (by omega)
 have ew : IntKind.i64.wrap ((st : Int) + 1) = ((st + 1 : Nat) : Int) := by rw [IntWalk.i64_in _ (by omega)]; rfl
 have hnode := (aA.cC _ _ _ _).1 hok
 have h3 : ¬ st = 3000 := by omega
 obtain ⟨f, F⟩ := lQ hp hok hf (.inr hk)
 have hkl : e.aI.length ≤ 1048576 := by have := F.kids; have := F.params; omega
 have f1 := F.lo
 have f2 := F.hi
 have f3 := F.pk
 have f4 := F.pk2
 have f5 := F.kids
 have f6 := F.params
 have f7 := F.loop hk
 have f8 := F.outs
 refine gG 210 lR sK sM mix Tryz.func206 rfl (by kernel_rfl) (by simp) ?_
 simp -dsimp -implicitDefEqProofs only [go_sem, ↓reduceIte, Tryz.f206, hb', e3, ew, hk]
 refine aG.fF (tV hv (a5 h nb (cH p sz (st + 1) 0)) nb (st + 1) 0 e.aI env funcs (aH _ _ _) (by omega) (by omega) hkl (dD hok (by omega)) c7 hf henv (by omega)) ?_
 rintro r h' ⟨vs, t1, c1, rfl, rfl, hvl, hvs, a1, a2, a3⟩
 simp -dsimp -implicitDefEqProofs only [go_sem, ↓reduceIte, Tryz.f206, cH]
 refine ⟨fun hc => ?_, fun hc => ?_⟩
 ·have hc' : ¬ c1 = 0 := by simpa using hc
  refine aG.fF (kC _ nb _ _ _ 0 sz (aH _ _ _) hsz) ?_
  rintro r h' ⟨rfl, rfl⟩
  simp -dsimp -implicitDefEqProofs only [go_sem, ↓reduceIte, Tryz.f206]
  refine ⟨_, a5 h nb (cH p sz t1 c1), bQ (by rw [aK]; exact aB.le_refl _), _, t1, c1, rfl, rfl, dF iZ, by omega, a2, ?_⟩
  rw [aD2 h3 hk]
  exact a3.cQ (by rw [gD _ hc']; exact dN _ _ hc')
 have hc' : c1 = 0 := by simpa using hc
 subst hc'
 try simp -dsimp -implicitDefEqProofs only [go_sem, ↓reduceIte, Tryz.f206, hk, aK]
 have hiter : ∀ (k : Nat) (us : List (List Int)) (t : Nat) (c : Int), gT (nF (fun vs t => kB (fun t e => gR p sz n t e vs) (p.outs e.aW) t) k vs t1) us t c → k ≤ e.bV.toNat → (¬ c = 0 ∨ k = e.bV.toNat) → gT (lY 0 (gR p sz (n + 1) st e env)) (us.getD e.b7.toNat []) t c := fun k us t c ho hk1 hor => by
  rw [aD2 h3 hk]
  refine a3.cQ ?_
  rw [cA]
  refine gT.then (v := us) (t := t) (c := c) ?_ (fL _ _ _)
  rcases hor with hc | rfl
  ·have := ho.err hc
   rw [aF3 _ k hk1 this]
   exact dN _ _ hc
  ·exact ho
 refine bX (keep := lR) (ib := sK) (mk := sM) mix (by kernel_rfl) (fun x : Nat × List (List Int) × Nat × Int => [(0, .op nb 4 0 0), (4, .ip 5 [[I 11, I e.aW, I e.b7, I e.bV, dB 5 aA.c e.aI]] 0 0), (7, bI x.2.1), (8, I x.1)]) (fun x => a5 h nb (cH p sz x.2.2.1 x.2.2.2)) (fun x => x.1 ≤ e.bV.toNat ∧ x.2.1.length = f.aM.length ∧ (∀ s ∈ x.2.1, bC sz s) ∧ t1 ≤ x.2.2.1 ∧ x.2.2.1 ≤ 3000 ∧ gT (nF (fun vs t => kB (fun t e => gR p sz n t e vs) (p.outs e.aW) t) x.1 vs t1) x.2.1 x.2.2.1 x.2.2.2) (fun x => e.bV.toNat - x.1) (0, vs, t1, 0) ⟨by simp [b8, bJ], aB.le_refl _, Nat.zero_le _, by simp only; omega, hvs, Nat.le_refl _, a2, jP _ _⟩ ?_
 rintro ⟨k, us, t, c⟩ ⟨hk1, hul, hus, zA, ht, ho⟩
 simp only at hk1 hul hus zA ht ho ⊢
 have gp : us[e.b7.toNat]? = some (us.getD e.b7.toNat []) := fO (by omega)
 simp -dsimp -implicitDefEqProofs only [go_sem, ↓reduceIte, Tryz.f206, cH, F.get, aP.aN, gp]
 refine ⟨fun hlt => ⟨fun hc => ⟨f1, f2, ?_⟩, fun hc => ?_⟩, fun hge => ?_⟩
 ·subst hc
  refine aG.fF (tV hv (a5 h nb (cH p sz t 0)) nb t 0 f.aM us e.aW (aH _ _ _) ht (by omega) (by omega) (by rw [hul, f7.2.2]; exact F.oks) f1 (by omega) hus (by omega)) ?_
  rintro r h' ⟨l2, t2, c2, rfl, rfl, hl2, j3, b1, b2, b3⟩
  simp -dsimp -implicitDefEqProofs only [go_sem, ↓reduceIte, Tryz.f206]
  refine ⟨(k + 1, l2, t2, c2), ⟨rfl, by rw [IntWalk.i64_in _ (by omega)]; rfl⟩, by simp only [aK]; exact aB.le_refl _, ⟨by omega, hl2, j3, by simp only; omega, b2, ?_⟩, by simp only; omega⟩
  simp only
  rw [tT]
  refine ho.then ?_
  rw [F.eq]
  exact b3
 ·exact ⟨f3, by omega, _, _, aV _ _, us.getD e.b7.toNat [], t, c, rfl, rfl, gM hus (by omega), by omega, ht, hiter k us t c ho hk1 (.inl hc)⟩
 ·exact ⟨f3, by omega, _, _, aV _ _, us.getD e.b7.toNat [], t, c, rfl, rfl, gM hus (by omega), by omega, ht, hiter k us t c ho hk1 (.inr (by omega))⟩
theorem value {p : aC} (hp : p.ok) {sz : Nat} (hsz : 1 ≤ sz ∧ sz ≤ 1048576) : ∀ n, lS p sz n
 |0 => fun h nb st c e env funcs hb hst hn => by omega
 |n + 1 => fun h nb st c e env funcs hb hst hn hok c7 hf henv hel => by
  have hv := value hp hsz n
  by_cases hs : ¬ c = 0 ∨ st = 3000
  ·exact aM4 hsz h nb st c e env hb hst hs
  have hc : c = 0 := Classical.byContradiction fun q => hs (.inl q)
  have h3 : st < 3000 := by
   rcases Nat.lt_or_ge st 3000 with h | h
   ·exact h
   ·exact absurd (.inr (by omega)) hs
  subst hc
  rcases oE ((aA.cC _ _ _ _).1 hok).1 with hk | hk | hk | hk | hk | hk | hk | hk | hk | hk | hk
  ·exact aW2 hp hsz hv h nb st e env funcs hb h3 hn hok c7 hf henv hel hk
  ·exact aW3 hp hsz hv h nb st e env funcs hb h3 hn hok c7 hf henv hel hk
  ·exact aW7 hp hsz hv h nb st e env funcs hb h3 hn hok c7 hf henv hel hk
  ·exact aW8 hp hsz hv h nb st e env funcs hb h3 hn hok c7 hf henv hel hk
  ·exact aW9 hp hsz hv h nb st e env funcs hb h3 hn hok c7 hf henv hel hk
  ·exact aXA hp hsz hv h nb st e env funcs hb h3 hn hok c7 hf henv hel hk
  ·exact aW6 hp hsz hv h nb st e env funcs hb h3 hn hok c7 hf henv hel hk
  ·exact aW4 hp hsz hv h nb st e env funcs hb h3 hn hok c7 hf henv hel hk
  ·exact aW5 hp hsz hv h nb st e env funcs hb h3 hn hok c7 hf henv hel hk
  ·exact aTI hp hsz hv h nb st e env funcs hb h3 hn hok c7 hf henv hel hk
  ·exact aTJ hp hsz hv h nb st e env funcs hb h3 hn hok c7 hf henv hel hk
theorem bA (a b : Int) (ha : iI a) (hb : iI b) : dV Tryz.prog 45 [I a, I b] (I (a * b % 1000003)) := by
 refine dS 11 aAI bT bD mix Tryz.func45 rfl (by kernel_rfl) (by simp) fun h => ?_
 simp -dsimp -implicitDefEqProofs only [go_sem, ↓reduceIte, Tryz.f45]
 first | refine aG.mk (b6 a) ?_ | refine aE.mk (b6 a) ?_ | refine aG.a8 (b6 a) ?_ | refine aE.mk (a6.cK (b6 a)) ?_
 simp -dsimp -implicitDefEqProofs only [go_sem, ↓reduceIte, Tryz.f45]
 first | refine aG.mk (b6 b) ?_ | refine aE.mk (b6 b) ?_ | refine aG.a8 (b6 b) ?_ | refine aE.mk (a6.cK (b6 b)) ?_
 simp -dsimp -implicitDefEqProofs only [go_sem, ↓reduceIte, Tryz.f45]
 have h1 := num_mul ha hb
 have h2 := ha
 have h3 := hb
 unfold iI at h2 h3
 rw [Int.emod_eq_of_lt h2.1 (by omega), Int.emod_eq_of_lt h3.1 (by omega), aKR h1.1 (by omega)]
@[go_sem] def aPD : List Nat := [0, 1, 4, 5, 6, 8, 12, 15]
theorem wI (a n : Int) (hn : 0 ≤ n) (hn2 : n ≤ 4294967296) : dV Tryz.prog 133 [I a, I n] (I (pwN (a % 1000003) n.toNat)) := by
 refine dS 25 aPD bT bD mix Tryz.func133 rfl (by kernel_rfl) (by simp) fun h => ?_
 simp -dsimp -implicitDefEqProofs only [go_sem, ↓reduceIte, Tryz.f133]
 refine ⟨fun q => absurd q (by omega), fun _ => ?_⟩
 first | refine aG.mk (b6 a) ?_ | refine aE.mk (b6 a) ?_ | refine aG.a8 (b6 a) ?_ | refine aE.mk (a6.cK (b6 a)) ?_
 simp -dsimp -implicitDefEqProofs only [go_sem, ↓reduceIte, Tryz.f133]
 generalize hT : pwN (a % 1000003) n.toNat = T
 refine oU (keep := aPD) (ib := bT) (mk := bD) mix (by kernel_rfl) (fun x : Int × Int × Int => [(1, I x.2.2), (5, I x.1), (6, I x.2.1)]) (fun x => (0 ≤ x.1 ∧ x.1 < 1000003) ∧ (0 ≤ x.2.1 ∧ x.2.1 < 1000003) ∧ (0 ≤ x.2.2 ∧ x.2.2 ≤ 4294967296) ∧ x.1 * x.2.1 ^ x.2.2.toNat % 1000003 = T) (fun x => x.2.2.toNat) (1, a % 1000003, n) ⟨by simp [b8, bJ], ⟨by simp, by simp⟩, aKQ _, ⟨hn, hn2⟩, by rw [Int.one_mul]; exact hT⟩ ?_
 rintro ⟨x, b, m⟩ ⟨hx, hb, hm, hp⟩
 simp only at hx hb hm hp ⊢
 have nx : iI x := by unfold iI; omega
 have nb : iI b := by unfold iI; omega
 simp -dsimp -implicitDefEqProofs only [go_sem, ↓reduceIte, Tryz.f133]
 rw [Int.tmod_eq_emod_of_nonneg hm.1]
 refine ⟨fun hg => ⟨fun ho => ?_, fun ho => ?_⟩, fun hg => ?_⟩
 ·first | refine aG.mk (bA x b nx nb) ?_ | refine aE.mk (bA x b nx nb) ?_ | refine aG.a8 (bA x b nx nb) ?_ | refine aE.mk (a6.cK (bA x b nx nb)) ?_
  simp -dsimp -implicitDefEqProofs only [go_sem, ↓reduceIte, Tryz.f133]
  first | refine aG.mk (bA b b nb nb) ?_ | refine aE.mk (bA b b nb nb) ?_ | refine aG.a8 (bA b b nb nb) ?_ | refine aE.mk (a6.cK (bA b b nb nb)) ?_
  simp -dsimp -implicitDefEqProofs only [go_sem, ↓reduceIte, Tryz.f133]
  rw [Int.tdiv_eq_ediv_of_nonneg hm.1, IntWalk.i64_in (m / 2) (by omega)]
  exact ⟨(x * b % 1000003, b * b % 1000003, m / 2), ⟨rfl, rfl, rfl⟩, ⟨aKQ _, aKQ _, (show 0 ≤ m / 2 ∧ m / 2 ≤ 4294967296 by omega), aTC hm.1 ho hp⟩, by simp only; omega⟩
 ·first | refine aG.mk (bA b b nb nb) ?_ | refine aE.mk (bA b b nb nb) ?_ | refine aG.a8 (bA b b nb nb) ?_ | refine aE.mk (a6.cK (bA b b nb nb)) ?_
  simp -dsimp -implicitDefEqProofs only [go_sem, ↓reduceIte, Tryz.f133]
  rw [Int.tdiv_eq_ediv_of_nonneg hm.1, IntWalk.i64_in (m / 2) (by omega)]
  exact ⟨(x, b * b % 1000003, m / 2), ⟨rfl, rfl, rfl⟩, ⟨hx, aKQ _, (show 0 ≤ m / 2 ∧ m / 2 ≤ 4294967296 by omega), aO6 hm.1 ho hp⟩, by simp only; omega⟩
 ·have : m.toNat = 0 := by omega
  rw [this, aO5 x b hx] at hp
  exact hp
theorem lZ (a : Int) : dV Tryz.prog 54 [I a] (I (iQ a)) := by
 refine dS 5 aAH bT bD mix Tryz.func54 rfl (by kernel_rfl) (by simp) fun h => ?_
 simp -dsimp -implicitDefEqProofs only [go_sem, ↓reduceIte, Tryz.f54]
 first | refine aG.mk (wI a 1000001 (by decide) (by decide)) ?_ | refine aE.mk (wI a 1000001 (by decide) (by decide)) ?_ | refine aG.a8 (wI a 1000001 (by decide) (by decide)) ?_ | refine aE.mk (a6.cK (wI a 1000001 (by decide) (by decide))) ?_
 simp -dsimp -implicitDefEqProofs only [go_sem, ↓reduceIte, Tryz.f54]
 rfl
theorem oX (a b : Int) (ha : iI a) (hb : iI b) : dV Tryz.prog 107 [I a, I b] (I ((a - b) % 1000003)) := by
 unfold iI at ha hb
 refine dS 9 aAI bT bD mix Tryz.func107 rfl (by kernel_rfl) (by simp) fun h => ?_
 simp -dsimp -implicitDefEqProofs only [go_sem, ↓reduceIte, Tryz.f107]
 rw [IntWalk.i64_in _ (by omega)]
 first | refine aG.mk (b6 (a - b)) ?_ | refine aE.mk (b6 (a - b)) ?_ | refine aG.a8 (b6 (a - b)) ?_ | refine aE.mk (a6.cK (b6 (a - b))) ?_
 simp -dsimp -implicitDefEqProofs only [go_sem, ↓reduceIte, Tryz.f107]
theorem dT (n : Int) (sz : Nat) (hs : sz ≤ 1048576) : dV Tryz.prog 51 [I n, I sz] (ints (cF n sz)) := by
 rcases Nat.eq_zero_or_pos sz with rfl | hp
 ·refine lO 14 tI bT bD mix Tryz.func51 rfl (by kernel_rfl) (by simp) fun h => ?_
  simp -dsimp -implicitDefEqProofs only [go_sem, ↓reduceIte, Tryz.f51]
  refine ⟨Nat.zero_lt_one, by omega, by omega, fun m hm => ⟨fun q => absurd q (by omega), fun _ => ?_⟩⟩
  exact iL [] hm (aB.le_refl _) rfl
 ·have e2 := y9 (x := [aD.int .i64 0]) hp
  refine lO 14 tI bT bD mix Tryz.func51 rfl (by kernel_rfl) (by simp) fun h => ?_
  simp -dsimp -implicitDefEqProofs only [go_sem, ↓reduceIte, Tryz.f51, Int.toNat_natCast, e2]
  refine ⟨Nat.zero_lt_one, Nat.le_refl _, by omega, by omega, fun m hm => ⟨fun _ => ⟨by omega, ?_⟩, fun q => absurd q (by omega)⟩⟩
  rw [aK, show Int.toNat 0 = 0 from rfl, sJ]
  exact iL _ hm (aB.le_refl _) (lH n sz).symm
@[go_sem] def aZZ : List Nat := [7, 21]
theorem kD (a : List Int) (m : Int) (hm : iI m) (hl : a.length ≤ 1048576) (ha : dP a) : dV Tryz.prog 131 [ints a, I m] (ints (iP a m)) := by
 have hc := nH a m
 refine lO 24 aJ0 aZZ bD mix Tryz.func131 rfl (by kernel_rfl) (by simp) fun h => ?_
 simp -dsimp -implicitDefEqProofs only [go_sem, ↓reduceIte, Tryz.f131]
 refine ⟨Nat.zero_lt_one, ?_⟩
 refine bX (keep := aJ0) (ib := aZZ) (mk := bD) mix (by kernel_rfl) (fun x : Nat × Option Nat => [(0, ints a), (1, I m), (5, eK 1 ((iP a m).take x.1).length x.2), (6, I x.1)]) (fun x => gQ h (.row 1 ((((iP a m).take x.1).map fun n => [I n]).map (List.map .v))) x.2) (fun x => x.1 ≤ a.length ∧ eP h ((iP a m).take x.1) x.2) (fun x => a.length - x.1) (0, none) ⟨by simp [b8, bJ, eK], by simp only [aR]; exact aB.le_refl _, Nat.zero_le _, by simp [eP]⟩ ?_
 rintro ⟨k, o⟩ ⟨hk, hos⟩
 simp only at hk hos ⊢
 rcases Nat.lt_or_ge k a.length with hlt | hge
 ·have ea : a[k]? = some a[k] := List.getElem?_eq_getElem hlt
  have hy : (iP a m).take (k + 1) = (iP a m).take k ++ [(iP a m)[k]'(by omega)] := List.take_succ_eq_append_getElem (by omega)
  have hv : (iP a m)[k]'(by omega) = a[k] * m % 1000003 := by simp [iP]
  have hlk : ((iP a m).take k).length = k := by rw [List.length_take]; omega
  rw [hv] at hy
  cases o with
  |none =>
   rw [a9] at hos
   rw [hos] at hy ⊢
   simp -dsimp -implicitDefEqProofs only [go_sem, ↓reduceIte, Tryz.f131, a7, aR, hlt, ea]
   intro _
   first | refine aG.mk (bA a[k] m (ha _ (List.getElem_mem hlt)) hm) ?_ | refine aE.mk (bA a[k] m (ha _ (List.getElem_mem hlt)) hm) ?_ | refine aG.a8 (bA a[k] m (ha _ (List.getElem_mem hlt)) hm) ?_ | refine aE.mk (a6.cK (bA a[k] m (ha _ (List.getElem_mem hlt)) hm)) ?_
   simp -dsimp -implicitDefEqProofs only [go_sem, ↓reduceIte, Tryz.f131]
   repeat' (with_reducible first | intro _ | refine And.intro ?_ ?_)
   all_goals try (first | omega | decide)
   rename_i b hb
   refine ⟨(k + 1, some b), ?_⟩
   simp only [hy]
   refine ⟨⟨rfl, ?_⟩, aB.le_refl _, ⟨by omega, hb⟩, by omega⟩
   rw [IntWalk.i64_in _ (by omega)]; rfl
  |some n =>
   rw [aU] at hos
   simp -dsimp -implicitDefEqProofs only [go_sem, ↓reduceIte, Tryz.f131, aT, aL, hlt, ea]
   intro _
   first | refine aG.mk (bA a[k] m (ha _ (List.getElem_mem hlt)) hm) ?_ | refine aE.mk (bA a[k] m (ha _ (List.getElem_mem hlt)) hm) ?_ | refine aG.a8 (bA a[k] m (ha _ (List.getElem_mem hlt)) hm) ?_ | refine aE.mk (a6.cK (bA a[k] m (ha _ (List.getElem_mem hlt)) hm)) ?_
   simp -dsimp -implicitDefEqProofs only [go_sem, ↓reduceIte, Tryz.f131]
   repeat' (with_reducible first | intro _ | refine And.intro ?_ ?_)
   all_goals try (first | omega | decide | exact Nat.le_refl _)
   rename_i b hb
   refine ⟨(k + 1, some b), ?_⟩
   simp only [hy, aL, aT, aU]
   refine ⟨⟨by rw [List.length_append]; rfl, ?_⟩, ?_, ⟨by omega, hb.2⟩, by omega⟩
   ·rw [IntWalk.i64_in _ (by omega)]; rfl
   ·rw [← eN]; exact kO hos
 ·have hk' : k = a.length := by omega
  subst hk'
  rw [List.take_of_length_le (by omega)] at hos ⊢
  cases o with
  |none =>
   rw [a9] at hos
   simp -dsimp -implicitDefEqProofs only [go_sem, ↓reduceIte, Tryz.f131, a7, aR, Nat.lt_irrefl, Int.lt_irrefl]
   intro _
   rw [hos]
   exact Shift.of (Sub.loose _ _ _) (aB.le_refl _)
  |some n =>
   rw [aU] at hos
   simp -dsimp -implicitDefEqProofs only [go_sem, ↓reduceIte, Tryz.f131, aT, aL, Nat.lt_irrefl, Int.lt_irrefl]
   intro _
   exact iL _ hos (aB.le_refl _) rfl
@[go_sem] def aZ0 : List Nat := [7, 24]
@[go_sem] def aZ1 : Marks := fun id => match id with | 5 => ([11], (.op 0 (.op 1 (.op 2 (.op 3 (.op 4 (.op 5 (.op 6 (.op 7 (.op 8 (.op 9 (.op 10 (.op 11 (.op 12 .nil))))))))))))), []) | _ => ([], .nil, [])
theorem lI (a b : List Int) (hab : b.length = a.length) (hl : a.length ≤ 1048576) (ha : dP a) (hb : dP b) : dV Tryz.prog 129 [ints a, ints b] (ints (iC a b)) := by
 have hc := aKO hab
 refine lO 27 aJ0 aZ0 aZ1 mix Tryz.func129 rfl (by kernel_rfl) (by simp) fun h => ?_
 simp -dsimp -implicitDefEqProofs only [go_sem, ↓reduceIte, Tryz.f129]
 refine ⟨Nat.zero_lt_one, ?_⟩
 refine bX (keep := aJ0) (ib := aZ0) (mk := aZ1) mix (by kernel_rfl) (fun x : Nat × Option Nat => [(0, ints a), (1, ints b), (5, eK 1 ((iC a b).take x.1).length x.2), (6, I x.1)]) (fun x => gQ h (.row 1 ((((iC a b).take x.1).map fun n => [I n]).map (List.map .v))) x.2) (fun x => x.1 ≤ a.length ∧ eP h ((iC a b).take x.1) x.2) (fun x => a.length - x.1) (0, none) ⟨by simp [b8, bJ, eK], by simp only [aR]; exact aB.le_refl _, Nat.zero_le _, by simp [eP]⟩ ?_
 rintro ⟨k, o⟩ ⟨hk, hos⟩
 simp only at hk hos ⊢
 rcases Nat.lt_or_ge k a.length with hlt | hge
 ·have ea : a[k]? = some a[k] := List.getElem?_eq_getElem hlt
  have eb : b[k]? = some (b[k]'(by omega)) := List.getElem?_eq_getElem (by omega)
  have hy : (iC a b).take (k + 1) = (iC a b).take k ++ [(iC a b)[k]'(by omega)] := List.take_succ_eq_append_getElem (by omega)
  have hv : (iC a b)[k]'(by omega) = (a[k] + b[k]'(by omega)) % 1000003 := by simp [iC]
  have hlk : ((iC a b).take k).length = k := by rw [List.length_take]; omega
  rw [hv] at hy
  cases o with
  |none =>
   rw [a9] at hos
   rw [hos] at hy ⊢
   simp -dsimp -implicitDefEqProofs only [go_sem, ↓reduceIte, Tryz.f129, a7, aR, hlt, ea, eb]
   intro _
   refine ⟨by omega, ?_⟩
   first | refine aG.mk (fZ a[k] (b[k]'(by omega))) ?_ | refine aE.mk (fZ a[k] (b[k]'(by omega))) ?_ | refine aG.a8 (fZ a[k] (b[k]'(by omega))) ?_ | refine aE.mk (a6.cK (fZ a[k] (b[k]'(by omega)))) ?_
   simp -dsimp -implicitDefEqProofs only [go_sem, ↓reduceIte, Tryz.f129]
   repeat' (with_reducible first | intro _ | refine And.intro ?_ ?_)
   all_goals try (first | omega | decide)
   rename_i b hb
   refine ⟨(k + 1, some b), ?_⟩
   simp only [hy]
   refine ⟨⟨rfl, ?_⟩, aB.le_refl _, ⟨by omega, hb⟩, by omega⟩
   rw [IntWalk.i64_in _ (by omega)]; rfl
  |some n =>
   rw [aU] at hos
   simp -dsimp -implicitDefEqProofs only [go_sem, ↓reduceIte, Tryz.f129, aT, aL, hlt, ea, eb]
   intro _
   refine ⟨by omega, ?_⟩
   first | refine aG.mk (fZ a[k] (b[k]'(by omega))) ?_ | refine aE.mk (fZ a[k] (b[k]'(by omega))) ?_ | refine aG.a8 (fZ a[k] (b[k]'(by omega))) ?_ | refine aE.mk (a6.cK (fZ a[k] (b[k]'(by omega)))) ?_
   simp -dsimp -implicitDefEqProofs only [go_sem, ↓reduceIte, Tryz.f129]
   repeat' (with_reducible first | intro _ | refine And.intro ?_ ?_)
   all_goals try (first | omega | decide | exact Nat.le_refl _)
   rename_i b hb
   refine ⟨(k + 1, some b), ?_⟩
   simp only [hy, aL, aT, aU]
   refine ⟨⟨by rw [List.length_append]; rfl, ?_⟩, ?_, ⟨by omega, hb.2⟩, by omega⟩
   ·rw [IntWalk.i64_in _ (by omega)]; rfl
   ·rw [← eN]; exact kO hos
 ·have hk' : k = a.length := by omega
  subst hk'
  rw [List.take_of_length_le (by omega)] at hos ⊢
  cases o with
  |none =>
   rw [a9] at hos
   simp -dsimp -implicitDefEqProofs only [go_sem, ↓reduceIte, Tryz.f129, a7, aR, Nat.lt_irrefl, Int.lt_irrefl]
   intro _
   rw [hos]
   exact Shift.of (Sub.loose _ _ _) (aB.le_refl _)
  |some n =>
   rw [aU] at hos
   simp -dsimp -implicitDefEqProofs only [go_sem, ↓reduceIte, Tryz.f129, aT, aL, Nat.lt_irrefl, Int.lt_irrefl]
   intro _
   exact iL _ hos (aB.le_refl _) rfl
theorem oF (a b : List Int) (hab : b.length = a.length) (hl : a.length ≤ 1048576) (ha : dP a) (hb : dP b) : dV Tryz.prog 75 [ints a, ints b] (ints (y3 a b)) := by
 refine dS 9 aAI bT bD mix Tryz.func75 rfl (by kernel_rfl) (by simp) fun h => ?_
 simp -dsimp -implicitDefEqProofs only [go_sem, ↓reduceIte, Tryz.f75]
 first | refine aG.mk (kD b 1000002 (by unfold iI; omega) (by omega) hb) ?_ | refine aE.mk (kD b 1000002 (by unfold iI; omega) (by omega) hb) ?_ | refine aG.a8 (kD b 1000002 (by unfold iI; omega) (by omega) hb) ?_ | refine aE.mk (a6.cK (kD b 1000002 (by unfold iI; omega) (by omega) hb)) ?_
 simp -dsimp -implicitDefEqProofs only [go_sem, ↓reduceIte, Tryz.f75]
 first | refine aG.mk (lI a (iP b 1000002) (by rw [nH]; exact hab) hl ha (eQ _ ⟨rfl, hb⟩).2) ?_ | refine aE.mk (lI a (iP b 1000002) (by rw [nH]; exact hab) hl ha (eQ _ ⟨rfl, hb⟩).2) ?_ | refine aG.a8 (lI a (iP b 1000002) (by rw [nH]; exact hab) hl ha (eQ _ ⟨rfl, hb⟩).2) ?_ | refine aE.mk (a6.cK (lI a (iP b 1000002) (by rw [nH]; exact hab) hl ha (eQ _ ⟨rfl, hb⟩).2)) ?_
 simp -dsimp -implicitDefEqProofs only [go_sem, ↓reduceIte, Tryz.f75]
 rfl
@[go_sem] def aB6 : List Nat := [0, 1, 4, 5, 6, 7, 8, 13, 18]
@[go_sem] def aPE : List Nat := [9, 36]
@[go_sem] def aPF : Marks := fun id => match id with | 9 => ([], (.op 0 (.op 1 (.op 2 (.op 3 (.op 4 (.op 5 (.op 6 (.op 7 (.op 8 (.op 9 (.op 10 (.op 11 (.op 12 (.op 13 .nil)))))))))))))), []) | _ => ([], .nil, [])
theorem lJ (a b : List Int) (hab : b.length = a.length) (hl : a.length ≤ 1048576) (ha : dP a) (hb : dP b) : dV Tryz.prog 130 [ints a, ints b] (ints (mulL a b)) := by
 have hc := y6 a b
 refine lO 39 aB6 aPE aPF mix Tryz.func130 rfl (by kernel_rfl) (by simp) fun h => ?_
 simp -dsimp -implicitDefEqProofs only [go_sem, ↓reduceIte, Tryz.f130]
 refine ⟨Nat.zero_lt_one, ?_⟩
 refine bX (keep := aB6) (ib := aPE) (mk := aPF) mix (by kernel_rfl) (fun x : Nat × Option Nat => [(0, ints a), (1, ints b), (5, eK 1 ((mulL a b).take x.1).length x.2), (6, I x.1)]) (fun x => gQ h (.row 1 ((((mulL a b).take x.1).map fun n => [I n]).map (List.map .v))) x.2) (fun x => x.1 ≤ a.length ∧ eP h ((mulL a b).take x.1) x.2) (fun x => a.length - x.1) (0, none) ⟨by simp [b8, bJ, eK], by simp only [aR]; exact aB.le_refl _, Nat.zero_le _, by simp [eP]⟩ ?_
 rintro ⟨k, o⟩ ⟨hk, hos⟩
 simp only at hk hos ⊢
 rcases Nat.lt_or_ge k a.length with hlt | hge
 ·have hy : (mulL a b).take (k + 1) = (mulL a b).take k ++ [(mulL a b)[k]'(by omega)] := List.take_succ_eq_append_getElem (by omega)
  have hv : (mulL a b)[k]'(by omega) = tS a b k (k + 1) := by simp [mulL]
  have hlk : ((mulL a b).take k).length = k := by rw [List.length_take]; omega
  rw [hv] at hy
  cases o with
  |none =>
   rw [a9] at hos
   rw [hos] at hy ⊢
   simp -dsimp -implicitDefEqProofs only [go_sem, ↓reduceIte, Tryz.f130, a7, aR, hlt]
   intro _
   refine oU (keep := aB6) (ib := aPE) (mk := aPF) mix (by kernel_rfl) (fun i : Nat => [(0, ints a), (1, ints b), (5, .sl 1 [] true), (6, I k), (7, I (tS a b k i)), (8, I i)]) (fun i => i ≤ k + 1) (fun i => k + 1 - i) 0 ⟨by simp [b8, bJ, tS], Nat.zero_le _⟩ ?_
   intro i hi
   rcases Nat.lt_or_ge i (k + 1) with jO | aFF
   ·have ea := bR (l := a) (i := i) (by omega)
    have eb := bR (l := b) (i := k - i) (by omega)
    have ew : IntKind.i64.wrap ((k : Int) - (i : Int)) = ((k - i : Nat) : Int) := by rw [IntWalk.i64_in _ (by omega)]; omega
    simp -dsimp -implicitDefEqProofs only [go_sem, ↓reduceIte, Tryz.f130, ea, eb, ew]
    refine ⟨fun _ => ⟨by omega, by omega, ?_⟩, fun q => absurd (by omega) q⟩
    first | refine aG.mk (bA (a.getD i 0) (b.getD (k - i) 0) (ha.get i) (hb.get (k - i))) ?_ | refine aE.mk (bA (a.getD i 0) (b.getD (k - i) 0) (ha.get i) (hb.get (k - i))) ?_ | refine aG.a8 (bA (a.getD i 0) (b.getD (k - i) 0) (ha.get i) (hb.get (k - i))) ?_ | refine aE.mk (a6.cK (bA (a.getD i 0) (b.getD (k - i) 0) (ha.get i) (hb.get (k - i)))) ?_
    simp -dsimp -implicitDefEqProofs only [go_sem, ↓reduceIte, Tryz.f130]
    first | refine aG.mk (fZ (tS a b k i) (a.getD i 0 * b.getD (k - i) 0 % 1000003)) ?_ | refine aE.mk (fZ (tS a b k i) (a.getD i 0 * b.getD (k - i) 0 % 1000003)) ?_ | refine aG.a8 (fZ (tS a b k i) (a.getD i 0 * b.getD (k - i) 0 % 1000003)) ?_ | refine aE.mk (a6.cK (fZ (tS a b k i) (a.getD i 0 * b.getD (k - i) 0 % 1000003))) ?_
    simp -dsimp -implicitDefEqProofs only [go_sem, ↓reduceIte, Tryz.f130]
    refine ⟨i + 1, ⟨?_, by rw [IntWalk.i64_in _ (by omega)]; rfl⟩, by omega, by omega⟩
    rw [tS]
    omega
   ·have hi' : i = k + 1 := by omega
    subst hi'
    simp -dsimp -implicitDefEqProofs only [go_sem, ↓reduceIte, Tryz.f130, hlt]
    refine ⟨fun q => absurd q (by omega), fun _ => ?_⟩
    repeat' (with_reducible first | intro _ | refine And.intro ?_ ?_)
    all_goals try (first | omega | decide)
    rename_i b hb
    refine ⟨(k + 1, some b), ?_⟩
    simp only [hy]
    refine ⟨⟨rfl, ?_⟩, aB.le_refl _, ⟨by omega, hb⟩, by omega⟩
    rw [IntWalk.i64_in _ (by omega)]; rfl
  |some n =>
   rw [aU] at hos
   simp -dsimp -implicitDefEqProofs only [go_sem, ↓reduceIte, Tryz.f130, aT, aL, hlt]
   intro _
   refine oU (keep := aB6) (ib := aPE) (mk := aPF) mix (by kernel_rfl) (fun i : Nat => [(0, ints a), (1, ints b), (5, .os n 1 0 ((mulL a b).take k).length), (6, I k), (7, I (tS a b k i)), (8, I i)]) (fun i => i ≤ k + 1) (fun i => k + 1 - i) 0 ⟨by simp [b8, bJ, tS], Nat.zero_le _⟩ ?_
   intro i hi
   rcases Nat.lt_or_ge i (k + 1) with jO | aFF
   ·have ea := bR (l := a) (i := i) (by omega)
    have eb := bR (l := b) (i := k - i) (by omega)
    have ew : IntKind.i64.wrap ((k : Int) - (i : Int)) = ((k - i : Nat) : Int) := by rw [IntWalk.i64_in _ (by omega)]; omega
    simp -dsimp -implicitDefEqProofs only [go_sem, ↓reduceIte, Tryz.f130, ea, eb, ew]
    refine ⟨fun _ => ⟨by omega, by omega, ?_⟩, fun q => absurd (by omega) q⟩
    first | refine aG.mk (bA (a.getD i 0) (b.getD (k - i) 0) (ha.get i) (hb.get (k - i))) ?_ | refine aE.mk (bA (a.getD i 0) (b.getD (k - i) 0) (ha.get i) (hb.get (k - i))) ?_ | refine aG.a8 (bA (a.getD i 0) (b.getD (k - i) 0) (ha.get i) (hb.get (k - i))) ?_ | refine aE.mk (a6.cK (bA (a.getD i 0) (b.getD (k - i) 0) (ha.get i) (hb.get (k - i)))) ?_
    simp -dsimp -implicitDefEqProofs only [go_sem, ↓reduceIte, Tryz.f130]
    first | refine aG.mk (fZ (tS a b k i) (a.getD i 0 * b.getD (k - i) 0 % 1000003)) ?_ | refine aE.mk (fZ (tS a b k i) (a.getD i 0 * b.getD (k - i) 0 % 1000003)) ?_ | refine aG.a8 (fZ (tS a b k i) (a.getD i 0 * b.getD (k - i) 0 % 1000003)) ?_ | refine aE.mk (a6.cK (fZ (tS a b k i) (a.getD i 0 * b.getD (k - i) 0 % 1000003))) ?_
    simp -dsimp -implicitDefEqProofs only [go_sem, ↓reduceIte, Tryz.f130]
    refine ⟨i + 1, ⟨?_, by rw [IntWalk.i64_in _ (by omega)]; rfl⟩, by omega, by omega⟩
    rw [tS]
    omega
   ·have hi' : i = k + 1 := by omega
    subst hi'
    simp -dsimp -implicitDefEqProofs only [go_sem, ↓reduceIte, Tryz.f130, hlt]
    refine ⟨fun q => absurd q (by omega), fun _ => ?_⟩
    repeat' (with_reducible first | intro _ | refine And.intro ?_ ?_)
    all_goals try (first | omega | decide | exact Nat.le_refl _)
    rename_i b hb
    refine ⟨(k + 1, some b), ?_⟩
    simp only [hy, aL, aT, aU]
    refine ⟨⟨by rw [List.length_append]; rfl, ?_⟩, ?_, ⟨by omega, hb.2⟩, by omega⟩
    ·rw [IntWalk.i64_in _ (by omega)]; rfl
    ·rw [← eN]; exact kO hos
 ·have hk' : k = a.length := by omega
  subst hk'
  rw [List.take_of_length_le (by omega)] at hos ⊢
  cases o with
  |none =>
   rw [a9] at hos
   simp -dsimp -implicitDefEqProofs only [go_sem, ↓reduceIte, Tryz.f130, a7, aR, Nat.lt_irrefl, Int.lt_irrefl]
   intro _
   rw [hos]
   exact Shift.of (Sub.loose _ _ _) (aB.le_refl _)
  |some n =>
   rw [aU] at hos
   simp -dsimp -implicitDefEqProofs only [go_sem, ↓reduceIte, Tryz.f130, aT, aL, Nat.lt_irrefl, Int.lt_irrefl]
   intro _
   exact iL _ hos (aB.le_refl _) rfl
@[go_sem] def aB7 : List Nat := [0, 1, 4, 5, 6, 7, 8, 9, 18, 27]
@[go_sem] def aPG : List Nat := [10, 47]
@[go_sem] def aPH : Marks := fun id => match id with | 10 => ([4], (.op 0 (.op 1 (.op 2 (.op 3 (.op 5 (.op 6 (.op 7 (.op 8 (.op 9 (.op 10 (.op 4 (.op 11 (.op 12 (.op 13 .nil)))))))))))))), []) | _ => ([], .nil, [])
theorem aAN (a b : List Int) (hab : b.length = a.length) (hl : a.length ≤ 1048576) (h0 : 0 < a.length) (ha : dP a) (hb : dP b) : dV Tryz.prog 132 [ints a, ints b] (ints (iK a b)) := by
 have hc := nG a b
 have e0 : b[Int.toNat 0]? = some (b.getD 0 0) := bR (l := b) (i := 0) (by omega)
 refine lO 50 aB7 aPG aPH mix Tryz.func132 rfl (by kernel_rfl) (by simp) fun h => ?_
 simp -dsimp -implicitDefEqProofs only [go_sem, ↓reduceIte, Tryz.f132, e0]
 refine ⟨Nat.zero_lt_one, by omega, ?_⟩
 first | refine aG.mk (lZ (b.getD 0 0)) ?_ | refine aE.mk (lZ (b.getD 0 0)) ?_ | refine aG.a8 (lZ (b.getD 0 0)) ?_ | refine aE.mk (a6.cK (lZ (b.getD 0 0))) ?_
 simp -dsimp -implicitDefEqProofs only [go_sem, ↓reduceIte, Tryz.f132]
 refine bX (keep := aB7) (ib := aPG) (mk := aPH) mix (by kernel_rfl) (fun x : Nat × Option Nat => [(0, ints a), (1, ints b), (6, I (iQ (b.getD 0 0))), (5, eK 1 ((iK a b).take x.1).length x.2), (7, I x.1)]) (fun x => gQ h (.row 1 ((((iK a b).take x.1).map fun n => [I n]).map (List.map .v))) x.2) (fun x => x.1 ≤ a.length ∧ eP h ((iK a b).take x.1) x.2) (fun x => a.length - x.1) (0, none) ⟨by simp [b8, bJ, eK], by simp only [aR]; exact aB.le_refl _, Nat.zero_le _, by simp [eP]⟩ ?_
 rintro ⟨k, o⟩ ⟨hk, hos⟩
 simp only at hk hos ⊢
 rcases Nat.lt_or_ge k a.length with hlt | hge
 ·have hy : (iK a b).take (k + 1) = (iK a b).take k ++ [(iK a b)[k]'(by omega)] := List.take_succ_eq_append_getElem (by omega)
  have hv := aD0 (a := a) (b := b) hlt
  have hlk : ((iK a b).take k).length = k := by rw [List.length_take]; omega
  have ek := bR hlt
  rw [hv] at hy
  cases o with
  |none =>
   rw [a9] at hos
   rw [hos] at hy ⊢
   have hk0 : k = 0 := by rw [hos] at hlk; exact hlk.symm
   subst hk0
   simp -dsimp -implicitDefEqProofs only [go_sem, ↓reduceIte, Tryz.f132, a7, aR, hlt, ek]
   intro _
   refine oU (keep := aB7) (ib := aPG) (mk := aPH) mix (by kernel_rfl) (fun _ : Unit => [(0, ints a), (1, ints b), (5, .sl 1 [] true), (6, I (iQ (b.getD 0 0))), (7, I (0 : Nat)), (8, I (a.getD 0 0)), (9, I (0 : Nat))]) (fun _ => True) (fun _ => 0) () ⟨by simp [b8, bJ], trivial⟩ ?_
   intro _ _
   simp -dsimp -implicitDefEqProofs only [go_sem, ↓reduceIte, Tryz.f132, Nat.lt_irrefl, Int.lt_irrefl]
   try (refine ⟨fun q => absurd q (by omega), fun _ => ?_⟩)
   first | refine aG.mk (bA (a.getD 0 0) (iQ (b.getD 0 0)) (ha.get 0) (num_inv _)) ?_ | refine aE.mk (bA (a.getD 0 0) (iQ (b.getD 0 0)) (ha.get 0) (num_inv _)) ?_ | refine aG.a8 (bA (a.getD 0 0) (iQ (b.getD 0 0)) (ha.get 0) (num_inv _)) ?_ | refine aE.mk (a6.cK (bA (a.getD 0 0) (iQ (b.getD 0 0)) (ha.get 0) (num_inv _))) ?_
   simp -dsimp -implicitDefEqProofs only [go_sem, ↓reduceIte, Tryz.f132]
   repeat' (with_reducible first | intro _ | refine And.intro ?_ ?_)
   all_goals try (first | omega | decide)
   rename_i b hb
   refine ⟨(0 + 1, some b), ?_⟩
   simp only [hy]
   refine ⟨⟨rfl, ?_⟩, aB.le_refl _, ⟨by omega, hb⟩, by omega⟩
   rw [IntWalk.i64_in _ (by omega)]; rfl
  |some n =>
   rw [aU] at hos
   simp -dsimp -implicitDefEqProofs only [go_sem, ↓reduceIte, Tryz.f132, aT, aL, hlt, ek]
   intro _
   have htk : (iK a b).take k = iD a b k := pY a b _ hk
   refine oU (keep := aB7) (ib := aPG) (mk := aPH) mix (by kernel_rfl) (fun i : Nat => [(0, ints a), (1, ints b), (5, .os n 1 0 ((iK a b).take k).length), (6, I (iQ (b.getD 0 0))), (7, I k), (8, I (y5 (iD a b k) b k (a.getD k 0) i)), (9, I i)]) (fun i => i ≤ k) (fun i => k - i) 0 ⟨by simp [b8, bJ, y5], Nat.zero_le _⟩ ?_
   intro i hi
   rcases Nat.lt_or_ge i k with jO | aFF
   ·have ei : ((iK a b).take k)[i]? = some ((iD a b k).getD i 0) := by rw [htk]; exact bR (by rw [mA]; exact jO)
    have eb := bR (l := b) (i := k - i) (by omega)
    have ew : IntKind.i64.wrap ((k : Int) - (i : Int)) = ((k - i : Nat) : Int) := by rw [IntWalk.i64_in _ (by omega)]; omega
    simp -dsimp -implicitDefEqProofs only [go_sem, ↓reduceIte, Tryz.f132, jO, ei, eb, ew]
    refine ⟨by omega, by omega, ?_⟩
    first | refine aG.mk (bA ((iD a b k).getD i 0) (b.getD (k - i) 0) ((qF a b k).get i) (hb.get (k - i))) ?_ | refine aE.mk (bA ((iD a b k).getD i 0) (b.getD (k - i) 0) ((qF a b k).get i) (hb.get (k - i))) ?_ | refine aG.a8 (bA ((iD a b k).getD i 0) (b.getD (k - i) 0) ((qF a b k).get i) (hb.get (k - i))) ?_ | refine aE.mk (a6.cK (bA ((iD a b k).getD i 0) (b.getD (k - i) 0) ((qF a b k).get i) (hb.get (k - i)))) ?_
    simp -dsimp -implicitDefEqProofs only [go_sem, ↓reduceIte, Tryz.f132]
    first | refine aG.mk (oX (y5 (iD a b k) b k (a.getD k 0) i) ((iD a b k).getD i 0 * b.getD (k - i) 0 % 1000003) (tU _ _ _ (ha.get k) i) (j4 _)) ?_ | refine aE.mk (oX (y5 (iD a b k) b k (a.getD k 0) i) ((iD a b k).getD i 0 * b.getD (k - i) 0 % 1000003) (tU _ _ _ (ha.get k) i) (j4 _)) ?_ | refine aG.a8 (oX (y5 (iD a b k) b k (a.getD k 0) i) ((iD a b k).getD i 0 * b.getD (k - i) 0 % 1000003) (tU _ _ _ (ha.get k) i) (j4 _)) ?_ | refine aE.mk (a6.cK (oX (y5 (iD a b k) b k (a.getD k 0) i) ((iD a b k).getD i 0 * b.getD (k - i) 0 % 1000003) (tU _ _ _ (ha.get k) i) (j4 _))) ?_
    simp -dsimp -implicitDefEqProofs only [go_sem, ↓reduceIte, Tryz.f132]
    refine ⟨i + 1, ⟨?_, by rw [IntWalk.i64_in _ (by omega)]; rfl⟩, by omega, by omega⟩
    rw [y5]
    omega
   ·have hi' : i = k := by omega
    subst hi'
    simp -dsimp -implicitDefEqProofs only [go_sem, ↓reduceIte, Tryz.f132, Nat.lt_irrefl, Int.lt_irrefl]
    first | refine aG.mk (bA (y5 (iD a b i) b i (a.getD i 0) i) (iQ (b.getD 0 0)) (tU _ _ _ (ha.get i) i) (num_inv _)) ?_ | refine aE.mk (bA (y5 (iD a b i) b i (a.getD i 0) i) (iQ (b.getD 0 0)) (tU _ _ _ (ha.get i) i) (num_inv _)) ?_ | refine aG.a8 (bA (y5 (iD a b i) b i (a.getD i 0) i) (iQ (b.getD 0 0)) (tU _ _ _ (ha.get i) i) (num_inv _)) ?_ | refine aE.mk (a6.cK (bA (y5 (iD a b i) b i (a.getD i 0) i) (iQ (b.getD 0 0)) (tU _ _ _ (ha.get i) i) (num_inv _))) ?_
    simp -dsimp -implicitDefEqProofs only [go_sem, ↓reduceIte, Tryz.f132]
    repeat' (with_reducible first | intro _ | refine And.intro ?_ ?_)
    all_goals try (first | omega | decide | exact Nat.le_refl _)
    rename_i b hb
    refine ⟨(i + 1, some b), ?_⟩
    simp only [hy, aL, aT, aU]
    refine ⟨⟨by rw [List.length_append]; rfl, ?_⟩, ?_, ⟨by omega, hb.2⟩, by omega⟩
    ·rw [IntWalk.i64_in _ (by omega)]; rfl
    ·rw [← eN]; exact kO hos
 ·have hk' : k = a.length := by omega
  subst hk'
  rw [List.take_of_length_le (by omega)] at hos ⊢
  cases o with
  |none =>
   rw [a9] at hos
   simp -dsimp -implicitDefEqProofs only [go_sem, ↓reduceIte, Tryz.f132, a7, aR, Nat.lt_irrefl, Int.lt_irrefl]
   intro _
   rw [hos]
   exact Shift.of (Sub.loose _ _ _) (aB.le_refl _)
  |some n =>
   rw [aU] at hos
   simp -dsimp -implicitDefEqProofs only [go_sem, ↓reduceIte, Tryz.f132, aT, aL, Nat.lt_irrefl, Int.lt_irrefl]
   intro _
   exact iL _ hos (aB.le_refl _) rfl
theorem lK {h h' : aB} {n : Nat} (l : List (List Int)) (h0 : h n = none) (hl : (a5 h n (.row 1 ((l.map fun s => [ints s]).map (List.map .v)))).le h') {len : Nat} (e : len = l.length) : Shift (.os n 1 0 len) h' (dB 1 (fun s => [ints s]) l) h :=
 nZ (l.map fun s => [ints s]) h0 hl len (by rw [List.length_map]; exact e)
@[go_sem] def aZ2 : List Nat := [7, 19, 23]
theorem aHT (env : List (List Int)) (s : List Int) (hl : env.length ≤ 1048576) : dV Tryz.prog 214 [dB 1 (fun s => [ints s]) env, ints s] (dB 1 (fun s => [ints s]) (env ++ [s])) := by
 refine lO 25 aJ0 aZ2 bD mix Tryz.func214 rfl (by kernel_rfl) (by simp) fun h => ?_
 simp -dsimp -implicitDefEqProofs only [go_sem, ↓reduceIte, Tryz.f214]
 refine ⟨Nat.zero_lt_one, ?_⟩
 refine bX (keep := aJ0) (ib := aZ2) (mk := bD) mix (by kernel_rfl) (fun x : Nat × Option Nat => [(0, dB 1 (fun s => [ints s]) env), (1, ints s), (5, eK 1 (env.take x.1).length x.2), (6, I x.1)]) (fun x => gQ h (.row 1 (((env.take x.1).map fun s => [ints s]).map (List.map .v))) x.2) (fun x => x.1 ≤ env.length ∧ eP h (env.take x.1) x.2) (fun x => env.length - x.1) (0, none) ⟨by simp [b8, bJ, eK], by simp only [aR]; exact aB.le_refl _, Nat.zero_le _, by simp [eP]⟩ ?_
 rintro ⟨k, o⟩ ⟨hk, hos⟩
 simp only at hk hos ⊢
 rcases Nat.lt_or_ge k env.length with hlt | hge
 ·have ea : env[k]? = some env[k] := List.getElem?_eq_getElem hlt
  have hy : env.take (k + 1) = env.take k ++ [env[k]] := List.take_succ_eq_append_getElem hlt
  have hlk : (env.take k).length = k := by rw [List.length_take]; omega
  cases o with
  |none =>
   rw [a9] at hos
   rw [hos] at hy ⊢
   simp -dsimp -implicitDefEqProofs only [go_sem, ↓reduceIte, Tryz.f214, a7, aR, hlt, ea]
   intro _
   repeat' (with_reducible first | intro _ | refine And.intro ?_ ?_)
   all_goals try (first | omega | decide)
   rename_i b hb
   refine ⟨(k + 1, some b), ?_⟩
   simp only [hy]
   refine ⟨⟨rfl, ?_⟩, aB.le_refl _, ⟨by omega, hb⟩, by omega⟩
   rw [IntWalk.i64_in _ (by omega)]; rfl
  |some n =>
   rw [aU] at hos
   simp -dsimp -implicitDefEqProofs only [go_sem, ↓reduceIte, Tryz.f214, aT, aL, hlt, ea]
   intro _
   repeat' (with_reducible first | intro _ | refine And.intro ?_ ?_)
   all_goals try (first | omega | decide | exact Nat.le_refl _)
   rename_i b hb
   refine ⟨(k + 1, some b), ?_⟩
   simp only [hy, aL, aT, aU]
   refine ⟨⟨by rw [List.length_append]; rfl, ?_⟩, ?_, ⟨by omega, hb.2⟩, by omega⟩
   ·rw [IntWalk.i64_in _ (by omega)]; rfl
   ·rw [← eN]; exact kO hos
 ·have hk' : k = env.length := by omega
  subst hk'
  rw [List.take_length] at hos ⊢
  cases o with
  |none =>
   rw [a9] at hos
   simp -dsimp -implicitDefEqProofs only [go_sem, ↓reduceIte, Tryz.f214, a7, aR, Nat.lt_irrefl, Int.lt_irrefl]
   subst hos
   exact fun _ => ⟨Nat.zero_lt_one, Nat.zero_lt_one, Nat.zero_lt_one, fun n hn => lK [s] hn (aB.le_refl _) rfl⟩
  |some n =>
   rw [aU] at hos
   simp -dsimp -implicitDefEqProofs only [go_sem, ↓reduceIte, Tryz.f214, aT, aL, Nat.lt_irrefl, Int.lt_irrefl]
   exact fun _ => ⟨Nat.zero_lt_one, Nat.zero_lt_one, Nat.zero_lt_one, Nat.le_refl _, by omega, by omega, fun m hm => lK (env ++ [s]) hm.2 (by rw [← eN]; exact kO hos) (by rw [List.length_append]; rfl)⟩
def c6 (p : aC) (sz st : Nat) (c : Int) : bL := .row 4 [[.v (.ip 1 [p.c] 0 0), .v (I sz), .v (I st), .v (I c)]]
def RnQ (h : aB) (nb : Nat) (p : aC) (sz st : Nat) (c : Int) (X : Out (List Int)) : aD → aB → Prop := fun r h' => ∃ s t c', r = ints s ∧ h' = a5 h nb (c6 p sz t c') ∧ bC sz s ∧ st ≤ t ∧ t ≤ 3000 ∧ gT (lY c X) s t c'
def bCI (h : aB) (nb : Nat) (p : aC) (sz st : Nat) (c : Int) (n : Nat) (X : Out (List (List Int))) : aD → aB → Prop := fun r h' => ∃ l t c', r = bI l ∧ h' = a5 h nb (c6 p sz t c') ∧ l.length = n ∧ (∀ s ∈ l, bC sz s) ∧ st ≤ t ∧ t ≤ 3000 ∧ gT (lY c X) l t c'
@[go_sem] def aXB : List Nat := [0, 1, 4, 9]
theorem aPI (h : aB) (nb : Nat) (p : aC) (sz st : Nat) (c d : Int) (hb : h nb = some (c6 p sz st c)) (hsz : sz ≤ 1048576) : eH Tryz.prog 213 [.op nb 4 0 0, I d] h fun r h' => r = ints (cF 0 sz) ∧ h' = a5 h nb (c6 p sz st (if c = 0 then d else c)) := by
 have hb' := hb
 unfold c6 at hb'
 refine aAF 19 aXB bT bD mix Tryz.func213 rfl (by kernel_rfl) (by simp) ?_
 simp -dsimp -implicitDefEqProofs only [go_sem, ↓reduceIte, Tryz.f213, hb']
 refine ⟨fun hc => ?_, fun hc => ?_⟩
 ·try simp -dsimp -implicitDefEqProofs only [go_sem, ↓reduceIte, Tryz.f213]
  first | refine aG.mk (dT 0 sz hsz) ?_ | refine aE.mk (dT 0 sz hsz) ?_ | refine aG.a8 (dT 0 sz hsz) ?_ | refine aE.mk (a6.cK (dT 0 sz hsz)) ?_
  simp -dsimp -implicitDefEqProofs only [go_sem, ↓reduceIte, Tryz.f213]
  exact ⟨_, by rw [if_pos hc]; exact aB.le_refl _, rfl⟩
 ·try simp -dsimp -implicitDefEqProofs only [go_sem, ↓reduceIte, Tryz.f213, hb']
  first | refine aG.mk (dT 0 sz hsz) ?_ | refine aE.mk (dT 0 sz hsz) ?_ | refine aG.a8 (dT 0 sz hsz) ?_ | refine aE.mk (a6.cK (dT 0 sz hsz)) ?_
  simp -dsimp -implicitDefEqProofs only [go_sem, ↓reduceIte, Tryz.f213]
  refine ⟨_, ?_, rfl⟩
  rw [if_neg hc, qE hb]
  exact aB.le_refl _
@[go_sem] def mG : List Nat := [0, 1, 2, 6, 7, 8, 9, 14, 25, 38, 39, 50, 59, 70, 82, 99, 119, 142, 151, 160, 169]
@[go_sem] def uL : Marks := fun id => match id with | 8 => ([7, 8], (.op 0 (.op 1 (.op 2 (.op 3 (.op 4 (.op 5 (.op 6 (.op 7 (.op 8 (.op 9 .nil)))))))))), []) | 19 => ([8, 9], (.op 0 (.op 1 (.op 2 (.op 3 (.op 4 (.op 5 (.op 6 (.op 7 (.op 8 (.op 9 (.op 10 .nil))))))))))), []) | _ => ([], .nil, [])
def oY (p : aC) (sz n : Nat) : Prop := ∀ (h : aB) (nb st : Nat) (c : Int) (e : aA) (env : List (List Int)) (funcs : Int), h nb = some (c6 p sz st c) → st ≤ 3000 → 3001 ≤ n + st → e.ok p funcs env.length → 0 ≤ funcs → funcs ≤ p.aJ.length → (∀ s ∈ env, bC sz s) → env.length ≤ 412 + st →
 eH Tryz.prog 191 [.op nb 4 0 0, .ip 5 [e.c] 0 0, bI env] h (RnQ h nb p sz st c (gR p sz n st e env))
theorem a2G {l : List aA} {k : Nat} {x : aA} (h : l[k]? = some x) (i : Nat) (hi : i = k) : Sub (.ip 5 (l.map aA.c) i 0) (.ip 5 [x.c] 0 0) := by
 subst hi
 exact Sub.ip (by rw [List.getElem?_map, h]; rfl) (by simp)
theorem oY.at {p : aC} {sz n : Nat} (hv : oY p sz n) {l : List aA} {i : Nat} {e : aA} (hi : l[i]? = some e) (h : aB) (nb st : Nat) (c : Int) (env : List (List Int)) (funcs : Int) (hb : h nb = some (c6 p sz st c)) (hst : st ≤ 3000) (hn : 3001 ≤ n + st) (hok : e.ok p funcs env.length) (c7 : 0 ≤ funcs) (hf : funcs ≤ p.aJ.length) (henv : ∀ s ∈ env, bC sz s) (hel : env.length ≤ 412 + st) :
  eH Tryz.prog 191 [.op nb 4 0 0, .ip 5 (l.map aA.c) i 0, bI env] h (RnQ h nb p sz st c (gR p sz n st e env)) :=
 eH.sub (.cons (.refl _) (.cons (a2G hi _ rfl) (.cons (.refl _) .nil))) (hv h nb st c e env funcs hb hst hn hok c7 hf henv hel)
theorem aB8 {p : aC} {sz n : Nat} (hv : oY p sz n) (h : aB) (nb st : Nat) (c : Int) (f : aP) (env : List (List Int)) (funcs : Int) (hb : h nb = some (c6 p sz st c)) (hst : st ≤ 3000) (hn : 3001 ≤ n + st)
  (hl : f.aM.length ≤ 1048576) (hok : ∀ e ∈ f.aM, e.ok p funcs env.length) (c7 : 0 ≤ funcs) (hf : funcs ≤ p.aJ.length) (henv : ∀ s ∈ env, bC sz s) (hel : env.length ≤ 412 + st) :
  eH Tryz.prog 146 [.op nb 4 0 0, .ip 3 [f.c] 0 0, bI env] h (bCI h nb p sz st c f.aM.length (kB (fun t e => gR p sz n t e env) f.aM st)) := by
 rw [aP.aN]
 refine gG 32 aOI aOJ bD mix Tryz.func146 rfl (by kernel_rfl) (by simp) ?_
 simp -dsimp -implicitDefEqProofs only [go_sem, ↓reduceIte, Tryz.f146]
 refine ⟨Nat.zero_lt_one, ?_⟩
 refine bX (keep := aOI) (ib := aOJ) (mk := bD) mix (by kernel_rfl) (fun x : Nat × List (List Int) × Nat × Int × Option Nat => [(0, .op nb 4 0 0), (1, .ip 3 [[.str f.hJ, I f.aX, dB 5 aA.c f.aM]] 0 0), (2, bI env), (7, eK 1 x.2.1.length x.2.2.2.2), (8, I x.1)]) (fun x => gQ (a5 h nb (c6 p sz x.2.2.1 x.2.2.2.1)) (.row 1 ((x.2.1.map fun s => [ints s]).map (List.map .v))) x.2.2.2.2) (fun x => x.1 ≤ f.aM.length ∧ x.2.1.length = x.1 ∧ (∀ s ∈ x.2.1, bC sz s) ∧ st ≤ x.2.2.1 ∧ x.2.2.1 ≤ 3000 ∧ gT (lY c (kB (fun t e => gR p sz n t e env) (f.aM.take x.1) st)) x.2.1 x.2.2.1 x.2.2.2.1 ∧ eP h x.2.1 x.2.2.2.2) (fun x => f.aM.length - x.1) (0, [], st, c, none) ⟨by simp [b8, bJ, eK], by simp only [aR]; rw [qE hb]; exact aB.le_refl _, Nat.zero_le _, rfl, by simp, Nat.le_refl _, hst, fL _ _ _, rfl⟩ ?_
 rintro ⟨k, vs, t, c', o⟩ ⟨hk, hvl, hvs, zA, ht, ho, hos⟩
 simp only at hk hvl hvs zA ht ho hos ⊢
 rcases Nat.lt_or_ge k f.aM.length with hlt | hge
 ·have ek : f.aM[k]? = some f.aM[k] := List.getElem?_eq_getElem hlt
  have hnext : ∀ (s : List Int) (t2 : Nat) (c2 : Int), gT (lY c' (gR p sz n t f.aM[k] env)) s t2 c2 → gT (lY c (kB (fun t e => gR p sz n t e env) (f.aM.take (k + 1)) st)) (vs ++ [s]) t2 c2 := fun s t2 c2 h3 => by
   rw [List.take_succ_eq_append_getElem hlt, sH]
   exact ho.cQ (h3.cQ (fL _ _ _))
  have hall : ∀ s, bC sz s → ∀ x ∈ vs ++ [s], bC sz x := fun s hs => qH hvs hs
  cases o with
  |none =>
   rw [a9] at hos
   subst hos
   simp -dsimp -implicitDefEqProofs only [go_sem, ↓reduceIte, Tryz.f146, a7, aR, hlt, ek]
   intro _
   refine aG.fF (hv.at ek (a5 h nb (c6 p sz t c')) nb t c' env funcs (aH _ _ _) ht (by omega) (hok _ (List.getElem_mem _)) c7 hf henv (by omega)) ?_
   rintro r h' ⟨s, t2, c2, rfl, rfl, hs, h1, h2, h3⟩
   simp -dsimp -implicitDefEqProofs only [go_sem, ↓reduceIte, Tryz.f146]
   refine ⟨Nat.zero_lt_one, Nat.zero_lt_one, Nat.zero_lt_one, ?_⟩
   intro b aS
   have bS : ¬ b = nb := by first | exact aS.1 | exact aS | exact aS.2.1 | exact aS.2 | exact aS.2.2.1 | exact aS.2.2 | exact aS.2.2.2.1 | exact aS.2.2.2 | exact aS.2.2.2.2.1 | exact aS.2.2.2.2 | exact aS.2.2.2.2.2.1 | exact aS.2.2.2.2.2 | exact aS.2.2.2.2.2.2.1 | exact aS.2.2.2.2.2.2 | exact aS.2.2.2.2.2.2.2.1 | exact aS.2.2.2.2.2.2.2 | exact aS.2.2.2.2.2.2.2.2.1 | exact aS.2.2.2.2.2.2.2.2 | exact aS.2.2.2.2.2.2.2.2.2.1 | exact aS.2.2.2.2.2.2.2.2.2 | exact aS.2.2.2.2.2.2.2.2.2.2.1 | exact aS.2.2.2.2.2.2.2.2.2.2 | exact aS.2.2.2.2.2.2.2.2.2.2.2.1 | exact aS.2.2.2.2.2.2.2.2.2.2.2 | exact aS.2.2.2.2.2.2.2.2.2.2.2.2.1 | exact aS.2.2.2.2.2.2.2.2.2.2.2.2 | exact aS.2.2.2.2.2.2.2.2.2.2.2.2.2.1 | exact aS.2.2.2.2.2.2.2.2.2.2.2.2.2
   have cI : (b = nb) = False := eq_false bS
   have cJ : (nb = b) = False := eq_false (Ne.symm bS)
   have dO : ¬ nb = b := Ne.symm bS
   have z_b : h b = none := by first | exact aS.1 | exact aS | exact aS.2.1 | exact aS.2 | exact aS.2.2.1 | exact aS.2.2 | exact aS.2.2.2.1 | exact aS.2.2.2 | exact aS.2.2.2.2.1 | exact aS.2.2.2.2 | exact aS.2.2.2.2.2.1 | exact aS.2.2.2.2.2 | exact aS.2.2.2.2.2.2.1 | exact aS.2.2.2.2.2.2 | exact aS.2.2.2.2.2.2.2.1 | exact aS.2.2.2.2.2.2.2 | exact aS.2.2.2.2.2.2.2.2.1 | exact aS.2.2.2.2.2.2.2.2 | exact aS.2.2.2.2.2.2.2.2.2.1 | exact aS.2.2.2.2.2.2.2.2.2 | exact aS.2.2.2.2.2.2.2.2.2.2.1 | exact aS.2.2.2.2.2.2.2.2.2.2 | exact aS.2.2.2.2.2.2.2.2.2.2.2.1 | exact aS.2.2.2.2.2.2.2.2.2.2.2 | exact aS.2.2.2.2.2.2.2.2.2.2.2.2.1 | exact aS.2.2.2.2.2.2.2.2.2.2.2.2 | exact aS.2.2.2.2.2.2.2.2.2.2.2.2.2.1 | exact aS.2.2.2.2.2.2.2.2.2.2.2.2.2
   refine ⟨(k + 1, [s], t2, c2, some b), ⟨rfl, by rw [IntWalk.i64_in _ (by omega)]; rfl⟩, (jM (by repeat' (first | exact h8 _ _ | refine jN (by simp only [c8, ↓reduceIte, eq_self, if_true, cJ, cI, List.map_cons, List.map_nil]) ?_ | refine fY (by first | exact .inr (by assumption) | exact .inl (by simp)) ?_))), ⟨by omega, by simp only [List.length_nil] at hvl; subst hvl; rfl, fun x hx => hall s hs x hx, Nat.le_trans zA h1, h2, hnext s t2 c2 h3, z_b⟩, by simp only; omega⟩
  |some m =>
   rw [aU] at hos
   have dA : ¬ m = nb := fun e => by rw [e, hb] at hos; cases hos
   have c5 : ¬ nb = m := Ne.symm dA
   have dG : (m = nb) = False := eq_false dA
   have dH : (nb = m) = False := eq_false c5
   simp -dsimp -implicitDefEqProofs only [go_sem, ↓reduceIte, Tryz.f146, aT, aL, hlt, ek]
   intro _
   refine aG.fF (hv.at ek (a5 (a5 h nb (c6 p sz t c')) m (.row 1 ((vs.map fun s => [ints s]).map (List.map .v)))) nb t c' env funcs (by rw [aF _ _ _ _ c5, aH]) ht (by omega) (hok _ (List.getElem_mem _)) c7 hf henv (by omega)) ?_
   rintro r h' ⟨s, t2, c2, rfl, rfl, hs, h1, h2, h3⟩
   simp -dsimp -implicitDefEqProofs only [go_sem, ↓reduceIte, Tryz.f146, aF, dG, dH]
   refine ⟨Nat.zero_lt_one, Nat.zero_lt_one, Nat.zero_lt_one, Nat.le_refl _, by omega, by omega, ?_⟩
   intro b aS
   have bS : ¬ b = nb := by first | exact aS.1 | exact aS | exact aS.2.1 | exact aS.2 | exact aS.2.2.1 | exact aS.2.2 | exact aS.2.2.2.1 | exact aS.2.2.2 | exact aS.2.2.2.2.1 | exact aS.2.2.2.2 | exact aS.2.2.2.2.2.1 | exact aS.2.2.2.2.2 | exact aS.2.2.2.2.2.2.1 | exact aS.2.2.2.2.2.2 | exact aS.2.2.2.2.2.2.2.1 | exact aS.2.2.2.2.2.2.2 | exact aS.2.2.2.2.2.2.2.2.1 | exact aS.2.2.2.2.2.2.2.2 | exact aS.2.2.2.2.2.2.2.2.2.1 | exact aS.2.2.2.2.2.2.2.2.2 | exact aS.2.2.2.2.2.2.2.2.2.2.1 | exact aS.2.2.2.2.2.2.2.2.2.2 | exact aS.2.2.2.2.2.2.2.2.2.2.2.1 | exact aS.2.2.2.2.2.2.2.2.2.2.2 | exact aS.2.2.2.2.2.2.2.2.2.2.2.2.1 | exact aS.2.2.2.2.2.2.2.2.2.2.2.2 | exact aS.2.2.2.2.2.2.2.2.2.2.2.2.2.1 | exact aS.2.2.2.2.2.2.2.2.2.2.2.2.2
   have cI : (b = nb) = False := eq_false bS
   have cJ : (nb = b) = False := eq_false (Ne.symm bS)
   have dO : ¬ nb = b := Ne.symm bS
   have gJ : ¬ b = m := by first | exact aS.1 | exact aS | exact aS.2.1 | exact aS.2 | exact aS.2.2.1 | exact aS.2.2 | exact aS.2.2.2.1 | exact aS.2.2.2 | exact aS.2.2.2.2.1 | exact aS.2.2.2.2 | exact aS.2.2.2.2.2.1 | exact aS.2.2.2.2.2 | exact aS.2.2.2.2.2.2.1 | exact aS.2.2.2.2.2.2 | exact aS.2.2.2.2.2.2.2.1 | exact aS.2.2.2.2.2.2.2 | exact aS.2.2.2.2.2.2.2.2.1 | exact aS.2.2.2.2.2.2.2.2 | exact aS.2.2.2.2.2.2.2.2.2.1 | exact aS.2.2.2.2.2.2.2.2.2 | exact aS.2.2.2.2.2.2.2.2.2.2.1 | exact aS.2.2.2.2.2.2.2.2.2.2 | exact aS.2.2.2.2.2.2.2.2.2.2.2.1 | exact aS.2.2.2.2.2.2.2.2.2.2.2 | exact aS.2.2.2.2.2.2.2.2.2.2.2.2.1 | exact aS.2.2.2.2.2.2.2.2.2.2.2.2 | exact aS.2.2.2.2.2.2.2.2.2.2.2.2.2.1 | exact aS.2.2.2.2.2.2.2.2.2.2.2.2.2
   have lB : (b = m) = False := eq_false gJ
   have lC : (m = b) = False := eq_false (Ne.symm gJ)
   have kV : ¬ m = b := Ne.symm gJ
   have z_b : h b = none := by first | exact aS.1 | exact aS | exact aS.2.1 | exact aS.2 | exact aS.2.2.1 | exact aS.2.2 | exact aS.2.2.2.1 | exact aS.2.2.2 | exact aS.2.2.2.2.1 | exact aS.2.2.2.2 | exact aS.2.2.2.2.2.1 | exact aS.2.2.2.2.2 | exact aS.2.2.2.2.2.2.1 | exact aS.2.2.2.2.2.2 | exact aS.2.2.2.2.2.2.2.1 | exact aS.2.2.2.2.2.2.2 | exact aS.2.2.2.2.2.2.2.2.1 | exact aS.2.2.2.2.2.2.2.2 | exact aS.2.2.2.2.2.2.2.2.2.1 | exact aS.2.2.2.2.2.2.2.2.2 | exact aS.2.2.2.2.2.2.2.2.2.2.1 | exact aS.2.2.2.2.2.2.2.2.2.2 | exact aS.2.2.2.2.2.2.2.2.2.2.2.1 | exact aS.2.2.2.2.2.2.2.2.2.2.2 | exact aS.2.2.2.2.2.2.2.2.2.2.2.2.1 | exact aS.2.2.2.2.2.2.2.2.2.2.2.2 | exact aS.2.2.2.2.2.2.2.2.2.2.2.2.2.1 | exact aS.2.2.2.2.2.2.2.2.2.2.2.2.2
   refine ⟨(k + 1, vs ++ [s], t2, c2, some b), ⟨by rw [aT, List.length_append]; rfl, by rw [IntWalk.i64_in _ (by omega)]; rfl⟩, ?_, ⟨by omega, by rw [List.length_append, hvl]; rfl, hall s hs, Nat.le_trans zA h1, h2, hnext s t2 c2 h3, z_b⟩, by simp only; omega⟩
   simp only [aL]
   rw [← eN ints]
   exact (jM (by repeat' (first | exact h8 _ _ | refine jN (by simp only [c8, ↓reduceIte, eq_self, if_true, cJ, dH, cI, lB, dG, lC]) ?_ | refine fY (by first | exact .inr (by assumption) | exact .inl (by simp)) ?_)))
 ·have hk' : k = f.aM.length := by omega
  subst hk'
  rw [List.take_length] at ho
  cases o with
  |none =>
   rw [a9] at hos
   subst hos
   simp -dsimp -implicitDefEqProofs only [go_sem, ↓reduceIte, Tryz.f146, a7, aR, Nat.lt_irrefl, Int.lt_irrefl]
   intro _
   exact ⟨bI [], _, Shift.of (Sub.loose _ _ _) (aB.le_refl _), [], t, c', rfl, rfl, hvl, hvs, zA, ht, ho⟩
  |some m =>
   rw [aU] at hos
   simp -dsimp -implicitDefEqProofs only [go_sem, ↓reduceIte, Tryz.f146, aT, aL, Nat.lt_irrefl, Int.lt_irrefl]
   intro _
   have hmn : ¬ m = nb := fun e => by rw [e, hb] at hos; cases hos
   exact ⟨bI vs, _, nZ (vs.map fun s => [ints s]) (h := a5 h nb (c6 p sz t c')) (by rw [aF _ _ _ _ hmn, hos]) (aB.le_refl _) _ (by rw [List.length_map]), vs, t, c', rfl, rfl, hvl, hvs, zA, ht, ho⟩
end Go.Hl

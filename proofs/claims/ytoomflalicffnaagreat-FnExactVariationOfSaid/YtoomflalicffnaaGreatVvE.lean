/-
  Contracts of functions and laws of the layer over the walk.
-/
import Derived.Test.YtoomflalicffnaaGreatVvD
import Derived.Test.YtoomflalicffnaaGreatHlD
import Derived.Test.YtoomflalicffnaaGreatVvC
import Derived.Test.YtoomflalicffnaaGreatVvA
import Derived.Test.YtoomflalicffnaaGreatVvB
import Derived.Lib.ItoaNum
namespace Go.Hl
set_option maxRecDepth 100000
open Go.Proofs
set_option linter.unusedVariables false
set_option linter.unusedSimpArgs false
def cD (p : aC) (inp : Int) (S : b5) (om og ov : Option Nat) (st : Nat) (c : Int) : bL :=
 .row 8 [[.v (dB 3 aP.c p.aJ), .v (I inp), .v (mL 4 S.code.length om), .v (mL 2 S.guards.length og), .v .bO, .v (mL 1 S.dU.length ov), .v (I st), .v (I c)]]
def aEE (h : aB) (sz : Nat) (rows : List (List Cell)) : Option Nat → Prop
 |none => rows = []
 |some m => rows ≠ [] ∧ h m = some (.row sz rows)
def rowsOf {α : Type} (c : α → List aD) (l : List α) : List (List Cell) := (l.map c).map (List.map .v)
theorem dJ {α : Type} (c : α → List aD) (l : List α) : (rowsOf c l).length = l.length := by simp [rowsOf]
theorem kK {α : Type} (c : α → List aD) (l : List α) (x : α) : rowsOf c (l ++ [x]) = rowsOf c l ++ [(c x).map .v] := by simp [rowsOf]
theorem fR {α : Type} {c : α → List aD} {l : List α} : rowsOf c l = [] ↔ l = [] := by simp [rowsOf]
structure qS (bx : b5 → Option Nat → Option Nat → Option Nat → bL) (h0 : aB) (nb : Nat) (S : b5) (om og ov : Option Nat) (h : aB) : Prop where
 box : h nb = some (bx S om og ov)
 odd : ∀ S om og ov, ∃ sz cs, bx S om og ov = .row sz cs ∧ ¬ sz = 1 ∧ ¬ sz = 2 ∧ ¬ sz = 4
 code : aEE h 4 (rowsOf aZ.c S.code) om
 gds : aEE h 2 (rowsOf dX.c S.guards) og
 dU : aEE h 1 (rowsOf (fun n => [I n]) S.dU) ov
 fresh : ∀ n, n = nb ∨ some n = om ∨ some n = og ∨ some n = ov → h0 n = none
 upto : ∀ n, ¬ n = nb → ¬ some n = om → ¬ some n = og → ¬ some n = ov → h n = h0 n
def cE (bx : b5 → Option Nat → Option Nat → Option Nat → bL) (h0 : aB) (nb : Nat) (S : b5) (h : aB) : Prop := ∃ om og ov, qS bx h0 nb S om og ov h
abbrev aZ7 (h0 : aB) (nb : Nat) (p : aC) (inp : Int) (S : b5) (st : Nat) (c : Int) (om og ov : Option Nat) (h : aB) : Prop := qS (fun S om og ov => cD p inp S om og ov st c) h0 nb S om og ov h
abbrev gW (h0 : aB) (nb : Nat) (p : aC) (inp : Int) (S : b5) (st : Nat) (c : Int) (h : aB) : Prop := cE (fun S om og ov => cD p inp S om og ov st c) h0 nb S h
theorem aEF (p : aC) (inp : Int) (st : Nat) (c : Int) : ∀ S om og ov, ∃ sz cs, cD p inp S om og ov st c = .row sz cs ∧ ¬ sz = 1 ∧ ¬ sz = 2 ∧ ¬ sz = 4 := fun S om og ov => ⟨8, _, rfl, by decide, by decide, by decide⟩
theorem qS.kinds {h0 h : aB} {nb : Nat} {bx : b5 → Option Nat → Option Nat → Option Nat → bL} {S : b5} {om og ov : Option Nat} (H : qS bx h0 nb S om og ov h) (n : Nat) :
  (n = nb → h n = some (bx S om og ov)) ∧ (some n = om → h n = some (.row 4 (rowsOf aZ.c S.code))) ∧ (some n = og → h n = some (.row 2 (rowsOf dX.c S.guards))) ∧ (some n = ov → h n = some (.row 1 (rowsOf (fun n => [I n]) S.dU))) :=
 ⟨fun e => e ▸ H.box, fun e => by have := H.code; rw [← e] at this; exact this.2, fun e => by have := H.gds; rw [← e] at this; exact this.2, fun e => by have := H.dU; rw [← e] at this; exact this.2⟩
theorem qS.apart {h0 h : aB} {nb : Nat} {bx : b5 → Option Nat → Option Nat → Option Nat → bL} {S : b5} {om og ov : Option Nat} (H : qS bx h0 nb S om og ov h) (n : Nat) :
  (n = nb → ¬ some n = om ∧ ¬ some n = og ∧ ¬ some n = ov) ∧ (some n = om → ¬ some n = og ∧ ¬ some n = ov) ∧ (some n = og → ¬ some n = ov) ∧ (h n = none → ¬ n = nb ∧ ¬ some n = om ∧ ¬ some n = og ∧ ¬ some n = ov) := by
 obtain ⟨k1, k2, k3, k4⟩ := H.kinds n
 obtain ⟨sz, cs, hB, o1, o2, o4⟩ := H.odd S om og ov
 rw [hB] at k1
 refine ⟨fun e => ⟨fun q => ?_, fun q => ?_, fun q => ?_⟩, fun e => ⟨fun q => ?_, fun q => ?_⟩, fun e q => ?_, fun e => ⟨fun q => ?_, fun q => ?_, fun q => ?_, fun q => ?_⟩⟩
 ·have := (k1 e).symm.trans (k2 q); simp at this; exact o4 this.1
 ·have := (k1 e).symm.trans (k3 q); simp at this; exact o2 this.1
 ·have := (k1 e).symm.trans (k4 q); simp at this; exact o1 this.1
 ·have := (k2 e).symm.trans (k3 q); simp at this
 ·have := (k2 e).symm.trans (k4 q); simp at this
 ·have := (k3 e).symm.trans (k4 q); simp at this
 ·have := (k1 q); rw [e] at this; cases this
 ·have := (k2 q); rw [e] at this; cases this
 ·have := (k3 q); rw [e] at this; cases this
 ·have := (k4 q); rw [e] at this; cases this
theorem qS.put {h0 h F : aB} {nb : Nat} {bx : b5 → Option Nat → Option Nat → Option Nat → bL} {S : b5} {om og ov : Option Nat} (H : qS bx h0 nb S om og ov h) (x : aZ) (v : Int) {b b2 : Nat} (hb : h b = none) (jX : h b2 = none) (hne : ¬ b2 = b)
  (f1 : F nb = some (bx (S.put x v) (some b) og (some b2))) (f2 : F b = some (.row 4 (rowsOf aZ.c (S.code ++ [x])))) (f3 : F b2 = some (.row 1 (rowsOf (fun n => [I n]) (S.dU ++ [v]))))
  (f4 : ∀ n, ¬ n = nb → ¬ n = b → ¬ n = b2 → ¬ some n = om → ¬ some n = ov → F n = h n) : ∃ g : aB, g.le F ∧ cE bx h0 nb (S.put x v) g := by
 have a1 := (H.apart nb).1 rfl
 have a2 := (H.apart b).2.2.2 hb
 have a3 := (H.apart b2).2.2.2 jX
 have g1 : ∀ n, some n = om ∨ some n = ov → h0 n = none := fun n hn => H.fresh n (by rcases hn with hn | hn; exact .inr (.inl hn); exact .inr (.inr (.inr hn)))
 have g2 : h0 b = none := (H.upto b a2.1 a2.2.1 a2.2.2.1 a2.2.2.2).symm.trans hb
 have g3 : h0 b2 = none := (H.upto b2 a3.1 a3.2.1 a3.2.2.1 a3.2.2.2).symm.trans jX
 have get : ∀ n, ¬ some n = om → ¬ some n = ov → (fun n => if some n = om ∨ some n = ov then none else F n) n = F n := fun n h1 h2 => if_neg (by rintro (q | q); exact h1 q; exact h2 q)
 refine ⟨fun n => if some n = om ∨ some n = ov then none else F n, fun n => ?_, some b, og, some b2, ⟨?_, H.odd, ⟨by simp [rowsOf, b5.put], ?_⟩, ?_, ⟨by simp [rowsOf, b5.put], ?_⟩, fun n hn => ?_, fun n h1 h2 h3 h4 => ?_⟩⟩
 ·by_cases e : some n = om ∨ some n = ov
  ·exact .inl (if_pos e)
  ·exact .inr (if_neg e)
 ·exact (get nb a1.1 a1.2.2).trans f1
 ·exact (get b a2.2.1 a2.2.2.2).trans f2
 ·have hg := H.gds
  cases og with
  |none => exact hg
  |some k =>
   have ak := (H.apart k)
   have hk := hg.2
   refine ⟨hg.1, (get k (fun q => ak.2.1 q |>.1 rfl) (fun q => ak.2.2.1 rfl q)).trans ?_⟩
   rw [f4 k (fun q => (ak.1 q).2.1 rfl) (fun q => by rw [q, hb] at hk; cases hk) (fun q => by rw [q, jX] at hk; cases hk) (fun q => ak.2.1 q |>.1 rfl) (fun q => ak.2.2.1 rfl q)]
   exact hk
 ·exact (get b2 a3.2.1 a3.2.2.2).trans f3
 ·rcases hn with rfl | hn | hn | hn
  ·exact H.fresh _ (.inl rfl)
  ·obtain rfl := Option.some.inj hn; exact g2
  ·exact H.fresh n (.inr (.inr (.inl hn)))
  ·obtain rfl := Option.some.inj hn; exact g3
 ·have h2' : ¬ n = b := fun q => h2 (by rw [q])
  have h4' : ¬ n = b2 := fun q => h4 (by rw [q])
  by_cases e : some n = om ∨ some n = ov
  ·exact (if_pos e).trans (g1 n e).symm
  ·have e1 : ¬ some n = om := fun q => e (.inl q)
   have e2 : ¬ some n = ov := fun q => e (.inr q)
   exact ((get n e1 e2).trans (f4 n h1 h2' h4' e1 e2)).trans (H.upto n h1 e1 h3 e2)
@[go_sem] def aZ8 : List Nat := [4, 15, 22]
@[go_sem] def aZ9 : Marks := fun id => match id with | 1 => ([6, 9, 13, 16, 20, 23], (.op 0 (.op 1 (.op 2 (.op 3 (.op 4 (.op 5 (.op 7 (.op 8 (.op 10 (.op 11 (.op 12 (.op 14 (.op 15 (.op 6 (.op 13 (.op 9 (.op 16 (.op 17 (.op 18 (.op 19 (.op 20 (.op 21 (.op 22 (.op 23 .nil)))))))))))))))))))))))), [(13, 9)]) | _ => ([], .nil, [])
theorem aEG {h0 h : aB} {nb : Nat} {p : aC} {inp : Int} {S : b5} {st : Nat} {c : Int} (H : gW h0 nb p inp S st c h) (x : aZ) (v : Int) (hl : S.code.length = S.dU.length) (hcap : S.dU.length ≤ 1048576) :
  eH Tryz.prog 100 [.op nb 8 0 0, .agg x.c, I v] h fun r h' => r = I S.dU.length ∧ gW h0 nb p inp (S.put x v) st c h' := by
 obtain ⟨om, og, ov, H⟩ := H
 have hb := H.box
 have hc := H.code
 have hv := H.dU
 unfold cD at hb
 rw [aZ.aN]
 cases om with
 |none =>
  have pB : S.code = [] := fR.1 hc
  cases ov with
  |some v =>
   have lV : S.dU = [] := List.eq_nil_of_length_eq_zero (by rw [← hl, pB]; rfl)
   exact absurd (by rw [lV]; rfl) hv.1
  |none =>
   have lV : S.dU = [] := fR.1 hv
   refine gG 35 aOK aZ8 aZ9 mix Tryz.func100 rfl (by kernel_rfl) (by simp) ?_
   simp -dsimp -implicitDefEqProofs only [go_sem, ↓reduceIte, Tryz.f100, hb, sG]
   refine ⟨by decide, by decide, by decide, by decide, by decide, fun m hm => ?_⟩
   have dA : ¬ m = nb := fun e => by rw [e, hb] at hm; cases hm
   have c5 : ¬ nb = m := Ne.symm dA
   have dG : (m = nb) = False := eq_false dA
   have dH : (nb = m) = False := eq_false c5
   refine ⟨by rw [aF _ _ _ _ c5, hb]; rfl, by decide, fun w ⟨hwm, hw⟩ => ?_⟩
   have l5 : ¬ w = nb := fun e => by rw [e, hb] at hw; cases hw
   have uB : ¬ nb = w := Ne.symm l5
   have kP : (w = nb) = False := eq_false l5
   have kQ : (nb = w) = False := eq_false uB
   have sO : ¬ w = m := hwm
   have zD : ¬ m = w := Ne.symm sO
   have rH : (w = m) = False := eq_false sO
   have rI : (m = w) = False := eq_false zD
   try simp -dsimp -implicitDefEqProofs only [go_sem, ↓reduceIte, Tryz.f100, hb, dG, rI, dH, kQ, rH, kP, aF]
   obtain ⟨g, hg, hR⟩ := H.put x v hm hw sO (F := a5 (a5 (a5 h m (.row 4 [x.c.map .v])) w (.row 1 [[.v (I v)]])) nb (cD p inp (S.put x v) (some m) og (some w) st c)) (aH _ _ _)
    (by rw [aF _ _ _ _ dA, aF _ _ _ _ zD, aH, pB]; rfl) (by rw [aF _ _ _ _ l5, aH, lV]; rfl) (fun n h1 h2 h3 _ _ => by rw [aF _ _ _ _ h1, aF _ _ _ _ h3, aF _ _ _ _ h2])
   refine ⟨_, g, bQ ?_, by rw [lV]; rfl, hR⟩
   rw [aK]
   unfold cD at hg
   simp only [b5.put, pB, lV, cV, aZ.aN] at hg
   exact hg
 |some m =>
  cases ov with
  |none =>
   have lV : S.dU = [] := fR.1 hv
   have pB : S.code = [] := List.eq_nil_of_length_eq_zero (by rw [hl, lV]; rfl)
   exact absurd (by rw [pB]; rfl) hc.1
  |some w =>
   have hm := hc.2
   have hw := hv.2
   have dA : ¬ m = nb := fun e => by rw [e, hb] at hm; cases hm
   have c5 : ¬ nb = m := Ne.symm dA
   have dG : (m = nb) = False := eq_false dA
   have dH : (nb = m) = False := eq_false c5
   have l5 : ¬ w = nb := fun e => by rw [e, hb] at hw; cases hw
   have uB : ¬ nb = w := Ne.symm l5
   have kP : (w = nb) = False := eq_false l5
   have kQ : (nb = w) = False := eq_false uB
   have sO : ¬ w = m := fun e => by rw [e, hm] at hw; cases hw
   have zD : ¬ m = w := Ne.symm sO
   have rH : (w = m) = False := eq_false sO
   have rI : (m = w) = False := eq_false zD
   refine gG 35 aOK aZ8 aZ9 mix Tryz.func100 rfl (by kernel_rfl) (by simp) ?_
   simp -dsimp -implicitDefEqProofs only [go_sem, ↓reduceIte, Tryz.f100, hb, cV, hm, hw, dG, rI, dH, kQ, rH, kP, aF]
   refine ⟨by decide, by decide, by decide, by decide, by decide, by rw [dJ]; exact Nat.le_refl _, by omega, by omega, fun b jL => ?_⟩
   have bS : ¬ b = nb := fun e => by rw [e, hb] at jL; cases jL
   have dO : ¬ nb = b := Ne.symm bS
   have cI : (b = nb) = False := eq_false bS
   have cJ : (nb = b) = False := eq_false dO
   have gJ : ¬ b = m := fun e => by rw [e, hm] at jL; cases jL
   have kV : ¬ m = b := Ne.symm gJ
   have lB : (b = m) = False := eq_false gJ
   have lC : (m = b) = False := eq_false kV
   have aEH : ¬ b = w := fun e => by rw [e, hw] at jL; cases jL
   have aTO : ¬ w = b := Ne.symm aEH
   have aEI : (b = w) = False := eq_false aEH
   have aEJ : (w = b) = False := eq_false aTO
   refine ⟨by rw [aF _ _ _ _ dO, aF _ _ _ _ c5, hb]; rfl, by decide, ?_⟩
   try simp -dsimp -implicitDefEqProofs only [go_sem, ↓reduceIte, Tryz.f100, hb, hw, dG, rI, lC, dH, kQ, cJ, rH, kP, aEJ, lB, cI, aEI, aF]
   refine ⟨by rw [dJ]; exact Nat.le_refl _, by omega, by omega, fun b2 ⟨a2W, a2X, jX⟩ => ?_⟩
   have uC : ¬ b2 = nb := fun e => by rw [e, hb] at jX; cases jX
   have aHY : ¬ nb = b2 := Ne.symm uC
   have aCA : (b2 = nb) = False := eq_false uC
   have aCB : (nb = b2) = False := eq_false aHY
   have aEK : ¬ b2 = m := a2X
   have aM5 : ¬ m = b2 := Ne.symm aEK
   have aHZ : (b2 = m) = False := eq_false aEK
   have aH0 : (m = b2) = False := eq_false aM5
   have aEL : ¬ b2 = w := fun e => by rw [e, hw] at jX; cases jX
   have aM6 : ¬ w = b2 := Ne.symm aEL
   have aH1 : (b2 = w) = False := eq_false aEL
   have aH2 : (w = b2) = False := eq_false aM6
   have xI : ¬ b2 = b := a2W
   have aEM : ¬ b = b2 := Ne.symm xI
   have aH3 : (b2 = b) = False := eq_false xI
   have aH4 : (b = b2) = False := eq_false aEM
   simp -dsimp -implicitDefEqProofs only [go_sem, ↓reduceIte, Tryz.f100, hb, hw, dG, rI, lC, aH0, dH, kQ, cJ, aCB, rH, kP, aEJ, aH2, lB, cI, aEI, aH4, aHZ, aCA, aH1, aH3, aF]
   rw [List.take_of_length_le (by rw [dJ]; exact Nat.le_refl _), List.take_of_length_le (by rw [dJ]; exact Nat.le_refl _)]
   obtain ⟨g, hg, hR⟩ := H.put x v jL jX xI (F := a5 (a5 (a5 (a5 (a5 h m .gone) b (.row 4 (rowsOf aZ.c S.code ++ [x.c.map .v]))) w .gone) b2 (.row 1 (rowsOf (fun n => [I n]) S.dU ++ [[.v (I v)]]))) nb (cD p inp (S.put x v) (some b) og (some b2) st c)) (aH _ _ _)
    (by rw [aF _ _ _ _ bS, aF _ _ _ _ aEM, aF _ _ _ _ aEH, aH, kK]) (by rw [aF _ _ _ _ uC, aH, kK]; rfl)
    (fun n h1 h2 h3 h4 h5 => by rw [aF _ _ _ _ h1, aF _ _ _ _ h3, aF _ _ _ _ (fun q => h5 (by rw [q])), aF _ _ _ _ h2, aF _ _ _ _ (fun q => h4 (by rw [q]))])
   refine fun _ => ⟨_, g, bQ ?_, ?_, hR⟩
   ·rw [aK]
    unfold cD at hg
    simp only [b5.put, cV, aZ.aN, List.length_append, List.length_singleton] at hg
    exact hg
   ·rw [IntWalk.i64_in _ (by omega)]
    congr 1
    omega
theorem qS.set {h0 h : aB} {nb : Nat} {p : aC} {inp : Int} {S : b5} {st : Nat} {c : Int} {om og ov : Option Nat} (H : aZ7 h0 nb p inp S st c om og ov h) (st' : Nat) (c' : Int) : aZ7 h0 nb p inp S st' c' om og ov (a5 h nb (cD p inp S om og ov st' c')) := by
 have a1 := (H.apart nb).1 rfl
 have hr : ∀ (o : Option Nat) (sz : Nat) (rows : List (List Cell)), ¬ some nb = o → aEE h sz rows o → aEE (a5 h nb (cD p inp S om og ov st' c')) sz rows o := fun o sz rows hn ho => by
  cases o with
  |none => exact ho
  |some m => exact ⟨ho.1, (aF _ _ _ _ fun q => hn (by rw [q])).trans ho.2⟩
 exact ⟨aH _ _ _, aEF _ _ _ _, hr _ _ _ a1.1 H.code, hr _ _ _ a1.2.1 H.gds, hr _ _ _ a1.2.2 H.dU, H.fresh, fun n h1 h2 h3 h4 => (aF _ _ _ _ h1).trans (H.upto n h1 h2 h3 h4)⟩
theorem cE.uS {h0 h : aB} {nb : Nat} {bx : b5 → Option Nat → Option Nat → Option Nat → bL} {S : b5} (H : cE bx h0 nb S h) {m : Nat} {o : bL} (hm : h m = none) : cE bx (a5 h0 m o) nb S (a5 h m o) := by
 obtain ⟨om, og, ov, H⟩ := H
 have a := (H.apart m).2.2.2 hm
 have hr : ∀ (q : Option Nat) (sz : Nat) (rows : List (List Cell)), ¬ some m = q → aEE h sz rows q → aEE (a5 h m o) sz rows q := fun q sz rows hn ho => by
  cases q with
  |none => exact ho
  |some k => exact ⟨ho.1, (aF _ _ _ _ fun e => hn (by rw [e])).trans ho.2⟩
 refine ⟨om, og, ov, (aF _ _ _ _ fun e => a.1 e.symm).trans H.box, H.odd, hr _ _ _ a.2.1 H.code, hr _ _ _ a.2.2.1 H.gds, hr _ _ _ a.2.2.2 H.dU, fun n hn => ?_, fun n h1 h2 h3 h4 => ?_⟩
 ·have hnm : ¬ n = m := fun e => by
   subst e
   rcases hn with hn | hn | hn | hn
   ·exact a.1 hn
   ·exact a.2.1 hn
   ·exact a.2.2.1 hn
   ·exact a.2.2.2 hn
  exact (aF _ _ _ _ hnm).trans (H.fresh n hn)
 ·by_cases e : n = m
  ·rw [e, aH, aH]
  ·rw [aF _ _ _ _ e, aF _ _ _ _ e]; exact H.upto n h1 h2 h3 h4
theorem cE.base {h0 h : aB} {nb : Nat} {bx : b5 → Option Nat → Option Nat → Option Nat → bL} {S : b5} {m : Nat} {o : bL} (H : cE bx (a5 h0 m o) nb S h) (hm : h0 m = none) : ∃ g, h = a5 g m o ∧ g m = none ∧ cE bx h0 nb S g := by
 obtain ⟨om, og, ov, H⟩ := H
 have hne : ∀ n, (n = nb ∨ some n = om ∨ some n = og ∨ some n = ov) → ¬ n = m := fun n hn e => by
  have := H.fresh n hn
  rw [e, aH] at this; cases this
 have hmo : h m = some o := (H.upto m (fun e => hne m (.inl e) rfl) (fun e => hne m (.inr (.inl e)) rfl) (fun e => hne m (.inr (.inr (.inl e))) rfl) (fun e => hne m (.inr (.inr (.inr e))) rfl)).trans (aH _ _ _)
 have get : ∀ n, ¬ n = m → (fun n => if n = m then none else h n) n = h n := fun n hn => if_neg hn
 have hr : ∀ (q : Option Nat) (sz : Nat) (rows : List (List Cell)), (∀ n, some n = q → ¬ n = m) → aEE h sz rows q → aEE (fun n => if n = m then none else h n) sz rows q := fun q sz rows hn ho => by
  cases q with
  |none => exact ho
  |some k => exact ⟨ho.1, (get k (hn k rfl)).trans ho.2⟩
 refine ⟨fun n => if n = m then none else h n, ?_, if_pos rfl, om, og, ov, (get nb (hne nb (.inl rfl))).trans H.box, H.odd, hr _ _ _ (fun n e => hne n (.inr (.inl e))) H.code, hr _ _ _ (fun n e => hne n (.inr (.inr (.inl e)))) H.gds, hr _ _ _ (fun n e => hne n (.inr (.inr (.inr e)))) H.dU, fun n hn => ?_, fun n h1 h2 h3 h4 => ?_⟩
 ·funext n
  by_cases e : n = m
  ·rw [e, aH, hmo]
  ·rw [aF _ _ _ _ e]; exact (get n e).symm
 ·have := H.fresh n hn
  rwa [aF _ _ _ _ (hne n hn)] at this
 ·by_cases e : n = m
  ·subst e; exact (if_pos rfl).trans hm.symm
  ·have := H.upto n h1 h2 h3 h4
   rw [aF _ _ _ _ e] at this
   exact (get n e).trans this
theorem cE.none {h0 h : aB} {nb : Nat} {bx : b5 → Option Nat → Option Nat → Option Nat → bL} {S : b5} (H : cE bx h0 nb S h) {m : Nat} (hm : h m = none) : h0 m = none := by
 obtain ⟨om, og, ov, H⟩ := H
 have a := (H.apart m).2.2.2 hm
 exact (H.upto m a.1 a.2.1 a.2.2.1 a.2.2.2).symm.trans hm
theorem qS.guard {h0 h F : aB} {nb : Nat} {bx : b5 → Option Nat → Option Nat → Option Nat → bL} {S : b5} {om og ov : Option Nat} (H : qS bx h0 nb S om og ov h) (x : dX) {b : Nat} (hb : h b = none)
  (f1 : F nb = some (bx (S.guard x) om (some b) ov)) (f2 : F b = some (.row 2 (rowsOf dX.c (S.guards ++ [x]))))
  (f4 : ∀ n, ¬ n = nb → ¬ n = b → ¬ some n = og → F n = h n) : ∃ g : aB, g.le F ∧ qS bx h0 nb (S.guard x) om (some b) ov g := by
 have a1 := (H.apart nb).1 rfl
 have a2 := (H.apart b).2.2.2 hb
 have g2 : h0 b = none := (H.upto b a2.1 a2.2.1 a2.2.2.1 a2.2.2.2).symm.trans hb
 have get : ∀ n, ¬ some n = og → (fun n => if some n = og then none else F n) n = F n := fun n h1 => if_neg h1
 have hr : ∀ (q : Option Nat) (sz : Nat) (rows : List (List Cell)), (∀ n, some n = q → ¬ n = nb ∧ ¬ n = b ∧ ¬ some n = og) → aEE h sz rows q → aEE (fun n => if some n = og then none else F n) sz rows q := fun q sz rows hn ho => by
  cases q with
  |none => exact ho
  |some k =>
   obtain ⟨e1, e2, e3⟩ := hn k rfl
   exact ⟨ho.1, ((get k e3).trans (f4 k e1 e2 e3)).trans ho.2⟩
 refine ⟨fun n => if some n = og then none else F n, fun n => ?_, ⟨?_, H.odd, hr _ _ _ (fun n e => ⟨fun q => ((H.apart n).1 q).1 e, fun q => a2.2.1 (by rw [← q]; exact e), ((H.apart n).2.1 e).1⟩) H.code, ⟨by simp [rowsOf, b5.guard], ?_⟩, hr _ _ _ (fun n e => ⟨fun q => ((H.apart n).1 q).2.2 e, fun q => a2.2.2.2 (by rw [← q]; exact e), fun q => (H.apart n).2.2.1 q e⟩) H.dU, fun n hn => ?_, fun n h1 h2 h3 h4 => ?_⟩⟩
 ·by_cases e : some n = og
  ·exact .inl (if_pos e)
  ·exact .inr (if_neg e)
 ·exact (get nb a1.2.1).trans f1
 ·exact (get b a2.2.2.1).trans f2
 ·rcases hn with rfl | hn | hn | hn
  ·exact H.fresh _ (.inl rfl)
  ·exact H.fresh n (.inr (.inl hn))
  ·obtain rfl := Option.some.inj hn; exact g2
  ·exact H.fresh n (.inr (.inr (.inr hn)))
 ·have h3' : ¬ n = b := fun q => h3 (by rw [q])
  by_cases e : some n = og
  ·exact (if_pos e).trans (H.fresh n (.inr (.inr (.inl e)))).symm
  ·exact ((get n e).trans (f4 n h1 h3' e)).trans (H.upto n h1 h2 e h4)
theorem vU (a b : Int) (ha : iI a) (hb : iI b) : dV Tryz.prog 230 [I a, I b] (I (a * b % 1000003)) := by
 have h1 := num_mul ha hb
 unfold iI at ha hb
 refine dS 11 aAI bT bD mix Tryz.func230 rfl (by kernel_rfl) (by simp) fun h => ?_
 simp -dsimp -implicitDefEqProofs only [go_sem, ↓reduceIte, Tryz.f230]
 first | refine aG.mk (gC a) ?_ | refine aE.mk (gC a) ?_ | refine aG.a8 (gC a) ?_ | refine aE.mk (a6.cK (gC a)) ?_
 simp -dsimp -implicitDefEqProofs only [go_sem, ↓reduceIte, Tryz.f230]
 first | refine aG.mk (gC b) ?_ | refine aE.mk (gC b) ?_ | refine aG.a8 (gC b) ?_ | refine aE.mk (a6.cK (gC b)) ?_
 simp -dsimp -implicitDefEqProofs only [go_sem, ↓reduceIte, Tryz.f230]
 rw [Int.emod_eq_of_lt ha.1 (by omega), Int.emod_eq_of_lt hb.1 (by omega), aKR h1.1 (by omega)]
@[go_sem] def aXO : List Nat := [0, 1, 2, 3, 6, 7, 9, 10, 15, 20, 25, 30]
theorem aTP (x : aZ) (a b : Int) (ha : iI a) (hb : iI b) (hk : x.fM = 3 ∨ x.fM = 4 ∨ x.fM = 5 ∨ x.fM = 6 ∨ x.fM = 7) : dV Tryz.prog 223 [.agg x.c, I a, I b] (.gN [I ((opV x.fM a b).getD 0), .bool (opV x.fM a b).isSome]) := by
 rw [aZ.aN]
 have hni : iI (iQ b) := num_inv b
 refine dS 35 aXO aJ1 bD mix Tryz.func223 rfl (by kernel_rfl) (by simp) fun h => ?_
 simp -dsimp -implicitDefEqProofs only [go_sem, ↓reduceIte, Tryz.f223]
 refine ⟨fun q => ?_, fun q => ⟨fun q4 => ?_, fun q4 => ⟨fun q5 => ?_, fun q5 => ⟨fun q7 => ?_, fun q7 => ⟨fun qb => ?_, fun qb => ?_⟩⟩⟩⟩⟩
 ·first | refine aG.mk (aHO a b) ?_ | refine aE.mk (aHO a b) ?_ | refine aG.a8 (aHO a b) ?_ | refine aE.mk (a6.cK (aHO a b)) ?_
  simp -dsimp -implicitDefEqProofs only [go_sem, ↓reduceIte, Tryz.f223]
  unfold opV; rw [if_pos q]; rfl
 ·first | refine aG.mk (minus a b) ?_ | refine aE.mk (minus a b) ?_ | refine aG.a8 (minus a b) ?_ | refine aE.mk (a6.cK (minus a b)) ?_
  simp -dsimp -implicitDefEqProofs only [go_sem, ↓reduceIte, Tryz.f223]
  unfold opV; rw [if_neg q, if_pos q4]; rfl
 ·first | refine aG.mk (vU a b ha hb) ?_ | refine aE.mk (vU a b ha hb) ?_ | refine aG.a8 (vU a b ha hb) ?_ | refine aE.mk (a6.cK (vU a b ha hb)) ?_
  simp -dsimp -implicitDefEqProofs only [go_sem, ↓reduceIte, Tryz.f223]
  unfold opV; rw [if_neg q, if_neg q4, if_pos q5]; rfl
 ·first | refine aG.mk (minus 0 a) ?_ | refine aE.mk (minus 0 a) ?_ | refine aG.a8 (minus 0 a) ?_ | refine aE.mk (a6.cK (minus 0 a)) ?_
  simp -dsimp -implicitDefEqProofs only [go_sem, ↓reduceIte, Tryz.f223]
  unfold opV; rw [if_neg q, if_neg q4, if_neg q5, if_pos q7]; rfl
 ·unfold opV; rw [if_neg q, if_neg q4, if_neg q5, if_neg q7, if_pos qb]; rfl
 ·first | refine aG.mk (mF b) ?_ | refine aE.mk (mF b) ?_ | refine aG.a8 (mF b) ?_ | refine aE.mk (a6.cK (mF b)) ?_
  simp -dsimp -implicitDefEqProofs only [go_sem, ↓reduceIte, Tryz.f223]
  first | refine aG.mk (vU a (iQ b) ha hni) ?_ | refine aE.mk (vU a (iQ b) ha hni) ?_ | refine aG.a8 (vU a (iQ b) ha hni) ?_ | refine aE.mk (a6.cK (vU a (iQ b) ha hni)) ?_
  simp -dsimp -implicitDefEqProofs only [go_sem, ↓reduceIte, Tryz.f223]
  unfold opV; rw [if_neg q, if_neg q4, if_neg q5, if_neg q7, if_neg qb]; rfl
theorem Good.val {inp : Int} {S : b5} {t : Nat} (h : Good inp S t) (k : Int) : iI (S.val k) := h.aXL.get _
theorem qS.row {h0 h : aB} {nb : Nat} {bx : b5 → Option Nat → Option Nat → Option Nat → bL} {S : b5} {om og ov : Option Nat} (H : qS bx h0 nb S om og ov h) {k : Int} (hk : j5 S k) : ∃ w, ov = some w ∧ h w = some (.row 1 (rowsOf (fun n => [I n]) S.dU)) ∧ ¬ w = nb := by
 have hv := H.dU
 cases ov with
 |none => have := fR.1 hv; have h2 := hk.1; have h3 := hk.2; rw [this] at h3; simp at h3; omega
 |some w => exact ⟨w, rfl, hv.2, fun e => ((H.apart w).1 e).2.2 rfl⟩
theorem gU {S : b5} {k : Int} (hk : j5 S k) : (rowsOf (fun n => [I n]) S.dU)[k.toNat]? = some [.v (I (S.val k))] := by
 have h1 := hk.1
 have h2 := hk.2
 rw [rowsOf, List.getElem?_map, List.getElem?_map, List.getElem?_eq_getElem (by omega), b5.val, List.getD_eq_getElem?_getD, List.getElem?_eq_getElem (by omega)]; rfl
@[go_sem] def aXP : List Nat := [0, 1, 2, 6, 7, 8, 9, 16, 43]
@[go_sem] def a8C : Marks := fun id => match id with | 4 => ([0, 4, 6, 8, 12, 14, 16], (.op 1 (.op 2 (.op 3 (.op 5 (.op 9 (.op 10 (.op 11 (.op 13 (.op 0 (.op 4 (.op 6 (.op 7 (.op 8 (.op 12 (.op 14 (.op 15 (.op 16 (.op 17 (.op 18 (.op 19 (.op 20 (.op 21 (.op 22 .nil))))))))))))))))))))))), []) | _ => ([], .nil, [])
theorem nI {h0 h : aB} {nb : Nat} {p : aC} {inp : Int} {S : b5} {st : Nat} (H : gW h0 nb p inp S st 0 h) (hg : Good inp S st) (hst : st ≤ 3000) (k : Int) (vs : List Int) (hk : k = 3 ∨ k = 4 ∨ k = 5 ∨ k = 6 ∨ k = 7) (h1 : 1 ≤ vs.length) (h2 : ¬ k = 7 → 2 ≤ vs.length) (hv : ∀ x ∈ vs, j5 S x) (hl : vs.length ≤ 1048576) :
  eH Tryz.prog 204 [.op nb 8 0 0, I k, ints vs] h fun r h' => ∃ j S' c', r = I j ∧ gW h0 nb p inp S' st c' h' ∧ gT (xG k vs S st) (j, S') st c' := by
 obtain ⟨om, og, ov, H⟩ := H
 have at_ : ∀ i, i < vs.length → j5 S (vs.getD i 0) := fun i hi => by
  rw [List.getD_eq_getElem?_getD, List.getElem?_eq_getElem hi]
  exact hv _ (List.getElem_mem _)
 have i0 := at_ 0 (by omega)
 have iB : j5 S (opB k vs) := by
  unfold opB
  split
  ·have a := i0.1; have b := i0.2; exact ⟨Int.le_refl _, by omega⟩
  ·exact at_ 1 (h2 (by assumption))
 obtain ⟨w, rfl, hw, dw⟩ := H.row i0
 have hb := H.box
 unfold cD at hb
 rw [cV] at hb
 have g0 : vs[Int.toNat 0]? = some (vs.getD 0 0) := bR (by omega)
 have r0 := gU i0
 have rB := gU iB
 have l5 : ¬ w = nb := dw
 have uB : ¬ nb = w := Ne.symm l5
 have kP : (w = nb) = False := eq_false l5
 have kQ : (nb = w) = False := eq_false uB
 have hva := hg.val (vs.getD 0 0)
 have hvb := hg.val (opB k vs)
 have hop := aTP ⟨k, vs.getD 0 0, opB k vs, 0⟩ _ _ hva hvb hk
 simp only [aZ.aN] at hop
 have b0 := iB.1
 have b1 := i0.1
 have lw := dJ (fun n => [I n]) S.dU
 have i0b := i0.2
 have iBb := iB.2
 refine gG 51 aXP bT a8C mix Tryz.func204 rfl (by kernel_rfl) (by simp) ?_
 simp -dsimp -implicitDefEqProofs only [go_sem, ↓reduceIte, Tryz.f204, hb, g0]
 refine ⟨by omega, fun n hn => ⟨fun h7 => ⟨by have := h2 h7; omega, ?_⟩, fun h7 => ?_⟩⟩
 ·have iA : ¬ n = nb := fun e => by rw [e, hb] at hn; cases hn
  have jA : ¬ nb = n := Ne.symm iA
  have fP : (n = nb) = False := eq_false iA
  have fQ : (nb = n) = False := eq_false jA
  have aKZ : ¬ n = w := fun e => by rw [e, hw] at hn; cases hn
  have aTQ : ¬ w = n := Ne.symm aKZ
  have aK0 : (n = w) = False := eq_false aKZ
  have aK1 : (w = n) = False := eq_false aTQ
  have eB : opB k vs = vs.getD 1 0 := if_neg h7
  have g1 : vs[Int.toNat 1]? = some (vs.getD 1 0) := bR (h2 h7)
  rw [eB] at rB hop b0 iBb
  simp -dsimp -implicitDefEqProofs only [go_sem, ↓reduceIte, Tryz.f204, g1, hb, hw, r0, rB, fP, aK0, fQ, kQ, aK1, kP, aF]
  refine ⟨b1, i0b, b0, iBb, ?_⟩
  cases hv : opV k (S.val (vs.getD 0 0)) (S.val ((vs.getD 1 0))) with
  |none =>
   rw [hv] at hop
   first | refine aG.mk (hop) ?_ | refine aE.mk (hop) ?_ | refine aG.a8 (hop) ?_ | refine aE.mk (a6.cK (hop)) ?_
   simp -dsimp -implicitDefEqProofs only [go_sem, ↓reduceIte, Tryz.f204]
   refine ⟨fun _ => ?_, fun q => absurd q (by simp)⟩
   simp -dsimp -implicitDefEqProofs only [go_sem, ↓reduceIte, Tryz.f204, hb, fP, aK0, fQ, kQ, aK1, kP, aF]
   refine ⟨_, _, bQ (?_ : (a5 h nb (cD p inp S om og (some w) st 6)).le _), 0, S, 6, rfl, ⟨_, _, _, H.set st 6⟩, by unfold xG; rw [eB, hv]; exact dN _ _ (by decide)⟩
   unfold cD
   rw [cV]
   exact (jM (by repeat' (first | exact h8 _ _ | refine jN (by simp only [c8, ↓reduceIte, eq_self, if_true, fP, fQ]) ?_ | refine fY (by first | exact .inr (by assumption) | exact .inl (by simp)) ?_)))
  |some v =>
   rw [hv] at hop
   first | refine aG.mk (hop) ?_ | refine aE.mk (hop) ?_ | refine aG.a8 (hop) ?_ | refine aE.mk (a6.cK (hop)) ?_
   simp -dsimp -implicitDefEqProofs only [go_sem, ↓reduceIte, Tryz.f204]
   refine ⟨fun q => absurd q (by simp), fun _ => ?_⟩
   simp only [aK]
   refine aG.fF (aEG (cE.uS ⟨om, og, some w, H⟩ hn) ⟨k, vs.getD 0 0, (vs.getD 1 0), 0⟩ v hg.len (by have := hg.cap; omega)) ?_
   rintro r h' ⟨rfl, hR⟩
   obtain ⟨g, rfl, hgn, hR⟩ := hR.base (cE.none ⟨om, og, some w, H⟩ hn)
   simp -dsimp -implicitDefEqProofs only [go_sem, ↓reduceIte, Tryz.f204]
   exact ⟨_, g, bQ (aB.bF hgn (aB.le_refl _)), _, _, 0, rfl, hR, by unfold xG; rw [eB, hv]; exact jP _ _⟩
 ·have iA : ¬ n = nb := fun e => by rw [e, hb] at hn; cases hn
  have jA : ¬ nb = n := Ne.symm iA
  have fP : (n = nb) = False := eq_false iA
  have fQ : (nb = n) = False := eq_false jA
  have aKZ : ¬ n = w := fun e => by rw [e, hw] at hn; cases hn
  have aTQ : ¬ w = n := Ne.symm aKZ
  have aK0 : (n = w) = False := eq_false aKZ
  have aK1 : (w = n) = False := eq_false aTQ
  have eB : opB k vs = 0 := if_pos h7
  rw [eB] at rB hop b0 iBb
  simp -dsimp -implicitDefEqProofs only [go_sem, ↓reduceIte, Tryz.f204, hb, hw, r0, rB, fP, aK0, fQ, kQ, aK1, kP, aF]
  refine ⟨b1, i0b, iBb, ?_⟩
  cases hv : opV k (S.val (vs.getD 0 0)) (S.val (0)) with
  |none =>
   rw [hv] at hop
   first | refine aG.mk (hop) ?_ | refine aE.mk (hop) ?_ | refine aG.a8 (hop) ?_ | refine aE.mk (a6.cK (hop)) ?_
   simp -dsimp -implicitDefEqProofs only [go_sem, ↓reduceIte, Tryz.f204]
   refine ⟨fun _ => ?_, fun q => absurd q (by simp)⟩
   simp -dsimp -implicitDefEqProofs only [go_sem, ↓reduceIte, Tryz.f204, hb, fP, aK0, fQ, kQ, aK1, kP, aF]
   refine ⟨_, _, bQ (?_ : (a5 h nb (cD p inp S om og (some w) st 6)).le _), 0, S, 6, rfl, ⟨_, _, _, H.set st 6⟩, by unfold xG; rw [eB, hv]; exact dN _ _ (by decide)⟩
   unfold cD
   rw [cV]
   exact (jM (by repeat' (first | exact h8 _ _ | refine jN (by simp only [c8, ↓reduceIte, eq_self, if_true, fP, fQ]) ?_ | refine fY (by first | exact .inr (by assumption) | exact .inl (by simp)) ?_)))
  |some v =>
   rw [hv] at hop
   first | refine aG.mk (hop) ?_ | refine aE.mk (hop) ?_ | refine aG.a8 (hop) ?_ | refine aE.mk (a6.cK (hop)) ?_
   simp -dsimp -implicitDefEqProofs only [go_sem, ↓reduceIte, Tryz.f204]
   refine ⟨fun q => absurd q (by simp), fun _ => ?_⟩
   simp only [aK]
   refine aG.fF (aEG (cE.uS ⟨om, og, some w, H⟩ hn) ⟨k, vs.getD 0 0, 0, 0⟩ v hg.len (by have := hg.cap; omega)) ?_
   rintro r h' ⟨rfl, hR⟩
   obtain ⟨g, rfl, hgn, hR⟩ := hR.base (cE.none ⟨om, og, some w, H⟩ hn)
   simp -dsimp -implicitDefEqProofs only [go_sem, ↓reduceIte, Tryz.f204]
   exact ⟨_, g, bQ (aB.bF hgn (aB.le_refl _)), _, _, 0, rfl, hR, by unfold xG; rw [eB, hv]; exact jP _ _⟩
theorem gT.ok {α : Type} {c : Int} {X : Out α} {v : α} {t : Nat} {c' : Int} (h : gT (lY c X) v t c') (hc : c' = 0) : c = 0 ∧ X = .ok (v, t) := by
 have h0 := h.a72 hc
 subst h0
 rw [cA] at h
 cases X with
 |ok q => obtain ⟨w, u⟩ := q; obtain ⟨_, rfl, rfl⟩ := h; exact ⟨rfl, rfl⟩
 |error d => exact absurd (h.1.symm.trans hc) h.2
def aAQ (h0 : aB) (nb : Nat) (p : aC) (inp : Int) (st : Nat) (c : Int) (X : Out (Int × b5)) : aD → aB → Prop := fun r h' => ∃ k S' t c', r = I k ∧ gW h0 nb p inp S' t c' h' ∧ st ≤ t ∧ t ≤ 3000 ∧ gT (lY c X) (k, S') t c'
def a0A (h0 : aB) (nb : Nat) (p : aC) (inp : Int) (st : Nat) (c : Int) (n : Nat) (X : Out (List Int × b5)) : aD → aB → Prop := fun r h' => ∃ l S' t c', r = ints l ∧ gW h0 nb p inp S' t c' h' ∧ l.length = n ∧ st ≤ t ∧ t ≤ 3000 ∧ gT (lY c X) (l, S') t c'
@[go_sem] def lT : List Nat := [0, 1, 2, 4, 6, 7, 8, 9, 10, 15, 20, 32, 33, 42, 49, 62, 85, 100, 128, 130, 131, 150, 162]
@[go_sem] def sP : List Nat := [4, 80, 116]
@[go_sem] def sQ : Marks := fun id => match id with | 22 => ([6, 13, 15, 16], (.op 0 (.op 1 (.op 2 (.op 3 (.op 4 (.op 5 (.op 7 (.op 8 (.op 9 (.op 10 (.op 11 (.op 12 (.op 6 (.op 13 (.op 14 (.op 15 (.op 16 (.op 17 .nil)))))))))))))))))), []) | 28 => ([5, 16], (.op 0 (.op 1 (.op 2 (.op 3 (.op 4 (.op 6 (.op 7 (.op 11 (.op 12 (.op 15 (.op 5 (.op 8 (.op 9 (.op 10 (.op 13 (.op 14 (.op 16 (.op 17 .nil)))))))))))))))))), []) | 33 => ([5, 12], (.op 0 (.op 1 (.op 2 (.op 3 (.op 4 (.op 6 (.op 7 (.op 11 (.op 5 (.op 8 (.op 9 (.op 10 (.op 12 (.op 13 .nil)))))))))))))), []) | _ => ([], .nil, [])
def sR (p : aC) (inp : Int) (n : Nat) : Prop := ∀ (h0 h : aB) (nb st : Nat) (c : Int) (e : aA) (env : List Int) (S : b5) (funcs : Int), gW h0 nb p inp S st c h → st ≤ 3000 → 3001 ≤ n + st → e.ok p funcs env.length → 0 ≤ funcs → funcs ≤ p.aJ.length → (c = 0 → Good inp S st ∧ ∀ x ∈ env, j5 S x) → env.length ≤ 412 + st →
 eH Tryz.prog 173 [.op nb 8 0 0, .agg e.c, ints env] h (aAQ h0 nb p inp st c (cN p n st e env S))
theorem fN {p : aC} (hp : p.ok) {inp : Int} {n st : Nat} {S : b5} {l : List aA} {env : List Int} {funcs : Int} (hg : Good inp S st) (hst : st ≤ 3000) (henv : ∀ x ∈ env, j5 S x) (hok : ∀ e ∈ l, e.ok p funcs env.length) (hf : funcs ≤ p.aJ.length) : qR (vS inp S st l.length) (jG (fun t e S => cN p n t e env S) l st S) :=
 jQ l st S hg hst fun x hx u S' a b c => lD hp n u x env S' funcs (hok x hx) hf a c.2.2.2 fun y hy => (henv y hy).ext b
theorem pJ {p : aC} (hp : p.ok) {inp : Int} {n : Nat} (hv : sR p inp n) (h0 h : aB) (nb st : Nat) (c : Int) (l : List aA) (env : List Int) (S : b5) (funcs : Int) (hb : gW h0 nb p inp S st c h) (hst : st ≤ 3000) (hn : 3001 ≤ n + st)
  (hl : l.length ≤ 1048576) (hok : ∀ e ∈ l, e.ok p funcs env.length) (c7 : 0 ≤ funcs) (hf : funcs ≤ p.aJ.length) (hgo : c = 0 → Good inp S st ∧ ∀ x ∈ env, j5 S x) (hel : env.length ≤ 412 + st) :
  eH Tryz.prog 101 [.op nb 8 0 0, dB 5 aA.c l, ints env] h (a0A h0 nb p inp st c l.length (jG (fun t e S => cN p n t e env S) l st S)) := by
 refine gG 26 aOG aOH bD mix Tryz.func101 rfl (by kernel_rfl) (by simp) ?_
 simp -dsimp -implicitDefEqProofs only [go_sem, ↓reduceIte, Tryz.f101]
 refine ⟨Nat.zero_lt_one, fun _ => ?_⟩
 refine bX (keep := aOG) (ib := aOH) (mk := bD) mix (by kernel_rfl) (fun x : Nat × List Int × Nat × Int × b5 × aB × Option Nat => [(0, .op nb 8 0 0), (2, ints env), (7, eK 1 x.2.1.length x.2.2.2.2.2.2), (11, dB 5 aA.c l), (12, I l.length), (13, I x.1)]) (fun x => gQ x.2.2.2.2.2.1 (.row 1 ((x.2.1.map fun n => [I n]).map (List.map .v))) x.2.2.2.2.2.2) (fun x => x.1 ≤ l.length ∧ x.2.1.length = x.1 ∧ st ≤ x.2.2.1 ∧ x.2.2.1 ≤ 3000 ∧ gT (lY c (jG (fun t e S => cN p n t e env S) (l.take x.1) st S)) (x.2.1, x.2.2.2.2.1) x.2.2.1 x.2.2.2.1 ∧ gW h0 nb p inp x.2.2.2.2.1 x.2.2.1 x.2.2.2.1 x.2.2.2.2.2.1 ∧ eP x.2.2.2.2.2.1 x.2.1 x.2.2.2.2.2.2) (fun x => l.length - x.1) (0, [], st, c, S, h, none) ⟨by simp [b8, bJ, eK], by simp only [aR]; exact aB.le_refl _, Nat.zero_le _, rfl, Nat.le_refl _, hst, fL _ _ _, hb, rfl⟩ ?_
 rintro ⟨k, vs, t, c', S1, g, o⟩ ⟨hk, hvl, zA, ht, ho, hR, hos⟩
 simp only at hk hvl zA ht ho hR hos ⊢
 rcases Nat.lt_or_ge k l.length with hlt | hge
 ·have ek : l[k]? = some l[k] := List.getElem?_eq_getElem hlt
  have hnext : ∀ (j : Int) (S2 : b5) (t2 : Nat) (c2 : Int), gT (lY c' (cN p n t l[k] env S1)) (j, S2) t2 c2 → gT (lY c (jG (fun t e S => cN p n t e env S) (l.take (k + 1)) st S)) (vs ++ [j], S2) t2 c2 := fun j S2 t2 c2 h3 => by
   rw [List.take_succ_eq_append_getElem hlt, aAP]
   exact ho.cQ (h3.cQ (fL _ _ _))
  have a8D : c' = 0 → Good inp S1 t ∧ ∀ x ∈ env, j5 S1 x := fun hc => by
   obtain ⟨e1, e2⟩ := ho.ok hc
   obtain ⟨a1, a2⟩ := hgo e1
   obtain ⟨b1, b2, b3, b4⟩ := fN hp (l := l.take k) a1 hst a2 (fun x hx => hok x (List.mem_of_mem_take hx)) hf _ _ e2
   exact ⟨b1, fun x hx => (a2 x hx).ext b2⟩
  cases o with
  |none =>
   rw [a9] at hos
   subst hos
   simp -dsimp -implicitDefEqProofs only [go_sem, ↓reduceIte, Tryz.f101, a7, aR, hlt, ek, aA.aN]
   intro m9 z9
   rw [aK]
   have hvk := hv (a5 h0 m9 (.row 5 [l[k].c.map .v])) (a5 g m9 (.row 5 [l[k].c.map .v])) nb t c' l[k] env S1 funcs (hR.uS z9) ht (by omega) (hok _ (List.getElem_mem _)) c7 hf a8D (by omega)
   rw [aA.aN] at hvk
   refine aG.fF hvk ?_
   rintro r h' ⟨j, S2, t2, c2, rfl, k5, h1, h2, h3⟩
   obtain ⟨g2, rfl, hg2, k5⟩ := k5.base (hR.none z9)
   simp -dsimp -implicitDefEqProofs only [go_sem, ↓reduceIte, Tryz.f101]
   refine ⟨Nat.zero_lt_one, Nat.zero_lt_one, Nat.zero_lt_one, fun b ⟨hb9, jX⟩ => ?_⟩
   refine ⟨(k + 1, [j], t2, c2, S2, g2, some b), ⟨rfl, by rw [IntWalk.i64_in _ (by omega)]; rfl⟩, ?_, ⟨by omega, by simp only [List.length_nil] at hvl; subst hvl; rfl, Nat.le_trans zA h1, h2, hnext j S2 t2 c2 h3, k5, jX⟩, by simp only; omega⟩
   simp only [aL]
   exact (jM (by repeat' (first | exact h8 _ _ | refine jN (by simp only [c8, ↓reduceIte, eq_self, if_true, hb9, hg2, List.map_cons, List.map_nil]) ?_ | refine fY (by first | exact .inr (by assumption) | exact .inl (by simp)) ?_)))
  |some m =>
   rw [aU] at hos
   simp -dsimp -implicitDefEqProofs only [go_sem, ↓reduceIte, Tryz.f101, aT, aL, hlt, ek, aA.aN]
   intro m9 ⟨h9m, z9⟩
   rw [aK]
   have vP : ¬ m9 = m := h9m
   have aTG : ¬ m = m9 := Ne.symm vP
   have aD7 : (m9 = m) = False := eq_false vP
   have aD8 : (m = m9) = False := eq_false aTG
   have z9' : (a5 g m (.row 1 ((vs.map fun n => [I n]).map (List.map .v)))) m9 = none := by rw [aF _ _ _ _ vP]; exact z9
   have hRo := hR.uS (o := .row 1 ((vs.map fun n => [I n]).map (List.map .v))) hos
   have hvk := hv _ _ nb t c' l[k] env S1 funcs (hRo.uS (o := .row 5 [l[k].c.map .v]) z9') ht (by omega) (hok _ (List.getElem_mem _)) c7 hf a8D (by omega)
   rw [aA.aN] at hvk
   refine aG.fF hvk ?_
   rintro r h' ⟨j, S2, t2, c2, rfl, k5, h1, h2, h3⟩
   obtain ⟨g1, rfl, iY, k5⟩ := k5.base (hRo.none z9')
   obtain ⟨g2, rfl, hg2, k5⟩ := k5.base (hR.none hos)
   rw [aF _ _ _ _ vP] at iY
   simp -dsimp -implicitDefEqProofs only [go_sem, ↓reduceIte, Tryz.f101, aF, aD8, aD7]
   refine ⟨Nat.zero_lt_one, Nat.zero_lt_one, Nat.zero_lt_one, Nat.le_refl _, by omega, by omega, fun b ⟨hb9, hbm, jX⟩ => ?_⟩
   have gJ : ¬ b = m := hbm
   have kV : ¬ m = b := Ne.symm gJ
   have lB : (b = m) = False := eq_false gJ
   have lC : (m = b) = False := eq_false kV
   have rS : ¬ b = m9 := hb9
   have aM2 : ¬ m9 = b := Ne.symm rS
   have aD5 : (b = m9) = False := eq_false rS
   have aD6 : (m9 = b) = False := eq_false aM2
   refine ⟨(k + 1, vs ++ [j], t2, c2, S2, g2, some b), ⟨by rw [aT, List.length_append]; rfl, by rw [IntWalk.i64_in _ (by omega)]; rfl⟩, ?_, ⟨by omega, by rw [List.length_append, hvl]; rfl, Nat.le_trans zA h1, h2, hnext j S2 t2 c2 h3, k5, jX⟩, by simp only; omega⟩
   simp only [aL]
   rw [← eN]
   exact (jM (by repeat' (first | exact h8 _ _ | refine jN (by simp only [c8, ↓reduceIte, eq_self, if_true, lB, aD5, lC, aD8, aD6, aD7]) ?_ | refine fY (by first | exact .inr (by assumption) | exact .inl (by simp)) ?_)))
 ·have hk' : k = l.length := by omega
  subst hk'
  rw [List.take_length] at ho
  cases o with
  |none =>
   rw [a9] at hos
   subst hos
   simp -dsimp -implicitDefEqProofs only [go_sem, ↓reduceIte, Tryz.f101, a7, aR, Nat.lt_irrefl]
   exact ⟨ints [], _, Shift.of (Sub.loose _ _ _) (aB.le_refl _), [], S1, t, c', rfl, hR, hvl, zA, ht, ho⟩
  |some m =>
   rw [aU] at hos
   simp -dsimp -implicitDefEqProofs only [go_sem, ↓reduceIte, Tryz.f101, aT, aL, Nat.lt_irrefl]
   exact ⟨ints vs, g, iL vs hos (aB.le_refl _) rfl, vs, S1, t, c', rfl, hR, hvl, zA, ht, ho⟩
theorem aTR {p : aC} {inp : Int} {n : Nat} {h0 h : aB} {nb st : Nat} {c : Int} {e : aA} {env : List Int} {S : b5} (hR : gW h0 nb p inp S st c h) (hst : st ≤ 3000) (hs : ¬ c = 0 ∨ st = 3000) :
  eH Tryz.prog 173 [.op nb 8 0 0, .agg e.c, ints env] h (aAQ h0 nb p inp st c (cN p (n + 1) st e env S)) := by
 obtain ⟨om, og, ov, H⟩ := hR
 have hb := H.box
 unfold cD at hb
 rw [aA.aN]
 refine gG 190 lT sP sQ mix Tryz.func173 rfl (by kernel_rfl) (by simp) ?_
 simp -dsimp -implicitDefEqProofs only [go_sem, ↓reduceIte, Tryz.f173, hb]
 refine ⟨fun hc => ?_, fun hc => ?_⟩
 ·exact ⟨_, _, aV _ _, 0, S, st, c, rfl, ⟨_, _, _, H⟩, Nat.le_refl _, hst, by rw [gD _ hc]; exact dN _ _ hc⟩
 ·subst hc
  have h3 : st = 3000 := by rcases hs with hs | hs; exact absurd rfl hs; exact hs
  subst h3
  try simp -dsimp -implicitDefEqProofs only [go_sem, ↓reduceIte, Tryz.f173, hb]
  refine ⟨fun _ => ?_, fun q => absurd q (by simp)⟩
  refine ⟨_, _, aV _ _, 0, S, 3000, 7, rfl, ⟨_, _, _, H.set 3000 7⟩, Nat.le_refl _, hst, ?_⟩
  rw [cA, cN, if_pos rfl]
  exact dN _ _ (by decide)
theorem aPQ (l : List Int) (hl : l.length ≤ 1048576) : dV Tryz.prog 203 [ints l] (.sl 1 (l.map fun n => [I n]) true) := by
 refine dS 9 aAH bT bD mix Tryz.func203 rfl (by kernel_rfl) (by simp) fun h => ?_
 simp -dsimp -implicitDefEqProofs only [go_sem, ↓reduceIte, Tryz.f203]
 repeat' (with_reducible first | intro _ | refine And.intro ?_ ?_)
 all_goals try omega
 rw [List.take_of_length_le (by rw [List.length_map]; exact Nat.le_refl _)]
theorem a8E {p : aC} (hp : p.ok) {inp : Int} {n : Nat} (hv : sR p inp n) {h0 h : aB} {nb st : Nat} {e : aA} {env : List Int} {S : b5} {funcs : Int} (hR : gW h0 nb p inp S st 0 h) (hst : st < 3000) (hn : 3001 ≤ n + 1 + st)
  (hok : e.ok p funcs env.length) (c7 : 0 ≤ funcs) (hf : funcs ≤ p.aJ.length) (hg : Good inp S st) (henv : ∀ x ∈ env, j5 S x) (hel : env.length ≤ 412 + st) (hk : e.aQ = 1) :
  eH Tryz.prog 173 [.op nb 8 0 0, .agg e.c, ints env] h (aAQ h0 nb p inp st 0 (cN p (n + 1) st e env S)) := by
 obtain ⟨om, og, ov, H⟩ := hR
 rw [aA.aN]
 have hb := H.box
 unfold cD at hb
 have e3 : ((st : Int) = 3000) = False := eq_false (by omega)
 have ew : IntKind.i64.wrap ((st : Int) + 1) = ((st + 1 : Nat) : Int) := by rw [IntWalk.i64_in _ (by omega)]; rfl
 have hnode := (aA.cC _ _ _ _).1 hok
 have h3 : ¬ st = 3000 := by omega
 have hcap := hg.cap
 have hgcap := hg.m5
 have iY := hg.kJ (Nat.le_succ st)
 have zE : gW h0 nb p inp S (st + 1) 0 (a5 h nb (cD p inp S om og ov (st + 1) 0)) := ⟨_, _, _, H.set (st + 1) 0⟩
 refine gG 190 lT sP sQ mix Tryz.func173 rfl (by kernel_rfl) (by simp) ?_
 simp -dsimp -implicitDefEqProofs only [go_sem, ↓reduceIte, Tryz.f173, hb, e3, ew, hk]
 refine aG.fF (aEG zE ⟨2, 0, 0, e.aW⟩ e.aW hg.len (by omega)) ?_
 rintro r h' ⟨rfl, k5⟩
 simp -dsimp -implicitDefEqProofs only [go_sem, ↓reduceIte, Tryz.f173]
 refine ⟨_, _, aV _ _, _, _, st + 1, 0, rfl, k5, Nat.le_succ _, hst, ?_⟩
 rw [cA, aEA h3 hk]
 exact jP _ _
theorem a8F {p : aC} (hp : p.ok) {inp : Int} {n : Nat} (hv : sR p inp n) {h0 h : aB} {nb st : Nat} {e : aA} {env : List Int} {S : b5} {funcs : Int} (hR : gW h0 nb p inp S st 0 h) (hst : st < 3000) (hn : 3001 ≤ n + 1 + st)
  (hok : e.ok p funcs env.length) (c7 : 0 ≤ funcs) (hf : funcs ≤ p.aJ.length) (hg : Good inp S st) (henv : ∀ x ∈ env, j5 S x) (hel : env.length ≤ 412 + st) (hk : e.aQ = 2) :
  eH Tryz.prog 173 [.op nb 8 0 0, .agg e.c, ints env] h (aAQ h0 nb p inp st 0 (cN p (n + 1) st e env S)) := by
 obtain ⟨om, og, ov, H⟩ := hR
 rw [aA.aN]
 have hb := H.box
 unfold cD at hb
 have e3 : ((st : Int) = 3000) = False := eq_false (by omega)
 have ew : IntKind.i64.wrap ((st : Int) + 1) = ((st + 1 : Nat) : Int) := by rw [IntWalk.i64_in _ (by omega)]; rfl
 have hnode := (aA.cC _ _ _ _).1 hok
 have h3 : ¬ st = 3000 := by omega
 have hcap := hg.cap
 have hgcap := hg.m5
 have iY := hg.kJ (Nat.le_succ st)
 have zE : gW h0 nb p inp S (st + 1) 0 (a5 h nb (cD p inp S om og ov (st + 1) 0)) := ⟨_, _, _, H.set (st + 1) 0⟩
 have hnum := ((dM (by omega)).1 hnode.1).2.2.2.2.1 hk
 have hlt : e.aW.toNat < env.length := by omega
 refine gG 190 lT sP sQ mix Tryz.func173 rfl (by kernel_rfl) (by simp) ?_
 simp -dsimp -implicitDefEqProofs only [go_sem, ↓reduceIte, Tryz.f173, hb, e3, ew, hk, bR hlt]
 refine ⟨hnum.1, by omega, _, _, aV _ _, _, S, st + 1, 0, rfl, zE, Nat.le_succ _, hst, ?_⟩
 rw [cA, aEB h3 hk]
 exact jP _ _
theorem a8G {p : aC} (hp : p.ok) {inp : Int} {n : Nat} (hv : sR p inp n) {h0 h : aB} {nb st : Nat} {e : aA} {env : List Int} {S : b5} {funcs : Int} (hR : gW h0 nb p inp S st 0 h) (hst : st < 3000) (hn : 3001 ≤ n + 1 + st)
  (hok : e.ok p funcs env.length) (c7 : 0 ≤ funcs) (hf : funcs ≤ p.aJ.length) (hg : Good inp S st) (henv : ∀ x ∈ env, j5 S x) (hel : env.length ≤ 412 + st) (hk : e.aQ = 9) :
  eH Tryz.prog 173 [.op nb 8 0 0, .agg e.c, ints env] h (aAQ h0 nb p inp st 0 (cN p (n + 1) st e env S)) := by
 obtain ⟨om, og, ov, H⟩ := hR
 rw [aA.aN]
 have hb := H.box
 unfold cD at hb
 have e3 : ((st : Int) = 3000) = False := eq_false (by omega)
 have ew : IntKind.i64.wrap ((st : Int) + 1) = ((st + 1 : Nat) : Int) := by rw [IntWalk.i64_in _ (by omega)]; rfl
 have hnode := (aA.cC _ _ _ _).1 hok
 have h3 : ¬ st = 3000 := by omega
 have hcap := hg.cap
 have hgcap := hg.m5
 have iY := hg.kJ (Nat.le_succ st)
 have zE : gW h0 nb p inp S (st + 1) 0 (a5 h nb (cD p inp S om og ov (st + 1) 0)) := ⟨_, _, _, H.set (st + 1) 0⟩
 have hlen := cG hok (by omega)
 rw [hk, show eE 9 = 2 from rfl] at hlen
 have g0 : e.aI[Int.toNat 0]? = some (e.kU 0) := aA.fE (by omega)
 have g1 : e.aI[Int.toNat 1]? = some (e.kU 1) := aA.fE (by omega)
 have o0 := aA.dW hok (i := 0) (by omega)
 have o1 := aA.dW hok (i := 1) (by omega)
 rw [gI (by omega)] at o0
 rw [hk, show j2 9 1 (env.length : Int) = env.length + 1 from rfl] at o1
 refine gG 190 lT sP sQ mix Tryz.func173 rfl (by kernel_rfl) (by simp) ?_
 simp -dsimp -implicitDefEqProofs only [go_sem, ↓reduceIte, Tryz.f173, hb, e3, ew, hk, g0, g1, aA.ld5]
 refine ⟨by omega, by omega, ?_⟩
 first | refine aG.mk (aPQ env (by omega)) ?_ | refine aE.mk (aPQ env (by omega)) ?_ | refine aG.a8 (aPQ env (by omega)) ?_ | refine aE.mk (a6.cK (aPQ env (by omega))) ?_
 simp -dsimp -implicitDefEqProofs only [go_sem, ↓reduceIte, Tryz.f173]
 refine aG.fF (hv _ _ nb (st + 1) 0 (e.kU 0) env S funcs zE (by omega) (by omega) o0 c7 hf (fun _ => ⟨iY, henv⟩) (by omega)) ?_
 rintro r h' ⟨k1, S1, t1, c1, rfl, k5, a1, a2, a3⟩
 simp -dsimp -implicitDefEqProofs only [go_sem, ↓reduceIte, Tryz.f173]
 refine ⟨Nat.zero_lt_one, Nat.zero_lt_one, Nat.zero_lt_one, by omega, by omega, fun m hm => ?_⟩
 have c5 : ¬ nb = m := fun e => by obtain ⟨_, _, _, H2⟩ := k5; have := H2.box; rw [e, hm] at this; cases this
 have dA : ¬ m = nb := Ne.symm c5
 have dH : (nb = m) = False := eq_false c5
 have dG : (m = nb) = False := eq_false dA
 have hrow : env.map (fun n => [I n]) ++ [[aD.int .i64 k1]] = (env ++ [k1]).map fun n => [I n] := by rw [List.map_append]; rfl
 rw [hrow]
 refine aG.aPC c5 (by rw [List.length_map, List.length_append]; rfl) hm ?_
 refine eH.mono (hv _ _ nb t1 c1 (e.kU 1) (env ++ [k1]) S1 funcs (k5.uS (o := .gone) hm) (by omega) (by omega) (by rw [List.length_append]; exact o1) c7 hf (fun hc => ?_) (by rw [List.length_append]; show env.length + 1 ≤ _; omega)) ?_
 ·obtain ⟨_, e2⟩ := a3.ok hc
  obtain ⟨b1, b2, b3, b4⟩ := lD hp n (st + 1) (e.kU 0) env S funcs o0 hf iY (by omega) henv _ _ e2
  refine ⟨b1, fun x hx => ?_⟩
  rcases List.mem_append.1 hx with hx | hx
  ·exact (henv x hx).ext b2
  ·rw [List.mem_singleton.1 hx]; exact b3
 rintro r h2 ⟨k2, S2, t2, c2, rfl, nP, b1, b2, b3⟩
 obtain ⟨g, rfl, hgm, nP⟩ := nP.base (k5.none hm)
 simp -dsimp -implicitDefEqProofs only [go_sem, ↓reduceIte, Tryz.f173]
 refine ⟨_, g, bQ (aB.bF hgm (aB.le_refl _)), k2, S2, t2, c2, rfl, nP, by omega, b2, ?_⟩
 rw [aEC h3 hk]
 exact a3.cQ b3
theorem a8H {p : aC} (hp : p.ok) {inp : Int} {n : Nat} (hv : sR p inp n) {h0 h : aB} {nb st : Nat} {e : aA} {env : List Int} {S : b5} {funcs : Int} (hR : gW h0 nb p inp S st 0 h) (hst : st < 3000) (hn : 3001 ≤ n + 1 + st)
  (hok : e.ok p funcs env.length) (c7 : 0 ≤ funcs) (hf : funcs ≤ p.aJ.length) (hg : Good inp S st) (henv : ∀ x ∈ env, j5 S x) (hel : env.length ≤ 412 + st) (hk : e.aQ = 8) :
  eH Tryz.prog 173 [.op nb 8 0 0, .agg e.c, ints env] h (aAQ h0 nb p inp st 0 (cN p (n + 1) st e env S)) := by
 obtain ⟨om, og, ov, H⟩ := hR
 rw [aA.aN]
 have hb := H.box
 unfold cD at hb
 have e3 : ((st : Int) = 3000) = False := eq_false (by omega)
 have ew : IntKind.i64.wrap ((st : Int) + 1) = ((st + 1 : Nat) : Int) := by rw [IntWalk.i64_in _ (by omega)]; rfl
 have hnode := (aA.cC _ _ _ _).1 hok
 have h3 : ¬ st = 3000 := by omega
 have hcap := hg.cap
 have hgcap := hg.m5
 have iY := hg.kJ (Nat.le_succ st)
 have zE : gW h0 nb p inp S (st + 1) 0 (a5 h nb (cD p inp S om og ov (st + 1) 0)) := ⟨_, _, _, H.set (st + 1) 0⟩
 have hlen := cG hok (by omega)
 rw [hk, show eE 8 = 3 from rfl] at hlen
 have g0 : e.aI[Int.toNat 0]? = some (e.kU 0) := aA.fE (by omega)
 have g1 : e.aI[Int.toNat 1]? = some (e.kU 1) := aA.fE (by omega)
 have g2 : e.aI[Int.toNat 2]? = some (e.kU 2) := aA.fE (by omega)
 have o0 := aA.dW hok (i := 0) (by omega)
 have o1 := aA.dW hok (i := 1) (by omega)
 have o2 := aA.dW hok (i := 2) (by omega)
 rw [gI (by omega)] at o0 o1 o2
 refine gG 190 lT sP sQ mix Tryz.func173 rfl (by kernel_rfl) (by simp) ?_
 simp -dsimp -implicitDefEqProofs only [go_sem, ↓reduceIte, Tryz.f173, hb, e3, ew, hk, g0, aA.ld5]
 refine ⟨by omega, ?_⟩
 refine aG.fF (hv _ _ nb (st + 1) 0 (e.kU 0) env S funcs zE (by omega) (by omega) o0 c7 hf (fun _ => ⟨iY, henv⟩) (by omega)) ?_
 rintro r h' ⟨k1, S1, t1, c1, rfl, ⟨om1, og1, ov1, H1⟩, a1, a2, a3⟩
 have jL := H1.box
 unfold cD at jL
 simp -dsimp -implicitDefEqProofs only [go_sem, ↓reduceIte, Tryz.f173, jL]
 refine ⟨fun hc => ?_, fun hc => ?_⟩
 ·refine ⟨_, _, aV _ _, 0, S1, t1, c1, rfl, ⟨_, _, _, H1⟩, by omega, a2, ?_⟩
  rw [tY h3 hk]
  exact a3.cQ (by rw [gD _ hc]; exact dN _ _ hc)
 subst hc
 obtain ⟨_, e2⟩ := a3.ok rfl
 obtain ⟨q1, q2, q3, q4⟩ := lD hp n (st + 1) (e.kU 0) env S funcs o0 hf iY (by omega) henv _ _ e2
 unfold k8 at q4
 simp only at q1 q2 q3 q4
 obtain ⟨w, rfl, hw, dw⟩ := H1.row q3
 have rk := gU q3
 have k0 := q3.1
 have k2 := q3.2
 have lw := dJ (fun n => [I n]) S1.dU
 have hgc := q1.m5
 rw [cV] at jL
 try simp -dsimp -implicitDefEqProofs only [go_sem, ↓reduceIte, Tryz.f173, jL, hw, rk, cV]
 refine ⟨k0, by omega, ?_⟩
 have hgd := H1.gds
 cases og1 with
 |none =>
  have hg0 : S1.guards = [] := fR.1 hgd
  rw [sG]
  simp -dsimp -implicitDefEqProofs only [go_sem, ↓reduceIte, Tryz.f173, jL]
  refine ⟨by decide, by decide, by decide, fun b jX => ?_⟩
  have bS : ¬ b = nb := fun e => by rw [e, jL] at jX; cases jX
  have dO : ¬ nb = b := Ne.symm bS
  have cI : (b = nb) = False := eq_false bS
  have cJ : (nb = b) = False := eq_false dO
  simp -dsimp -implicitDefEqProofs only [go_sem, ↓reduceIte, Tryz.f173, jL, cI, cJ, aF, g1, g2, aA.ld5]
  refine ⟨fun hz => ⟨by omega, ?_⟩, fun hz => ⟨by omega, ?_⟩⟩
  ·rw [decide_eq_true hz]
   obtain ⟨g, hgl, hG⟩ := H1.guard ⟨k1, true⟩ jX (F := a5 (a5 h' b (.row 2 [[.v (I k1), .v (.bool true)]])) nb (cD p inp (S1.guard ⟨k1, true⟩) om1 (some b) (some w) t1 0)) (aH _ _ _) (by rw [aF _ _ _ _ bS, aH, hg0]; rfl) (fun n h1 h2 _ => by rw [aF _ _ _ _ h1, aF _ _ _ _ h2])
   unfold cD at hgl
   simp only [b5.guard, hg0, cV, List.nil_append, List.length_singleton] at hgl
   refine aG.wk (aB.iX hgl) ?_
   have hgG := q1.guard (b := true) q3 (by omega)
   have heG := q2.trans (S1.kE ⟨k1, true⟩)
   refine aG.fF (hv h0 g nb t1 0 (e.kU 1) env (S1.guard ⟨k1, true⟩) funcs ⟨_, _, _, hG⟩ (by omega) (by omega) o1 c7 hf (fun _ => ⟨hgG, fun x hx => (henv x hx).ext heG⟩) (by omega)) ?_
   rintro r h2 ⟨k2, S2, t2, c2, rfl, nP, b1, b2, b3⟩
   simp -dsimp -implicitDefEqProofs only [go_sem, ↓reduceIte, Tryz.f173]
   refine ⟨_, _, aV _ _, k2, S2, t2, c2, rfl, nP, by omega, b2, ?_⟩
   rw [tY h3 hk]
   refine a3.cQ ?_
   rw [if_pos hz]
   exact b3
  ·rw [decide_eq_false hz]
   obtain ⟨g, hgl, hG⟩ := H1.guard ⟨k1, false⟩ jX (F := a5 (a5 h' b (.row 2 [[.v (I k1), .v (.bool false)]])) nb (cD p inp (S1.guard ⟨k1, false⟩) om1 (some b) (some w) t1 0)) (aH _ _ _) (by rw [aF _ _ _ _ bS, aH, hg0]; rfl) (fun n h1 h2 _ => by rw [aF _ _ _ _ h1, aF _ _ _ _ h2])
   unfold cD at hgl
   simp only [b5.guard, hg0, cV, List.nil_append, List.length_singleton] at hgl
   refine aG.wk (aB.iX hgl) ?_
   have hgG := q1.guard (b := false) q3 (by omega)
   have heG := q2.trans (S1.kE ⟨k1, false⟩)
   refine aG.fF (hv h0 g nb t1 0 (e.kU 2) env (S1.guard ⟨k1, false⟩) funcs ⟨_, _, _, hG⟩ (by omega) (by omega) o2 c7 hf (fun _ => ⟨hgG, fun x hx => (henv x hx).ext heG⟩) (by omega)) ?_
   rintro r h2 ⟨k2, S2, t2, c2, rfl, nP, b1, b2, b3⟩
   simp -dsimp -implicitDefEqProofs only [go_sem, ↓reduceIte, Tryz.f173]
   refine ⟨_, _, aV _ _, k2, S2, t2, c2, rfl, nP, by omega, b2, ?_⟩
   rw [tY h3 hk]
   refine a3.cQ ?_
   rw [if_neg hz]
   exact b3
 |some gm =>
  have hgm := hgd.2
  have zF : ¬ gm = nb := fun e => by rw [e, jL] at hgm; cases hgm
  have aH5 : ¬ nb = gm := Ne.symm zF
  have aH6 : (gm = nb) = False := eq_false zF
  have aH7 : (nb = gm) = False := eq_false aH5
  rw [cV]
  simp -dsimp -implicitDefEqProofs only [go_sem, ↓reduceIte, Tryz.f173, jL, hgm, dJ]
  refine ⟨by decide, by decide, by decide, Nat.le_refl _, by omega, by omega, fun b jX => ?_⟩
  have bS : ¬ b = nb := fun e => by rw [e, jL] at jX; cases jX
  have dO : ¬ nb = b := Ne.symm bS
  have cI : (b = nb) = False := eq_false bS
  have cJ : (nb = b) = False := eq_false dO
  have aEN : ¬ b = gm := fun e => by rw [e, hgm] at jX; cases jX
  have aM8 : ¬ gm = b := Ne.symm aEN
  have aM9 : (b = gm) = False := eq_false aEN
  have aNA : (gm = b) = False := eq_false aM8
  simp -dsimp -implicitDefEqProofs only [go_sem, ↓reduceIte, Tryz.f173, jL, cI, aM9, cJ, aH7, aNA, aH6, aF, g1, g2, aA.ld5]
  refine ⟨fun hz => ⟨by omega, ?_⟩, fun hz => ⟨by omega, ?_⟩⟩
  ·rw [decide_eq_true hz, List.take_of_length_le (by rw [dJ]; exact Nat.le_refl _)]
   obtain ⟨g, hgl, hG⟩ := H1.guard ⟨k1, true⟩ jX (F := a5 (a5 (a5 h' gm .gone) b (.row 2 (rowsOf dX.c S1.guards ++ [[.v (I k1), .v (.bool true)]]))) nb (cD p inp (S1.guard ⟨k1, true⟩) om1 (some b) (some w) t1 0)) (aH _ _ _) (by rw [aF _ _ _ _ bS, aH, kK]; rfl) (fun n h1 h2 h3 => by rw [aF _ _ _ _ h1, aF _ _ _ _ h2, aF _ _ _ _ (fun q => h3 (by rw [q]))])
   unfold cD at hgl
   simp only [b5.guard, cV, List.length_append, List.length_singleton] at hgl
   refine aG.wk (aB.iX hgl) ?_
   have hgG := q1.guard (b := true) q3 (by omega)
   have heG := q2.trans (S1.kE ⟨k1, true⟩)
   refine aG.fF (hv h0 g nb t1 0 (e.kU 1) env (S1.guard ⟨k1, true⟩) funcs ⟨_, _, _, hG⟩ (by omega) (by omega) o1 c7 hf (fun _ => ⟨hgG, fun x hx => (henv x hx).ext heG⟩) (by omega)) ?_
   rintro r h2 ⟨k2, S2, t2, c2, rfl, nP, b1, b2, b3⟩
   simp -dsimp -implicitDefEqProofs only [go_sem, ↓reduceIte, Tryz.f173]
   refine ⟨_, _, aV _ _, k2, S2, t2, c2, rfl, nP, by omega, b2, ?_⟩
   rw [tY h3 hk]
   refine a3.cQ ?_
   rw [if_pos hz]
   exact b3
  ·rw [decide_eq_false hz, List.take_of_length_le (by rw [dJ]; exact Nat.le_refl _)]
   obtain ⟨g, hgl, hG⟩ := H1.guard ⟨k1, false⟩ jX (F := a5 (a5 (a5 h' gm .gone) b (.row 2 (rowsOf dX.c S1.guards ++ [[.v (I k1), .v (.bool false)]]))) nb (cD p inp (S1.guard ⟨k1, false⟩) om1 (some b) (some w) t1 0)) (aH _ _ _) (by rw [aF _ _ _ _ bS, aH, kK]; rfl) (fun n h1 h2 h3 => by rw [aF _ _ _ _ h1, aF _ _ _ _ h2, aF _ _ _ _ (fun q => h3 (by rw [q]))])
   unfold cD at hgl
   simp only [b5.guard, cV, List.length_append, List.length_singleton] at hgl
   refine aG.wk (aB.iX hgl) ?_
   have hgG := q1.guard (b := false) q3 (by omega)
   have heG := q2.trans (S1.kE ⟨k1, false⟩)
   refine aG.fF (hv h0 g nb t1 0 (e.kU 2) env (S1.guard ⟨k1, false⟩) funcs ⟨_, _, _, hG⟩ (by omega) (by omega) o2 c7 hf (fun _ => ⟨hgG, fun x hx => (henv x hx).ext heG⟩) (by omega)) ?_
   rintro r h2 ⟨k2, S2, t2, c2, rfl, nP, b1, b2, b3⟩
   simp -dsimp -implicitDefEqProofs only [go_sem, ↓reduceIte, Tryz.f173]
   refine ⟨_, _, aV _ _, k2, S2, t2, c2, rfl, nP, by omega, b2, ?_⟩
   rw [tY h3 hk]
   refine a3.cQ ?_
   rw [if_neg hz]
   exact b3
theorem a8I {p : aC} (hp : p.ok) {inp : Int} {n : Nat} (hv : sR p inp n) {h0 h : aB} {nb st : Nat} {e : aA} {env : List Int} {S : b5} {funcs : Int} (hR : gW h0 nb p inp S st 0 h) (hst : st < 3000) (hn : 3001 ≤ n + 1 + st)
  (hok : e.ok p funcs env.length) (c7 : 0 ≤ funcs) (hf : funcs ≤ p.aJ.length) (hg : Good inp S st) (henv : ∀ x ∈ env, j5 S x) (hel : env.length ≤ 412 + st) (hk : e.aQ = 3) :
  eH Tryz.prog 173 [.op nb 8 0 0, .agg e.c, ints env] h (aAQ h0 nb p inp st 0 (cN p (n + 1) st e env S)) := by
 obtain ⟨om, og, ov, H⟩ := hR
 rw [aA.aN]
 have hb := H.box
 unfold cD at hb
 have e3 : ((st : Int) = 3000) = False := eq_false (by omega)
 have ew : IntKind.i64.wrap ((st : Int) + 1) = ((st + 1 : Nat) : Int) := by rw [IntWalk.i64_in _ (by omega)]; rfl
 have hnode := (aA.cC _ _ _ _).1 hok
 have h3 : ¬ st = 3000 := by omega
 have hcap := hg.cap
 have hgcap := hg.m5
 have iY := hg.kJ (Nat.le_succ st)
 have zE : gW h0 nb p inp S (st + 1) 0 (a5 h nb (cD p inp S om og ov (st + 1) 0)) := ⟨_, _, _, H.set (st + 1) 0⟩
 have hlen := cG hok (by omega)
 rw [hk, show eE 3 = 2 from rfl] at hlen
 have hkl : e.aI.length ≤ 1048576 := by omega
 refine gG 190 lT sP sQ mix Tryz.func173 rfl (by kernel_rfl) (by simp) ?_
 simp -dsimp -implicitDefEqProofs only [go_sem, ↓reduceIte, Tryz.f173, hb, e3, ew, hk]
 refine aG.fF (pJ hp hv h0 _ nb (st + 1) 0 e.aI env S funcs zE (by omega) (by omega) hkl (dD hok (by omega)) c7 hf (fun _ => ⟨iY, henv⟩) (by omega)) ?_
 rintro r h' ⟨vs, S1, t1, c1, rfl, ⟨om1, og1, ov1, H1⟩, hvl, a1, a2, a3⟩
 have jL := H1.box
 unfold cD at jL
 simp -dsimp -implicitDefEqProofs only [go_sem, ↓reduceIte, Tryz.f173, jL]
 refine ⟨fun hc => ?_, fun hc => ?_⟩
 ·refine ⟨_, _, aV _ _, 0, S1, t1, c1, rfl, ⟨_, _, _, H1⟩, by omega, a2, ?_⟩
  rw [jD h3 (by omega)]
  exact a3.cQ (by rw [gD _ hc]; exact dN _ _ hc)
 subst hc
 obtain ⟨_, e2⟩ := a3.ok rfl
 obtain ⟨q1, q2, q3, q4⟩ := fN hp iY (by omega) henv (dD hok (by omega)) hf _ _ e2
 simp only at q1 q2 q3
 try simp -dsimp -implicitDefEqProofs only [go_sem, ↓reduceIte, Tryz.f173, hk]
 refine aG.fF (nI ⟨_, _, _, H1⟩ q1 a2 3 vs (by decide) (by omega) (by omega) q3.2 (by omega)) ?_
 rintro r h2 ⟨k2, S2, c2, rfl, nP, b3⟩
 simp -dsimp -implicitDefEqProofs only [go_sem, ↓reduceIte, Tryz.f173]
 refine ⟨_, _, aV _ _, k2, S2, t1, c2, rfl, nP, by omega, a2, ?_⟩
 rw [jD h3 (by omega)]
 refine a3.cQ ?_
 rw [cA, hk]
 exact b3
theorem a8J {p : aC} (hp : p.ok) {inp : Int} {n : Nat} (hv : sR p inp n) {h0 h : aB} {nb st : Nat} {e : aA} {env : List Int} {S : b5} {funcs : Int} (hR : gW h0 nb p inp S st 0 h) (hst : st < 3000) (hn : 3001 ≤ n + 1 + st)
  (hok : e.ok p funcs env.length) (c7 : 0 ≤ funcs) (hf : funcs ≤ p.aJ.length) (hg : Good inp S st) (henv : ∀ x ∈ env, j5 S x) (hel : env.length ≤ 412 + st) (hk : e.aQ = 4) :
  eH Tryz.prog 173 [.op nb 8 0 0, .agg e.c, ints env] h (aAQ h0 nb p inp st 0 (cN p (n + 1) st e env S)) := by
 obtain ⟨om, og, ov, H⟩ := hR
 rw [aA.aN]
 have hb := H.box
 unfold cD at hb
 have e3 : ((st : Int) = 3000) = False := eq_false (by omega)
 have ew : IntKind.i64.wrap ((st : Int) + 1) = ((st + 1 : Nat) : Int) := by rw [IntWalk.i64_in _ (by omega)]; rfl
 have hnode := (aA.cC _ _ _ _).1 hok
 have h3 : ¬ st = 3000 := by omega
 have hcap := hg.cap
 have hgcap := hg.m5
 have iY := hg.kJ (Nat.le_succ st)
 have zE : gW h0 nb p inp S (st + 1) 0 (a5 h nb (cD p inp S om og ov (st + 1) 0)) := ⟨_, _, _, H.set (st + 1) 0⟩
 have hlen := cG hok (by omega)
 rw [hk, show eE 4 = 2 from rfl] at hlen
 have hkl : e.aI.length ≤ 1048576 := by omega
 refine gG 190 lT sP sQ mix Tryz.func173 rfl (by kernel_rfl) (by simp) ?_
 simp -dsimp -implicitDefEqProofs only [go_sem, ↓reduceIte, Tryz.f173, hb, e3, ew, hk]
 refine aG.fF (pJ hp hv h0 _ nb (st + 1) 0 e.aI env S funcs zE (by omega) (by omega) hkl (dD hok (by omega)) c7 hf (fun _ => ⟨iY, henv⟩) (by omega)) ?_
 rintro r h' ⟨vs, S1, t1, c1, rfl, ⟨om1, og1, ov1, H1⟩, hvl, a1, a2, a3⟩
 have jL := H1.box
 unfold cD at jL
 simp -dsimp -implicitDefEqProofs only [go_sem, ↓reduceIte, Tryz.f173, jL]
 refine ⟨fun hc => ?_, fun hc => ?_⟩
 ·refine ⟨_, _, aV _ _, 0, S1, t1, c1, rfl, ⟨_, _, _, H1⟩, by omega, a2, ?_⟩
  rw [jD h3 (by omega)]
  exact a3.cQ (by rw [gD _ hc]; exact dN _ _ hc)
 subst hc
 obtain ⟨_, e2⟩ := a3.ok rfl
 obtain ⟨q1, q2, q3, q4⟩ := fN hp iY (by omega) henv (dD hok (by omega)) hf _ _ e2
 simp only at q1 q2 q3
 try simp -dsimp -implicitDefEqProofs only [go_sem, ↓reduceIte, Tryz.f173, hk]
 refine aG.fF (nI ⟨_, _, _, H1⟩ q1 a2 4 vs (by decide) (by omega) (by omega) q3.2 (by omega)) ?_
 rintro r h2 ⟨k2, S2, c2, rfl, nP, b3⟩
 simp -dsimp -implicitDefEqProofs only [go_sem, ↓reduceIte, Tryz.f173]
 refine ⟨_, _, aV _ _, k2, S2, t1, c2, rfl, nP, by omega, a2, ?_⟩
 rw [jD h3 (by omega)]
 refine a3.cQ ?_
 rw [cA, hk]
 exact b3
theorem a8K {p : aC} (hp : p.ok) {inp : Int} {n : Nat} (hv : sR p inp n) {h0 h : aB} {nb st : Nat} {e : aA} {env : List Int} {S : b5} {funcs : Int} (hR : gW h0 nb p inp S st 0 h) (hst : st < 3000) (hn : 3001 ≤ n + 1 + st)
  (hok : e.ok p funcs env.length) (c7 : 0 ≤ funcs) (hf : funcs ≤ p.aJ.length) (hg : Good inp S st) (henv : ∀ x ∈ env, j5 S x) (hel : env.length ≤ 412 + st) (hk : e.aQ = 5) :
  eH Tryz.prog 173 [.op nb 8 0 0, .agg e.c, ints env] h (aAQ h0 nb p inp st 0 (cN p (n + 1) st e env S)) := by
 obtain ⟨om, og, ov, H⟩ := hR
 rw [aA.aN]
 have hb := H.box
 unfold cD at hb
 have e3 : ((st : Int) = 3000) = False := eq_false (by omega)
 have ew : IntKind.i64.wrap ((st : Int) + 1) = ((st + 1 : Nat) : Int) := by rw [IntWalk.i64_in _ (by omega)]; rfl
 have hnode := (aA.cC _ _ _ _).1 hok
 have h3 : ¬ st = 3000 := by omega
 have hcap := hg.cap
 have hgcap := hg.m5
 have iY := hg.kJ (Nat.le_succ st)
 have zE : gW h0 nb p inp S (st + 1) 0 (a5 h nb (cD p inp S om og ov (st + 1) 0)) := ⟨_, _, _, H.set (st + 1) 0⟩
 have hlen := cG hok (by omega)
 rw [hk, show eE 5 = 2 from rfl] at hlen
 have hkl : e.aI.length ≤ 1048576 := by omega
 refine gG 190 lT sP sQ mix Tryz.func173 rfl (by kernel_rfl) (by simp) ?_
 simp -dsimp -implicitDefEqProofs only [go_sem, ↓reduceIte, Tryz.f173, hb, e3, ew, hk]
 refine aG.fF (pJ hp hv h0 _ nb (st + 1) 0 e.aI env S funcs zE (by omega) (by omega) hkl (dD hok (by omega)) c7 hf (fun _ => ⟨iY, henv⟩) (by omega)) ?_
 rintro r h' ⟨vs, S1, t1, c1, rfl, ⟨om1, og1, ov1, H1⟩, hvl, a1, a2, a3⟩
 have jL := H1.box
 unfold cD at jL
 simp -dsimp -implicitDefEqProofs only [go_sem, ↓reduceIte, Tryz.f173, jL]
 refine ⟨fun hc => ?_, fun hc => ?_⟩
 ·refine ⟨_, _, aV _ _, 0, S1, t1, c1, rfl, ⟨_, _, _, H1⟩, by omega, a2, ?_⟩
  rw [jD h3 (by omega)]
  exact a3.cQ (by rw [gD _ hc]; exact dN _ _ hc)
 subst hc
 obtain ⟨_, e2⟩ := a3.ok rfl
 obtain ⟨q1, q2, q3, q4⟩ := fN hp iY (by omega) henv (dD hok (by omega)) hf _ _ e2
 simp only at q1 q2 q3
 try simp -dsimp -implicitDefEqProofs only [go_sem, ↓reduceIte, Tryz.f173, hk]
 refine aG.fF (nI ⟨_, _, _, H1⟩ q1 a2 5 vs (by decide) (by omega) (by omega) q3.2 (by omega)) ?_
 rintro r h2 ⟨k2, S2, c2, rfl, nP, b3⟩
 simp -dsimp -implicitDefEqProofs only [go_sem, ↓reduceIte, Tryz.f173]
 refine ⟨_, _, aV _ _, k2, S2, t1, c2, rfl, nP, by omega, a2, ?_⟩
 rw [jD h3 (by omega)]
 refine a3.cQ ?_
 rw [cA, hk]
 exact b3
theorem a8L {p : aC} (hp : p.ok) {inp : Int} {n : Nat} (hv : sR p inp n) {h0 h : aB} {nb st : Nat} {e : aA} {env : List Int} {S : b5} {funcs : Int} (hR : gW h0 nb p inp S st 0 h) (hst : st < 3000) (hn : 3001 ≤ n + 1 + st)
  (hok : e.ok p funcs env.length) (c7 : 0 ≤ funcs) (hf : funcs ≤ p.aJ.length) (hg : Good inp S st) (henv : ∀ x ∈ env, j5 S x) (hel : env.length ≤ 412 + st) (hk : e.aQ = 6) :
  eH Tryz.prog 173 [.op nb 8 0 0, .agg e.c, ints env] h (aAQ h0 nb p inp st 0 (cN p (n + 1) st e env S)) := by
 obtain ⟨om, og, ov, H⟩ := hR
 rw [aA.aN]
 have hb := H.box
 unfold cD at hb
 have e3 : ((st : Int) = 3000) = False := eq_false (by omega)
 have ew : IntKind.i64.wrap ((st : Int) + 1) = ((st + 1 : Nat) : Int) := by rw [IntWalk.i64_in _ (by omega)]; rfl
 have hnode := (aA.cC _ _ _ _).1 hok
 have h3 : ¬ st = 3000 := by omega
 have hcap := hg.cap
 have hgcap := hg.m5
 have iY := hg.kJ (Nat.le_succ st)
 have zE : gW h0 nb p inp S (st + 1) 0 (a5 h nb (cD p inp S om og ov (st + 1) 0)) := ⟨_, _, _, H.set (st + 1) 0⟩
 have hlen := cG hok (by omega)
 rw [hk, show eE 6 = 2 from rfl] at hlen
 have hkl : e.aI.length ≤ 1048576 := by omega
 refine gG 190 lT sP sQ mix Tryz.func173 rfl (by kernel_rfl) (by simp) ?_
 simp -dsimp -implicitDefEqProofs only [go_sem, ↓reduceIte, Tryz.f173, hb, e3, ew, hk]
 refine aG.fF (pJ hp hv h0 _ nb (st + 1) 0 e.aI env S funcs zE (by omega) (by omega) hkl (dD hok (by omega)) c7 hf (fun _ => ⟨iY, henv⟩) (by omega)) ?_
 rintro r h' ⟨vs, S1, t1, c1, rfl, ⟨om1, og1, ov1, H1⟩, hvl, a1, a2, a3⟩
 have jL := H1.box
 unfold cD at jL
 simp -dsimp -implicitDefEqProofs only [go_sem, ↓reduceIte, Tryz.f173, jL]
 refine ⟨fun hc => ?_, fun hc => ?_⟩
 ·refine ⟨_, _, aV _ _, 0, S1, t1, c1, rfl, ⟨_, _, _, H1⟩, by omega, a2, ?_⟩
  rw [jD h3 (by omega)]
  exact a3.cQ (by rw [gD _ hc]; exact dN _ _ hc)
 subst hc
 obtain ⟨_, e2⟩ := a3.ok rfl
 obtain ⟨q1, q2, q3, q4⟩ := fN hp iY (by omega) henv (dD hok (by omega)) hf _ _ e2
 simp only at q1 q2 q3
 try simp -dsimp -implicitDefEqProofs only [go_sem, ↓reduceIte, Tryz.f173, hk]
 refine aG.fF (nI ⟨_, _, _, H1⟩ q1 a2 6 vs (by decide) (by omega) (by omega) q3.2 (by omega)) ?_
 rintro r h2 ⟨k2, S2, c2, rfl, nP, b3⟩
 simp -dsimp -implicitDefEqProofs only [go_sem, ↓reduceIte, Tryz.f173]
 refine ⟨_, _, aV _ _, k2, S2, t1, c2, rfl, nP, by omega, a2, ?_⟩
 rw [jD h3 (by omega)]
 refine a3.cQ ?_
 rw [cA, hk]
 exact b3
theorem a8M {p : aC} (hp : p.ok) {inp : Int} {n : Nat} (hv : sR p inp n) {h0 h : aB} {nb st : Nat} {e : aA} {env : List Int} {S : b5} {funcs : Int} (hR : gW h0 nb p inp S st 0 h) (hst : st < 3000) (hn : 3001 ≤ n + 1 + st)
  (hok : e.ok p funcs env.length) (c7 : 0 ≤ funcs) (hf : funcs ≤ p.aJ.length) (hg : Good inp S st) (henv : ∀ x ∈ env, j5 S x) (hel : env.length ≤ 412 + st) (hk : e.aQ = 7) :
  eH Tryz.prog 173 [.op nb 8 0 0, .agg e.c, ints env] h (aAQ h0 nb p inp st 0 (cN p (n + 1) st e env S)) := by
 obtain ⟨om, og, ov, H⟩ := hR
 rw [aA.aN]
 have hb := H.box
 unfold cD at hb
 have e3 : ((st : Int) = 3000) = False := eq_false (by omega)
 have ew : IntKind.i64.wrap ((st : Int) + 1) = ((st + 1 : Nat) : Int) := by rw [IntWalk.i64_in _ (by omega)]; rfl
 have hnode := (aA.cC _ _ _ _).1 hok
 have h3 : ¬ st = 3000 := by omega
 have hcap := hg.cap
 have hgcap := hg.m5
 have iY := hg.kJ (Nat.le_succ st)
 have zE : gW h0 nb p inp S (st + 1) 0 (a5 h nb (cD p inp S om og ov (st + 1) 0)) := ⟨_, _, _, H.set (st + 1) 0⟩
 have hlen := cG hok (by omega)
 rw [hk, show eE 7 = 1 from rfl] at hlen
 have hkl : e.aI.length ≤ 1048576 := by omega
 refine gG 190 lT sP sQ mix Tryz.func173 rfl (by kernel_rfl) (by simp) ?_
 simp -dsimp -implicitDefEqProofs only [go_sem, ↓reduceIte, Tryz.f173, hb, e3, ew, hk]
 refine aG.fF (pJ hp hv h0 _ nb (st + 1) 0 e.aI env S funcs zE (by omega) (by omega) hkl (dD hok (by omega)) c7 hf (fun _ => ⟨iY, henv⟩) (by omega)) ?_
 rintro r h' ⟨vs, S1, t1, c1, rfl, ⟨om1, og1, ov1, H1⟩, hvl, a1, a2, a3⟩
 have jL := H1.box
 unfold cD at jL
 simp -dsimp -implicitDefEqProofs only [go_sem, ↓reduceIte, Tryz.f173, jL]
 refine ⟨fun hc => ?_, fun hc => ?_⟩
 ·refine ⟨_, _, aV _ _, 0, S1, t1, c1, rfl, ⟨_, _, _, H1⟩, by omega, a2, ?_⟩
  rw [jD h3 (by omega)]
  exact a3.cQ (by rw [gD _ hc]; exact dN _ _ hc)
 subst hc
 obtain ⟨_, e2⟩ := a3.ok rfl
 obtain ⟨q1, q2, q3, q4⟩ := fN hp iY (by omega) henv (dD hok (by omega)) hf _ _ e2
 simp only at q1 q2 q3
 try simp -dsimp -implicitDefEqProofs only [go_sem, ↓reduceIte, Tryz.f173, hk]
 refine aG.fF (nI ⟨_, _, _, H1⟩ q1 a2 7 vs (by decide) (by omega) (by omega) q3.2 (by omega)) ?_
 rintro r h2 ⟨k2, S2, c2, rfl, nP, b3⟩
 simp -dsimp -implicitDefEqProofs only [go_sem, ↓reduceIte, Tryz.f173]
 refine ⟨_, _, aV _ _, k2, S2, t1, c2, rfl, nP, by omega, a2, ?_⟩
 rw [jD h3 (by omega)]
 refine a3.cQ ?_
 rw [cA, hk]
 exact b3
theorem a2Y {p : aC} (hp : p.ok) {inp : Int} {n : Nat} (hv : sR p inp n) {h0 h : aB} {nb st : Nat} {e : aA} {env : List Int} {S : b5} {funcs : Int} (hR : gW h0 nb p inp S st 0 h) (hst : st < 3000) (hn : 3001 ≤ n + 1 + st)
  (hok : e.ok p funcs env.length) (c7 : 0 ≤ funcs) (hf : funcs ≤ p.aJ.length) (hg : Good inp S st) (henv : ∀ x ∈ env, j5 S x) (hel : env.length ≤ 412 + st) (hk : e.aQ = 10) :
  eH Tryz.prog 173 [.op nb 8 0 0, .agg e.c, ints env] h (aAQ h0 nb p inp st 0 (cN p (n + 1) st e env S)) := by
 obtain ⟨om, og, ov, H⟩ := hR
 rw [aA.aN]
 have hb := H.box
 unfold cD at hb
 have e3 : ((st : Int) = 3000) = False := eq_false (by omega)
 have ew : IntKind.i64.wrap ((st : Int) + 1) = ((st + 1 : Nat) : Int) := by rw [IntWalk.i64_in _ (by omega)]; rfl
 have hnode := (aA.cC _ _ _ _).1 hok
 have h3 : ¬ st = 3000 := by omega
 have hcap := hg.cap
 have hgcap := hg.m5
 have iY := hg.kJ (Nat.le_succ st)
 have zE : gW h0 nb p inp S (st + 1) 0 (a5 h nb (cD p inp S om og ov (st + 1) 0)) := ⟨_, _, _, H.set (st + 1) 0⟩
 obtain ⟨f, F⟩ := lQ hp hok hf (.inl hk)
 have hkl : e.aI.length ≤ 1048576 := by have := F.kids; have := F.params; omega
 refine gG 190 lT sP sQ mix Tryz.func173 rfl (by kernel_rfl) (by simp) ?_
 simp -dsimp -implicitDefEqProofs only [go_sem, ↓reduceIte, Tryz.f173, hb, e3, ew, hk]
 refine aG.fF (pJ hp hv h0 _ nb (st + 1) 0 e.aI env S funcs zE (by omega) (by omega) hkl (dD hok (by omega)) c7 hf (fun _ => ⟨iY, henv⟩) (by omega)) ?_
 rintro r h' ⟨vs, S1, t1, c1, rfl, ⟨om1, og1, ov1, H1⟩, hvl, a1, a2, a3⟩
 have jL := H1.box
 unfold cD at jL
 simp -dsimp -implicitDefEqProofs only [go_sem, ↓reduceIte, Tryz.f173, jL]
 refine ⟨fun hc => ?_, fun hc => ?_⟩
 ·refine ⟨_, _, aV _ _, 0, S1, t1, c1, rfl, ⟨_, _, _, H1⟩, by omega, a2, ?_⟩
  rw [tZ h3 hk]
  exact a3.cQ (by rw [gD _ hc]; exact dN _ _ hc)
 subst hc
 obtain ⟨_, e2⟩ := a3.ok rfl
 obtain ⟨q1, q2, q3, q4⟩ := fN hp iY (by omega) henv (dD hok (by omega)) hf _ _ e2
 simp only at q1 q2 q3
 try simp -dsimp -implicitDefEqProofs only [go_sem, ↓reduceIte, Tryz.f173, hk, jL, F.get, F.out, aP.aN, aA.ld5]
 have f1 := F.lo
 have f2 := F.hi
 have f3 := F.pk
 have f4 := F.pk2
 have f5 := F.kids
 have f6 := F.params
 refine ⟨f1, f2, f3, by omega, ?_⟩
 refine aG.fF (hv h0 _ nb t1 0 (p.out e.aW e.b7) vs S1 e.aW ⟨_, _, _, H1⟩ (by omega) (by omega) (by rw [hvl, f5]; exact F.oks _ (List.mem_of_getElem? F.out)) f1 (by omega) (fun _ => ⟨q1, q3.2⟩) (by omega)) ?_
 rintro r h2 ⟨k2, S2, t2, c2, rfl, nP, b1, b2, b3⟩
 simp -dsimp -implicitDefEqProofs only [go_sem, ↓reduceIte, Tryz.f173]
 refine ⟨_, _, aV _ _, k2, S2, t2, c2, rfl, nP, by omega, b2, ?_⟩
 rw [tZ h3 hk]
 exact a3.cQ b3
theorem a2Z {p : aC} (hp : p.ok) {inp : Int} {n : Nat} (hv : sR p inp n) {h0 h : aB} {nb st : Nat} {e : aA} {env : List Int} {S : b5} {funcs : Int} (hR : gW h0 nb p inp S st 0 h) (hst : st < 3000) (hn : 3001 ≤ n + 1 + st)
  (hok : e.ok p funcs env.length) (c7 : 0 ≤ funcs) (hf : funcs ≤ p.aJ.length) (hg : Good inp S st) (henv : ∀ x ∈ env, j5 S x) (hel : env.length ≤ 412 + st) (hk : e.aQ = 11) :
  eH Tryz.prog 173 [.op nb 8 0 0, .agg e.c, ints env] h (aAQ h0 nb p inp st 0 (cN p (n + 1) st e env S)) := by
 obtain ⟨om, og, ov, H⟩ := hR
 rw [aA.aN]
 have hb := H.box
 unfold cD at hb
 have e3 : ((st : Int) = 3000) = False := eq_false (by omega)
 have ew : IntKind.i64.wrap ((st : Int) + 1) = ((st + 1 : Nat) : Int) := by rw [IntWalk.i64_in _ (by omega)]; rfl
 have hnode := (aA.cC _ _ _ _).1 hok
 have h3 : ¬ st = 3000 := by omega
 have hcap := hg.cap
 have hgcap := hg.m5
 have iY := hg.kJ (Nat.le_succ st)
 have zE : gW h0 nb p inp S (st + 1) 0 (a5 h nb (cD p inp S om og ov (st + 1) 0)) := ⟨_, _, _, H.set (st + 1) 0⟩
 obtain ⟨f, F⟩ := lQ hp hok hf (.inr hk)
 have hkl : e.aI.length ≤ 1048576 := by have := F.kids; have := F.params; omega
 have f1 := F.lo
 have f2 := F.hi
 have f3 := F.pk
 have f4 := F.pk2
 have f5 := F.kids
 have f6 := F.params
 have f7 := F.loop hk
 have f8 := F.outs
 refine gG 190 lT sP sQ mix Tryz.func173 rfl (by kernel_rfl) (by simp) ?_
 simp -dsimp -implicitDefEqProofs only [go_sem, ↓reduceIte, Tryz.f173, hb, e3, ew, hk]
 refine aG.fF (pJ hp hv h0 _ nb (st + 1) 0 e.aI env S funcs zE (by omega) (by omega) hkl (dD hok (by omega)) c7 hf (fun _ => ⟨iY, henv⟩) (by omega)) ?_
 rintro r h' ⟨vs, S1, t1, c1, rfl, ⟨om1, og1, ov1, H1⟩, hvl, a1, a2, a3⟩
 have jL := H1.box
 unfold cD at jL
 simp -dsimp -implicitDefEqProofs only [go_sem, ↓reduceIte, Tryz.f173, jL]
 refine ⟨fun hc => ?_, fun hc => ?_⟩
 ·refine ⟨_, _, aV _ _, 0, S1, t1, c1, rfl, ⟨_, _, _, H1⟩, by omega, a2, ?_⟩
  rw [uA h3 hk]
  exact a3.cQ (by rw [gD _ hc]; exact dN _ _ hc)
 subst hc
 obtain ⟨_, e2⟩ := a3.ok rfl
 obtain ⟨q1, q2, q3, q4⟩ := fN hp iY (by omega) henv (dD hok (by omega)) hf _ _ e2
 simp only at q1 q2 q3
 try simp -dsimp -implicitDefEqProofs only [go_sem, ↓reduceIte, Tryz.f173, hk]
 have hiter : ∀ (k : Nat) (us : List Int) (S2 : b5) (t : Nat) (c : Int), gT (mB (fun vs t S => jG (fun t e S => cN p n t e vs S) (p.outs e.aW) t S) k vs t1 S1) (us, S2) t c → k ≤ e.bV.toNat → (¬ c = 0 ∨ k = e.bV.toNat) → gT (lY 0 (cN p (n + 1) st e env S)) (us.getD e.b7.toNat 0, S2) t c := fun k us S2 t c ho hk1 hor => by
  rw [uA h3 hk]
  refine a3.cQ ?_
  rw [cA]
  refine gT.then (v := (us, S2)) (t := t) (c := c) ?_ (fL _ _ _)
  rcases hor with hc | rfl
  ·have := ho.err hc
   rw [aF8 _ k hk1 this]
   exact dN _ _ hc
  ·exact ho
 have hfl : ∀ us t S2, Good inp S2 t → (us.length = f.aM.length ∧ ∀ x ∈ us, j5 S2 x) → t ≤ 3000 → qR (vS inp S2 t f.aM.length) (jG (fun t e S => cN p n t e us S) (p.outs e.aW) t S2) := fun us w S2 hg' hv' hw => by
  rw [F.eq]
  exact fN hp hg' hw hv'.2 (funcs := e.aW) (fun x hx => by rw [hv'.1, f7.2.2]; exact F.oks x hx) (by omega)
 refine bX (keep := lT) (ib := sP) (mk := sQ) mix (by kernel_rfl) (fun x : Nat × List Int × Nat × Int × b5 × aB => [(0, .op nb 8 0 0), (4, .ip 5 [[I 11, I e.aW, I e.b7, I e.bV, dB 5 aA.c e.aI]] 0 0), (9, ints x.2.1), (10, I x.1)]) (fun x => x.2.2.2.2.2) (fun x => x.1 ≤ e.bV.toNat ∧ x.2.1.length = f.aM.length ∧ t1 ≤ x.2.2.1 ∧ x.2.2.1 ≤ 3000 ∧ gT (mB (fun vs t S => jG (fun t e S => cN p n t e vs S) (p.outs e.aW) t S) x.1 vs t1 S1) (x.2.1, x.2.2.2.2.1) x.2.2.1 x.2.2.2.1 ∧ gW h0 nb p inp x.2.2.2.2.1 x.2.2.1 x.2.2.2.1 x.2.2.2.2.2) (fun x => e.bV.toNat - x.1) (0, vs, t1, 0, S1, h') ⟨by simp [b8, bJ], aB.le_refl _, Nat.zero_le _, by simp only; omega, Nat.le_refl _, a2, jP _ _, ⟨_, _, _, H1⟩⟩ ?_
 rintro ⟨k, us, t, c, S2, g⟩ ⟨hk1, hul, zA, ht, ho, ⟨om2, og2, ov2, H2⟩⟩
 simp only at hk1 hul zA ht ho H2 ⊢
 have jX := H2.box
 unfold cD at jX
 have gp : us[e.b7.toNat]? = some (us.getD e.b7.toNat 0) := bR (by omega)
 simp -dsimp -implicitDefEqProofs only [go_sem, ↓reduceIte, Tryz.f173, jX, F.get, aP.aN, gp]
 refine ⟨fun hlt => ⟨fun hc => ⟨f1, f2, ?_⟩, fun hc => ?_⟩, fun hge => ?_⟩
 ·subst hc
  obtain ⟨_, e3⟩ := gT.ok (c := 0) (by rw [cA]; exact ho) rfl
  obtain ⟨w1, w2, w3, w4⟩ := qJ hfl k vs t1 S1 q1 ⟨by omega, q3.2⟩ a2 _ _ e3
  simp only at w1 w2 w3
  refine aG.fF (pJ hp hv h0 _ nb t 0 f.aM us S2 e.aW ⟨_, _, _, H2⟩ ht (by omega) (by omega) (by rw [hul, f7.2.2]; exact F.oks) f1 (by omega) (fun _ => ⟨w1, w3.2⟩) (by omega)) ?_
  rintro r h2 ⟨l2, S3, t2, c2, rfl, nP, hl2, b1, b2, b3⟩
  simp -dsimp -implicitDefEqProofs only [go_sem, ↓reduceIte, Tryz.f173]
  refine ⟨(k + 1, l2, t2, c2, S3, h2), ⟨rfl, by rw [IntWalk.i64_in _ (by omega)]; rfl⟩, aB.le_refl _, ⟨by omega, hl2, by simp only; omega, b2, ?_, nP⟩, by simp only; omega⟩
  simp only
  rw [tX]
  refine ho.then ?_
  rw [F.eq]
  exact b3
 ·exact ⟨f3, by omega, _, _, aV _ _, _, S2, t, c, rfl, ⟨_, _, _, H2⟩, by omega, ht, hiter k us S2 t c ho hk1 (.inl hc)⟩
 ·exact ⟨f3, by omega, _, _, aV _ _, _, S2, t, c, rfl, ⟨_, _, _, H2⟩, by omega, ht, hiter k us S2 t c ho hk1 (.inr (by omega))⟩
theorem reg {p : aC} (hp : p.ok) {inp : Int} : ∀ n, sR p inp n
 |0 => fun h0 h nb st c e env S funcs hb hst hn => by omega
 |n + 1 => fun h0 h nb st c e env S funcs hb hst hn hok c7 hf hgo hel => by
  have hv := reg hp (inp := inp) n
  by_cases hs : ¬ c = 0 ∨ st = 3000
  ·exact aTR hb hst hs
  have hc : c = 0 := Classical.byContradiction fun q => hs (.inl q)
  have h3 : st < 3000 := by
   rcases Nat.lt_or_ge st 3000 with h | h
   ·exact h
   ·exact absurd (.inr (by omega)) hs
  subst hc
  obtain ⟨hg, henv⟩ := hgo rfl
  rcases oE ((aA.cC _ _ _ _).1 hok).1 with hk | hk | hk | hk | hk | hk | hk | hk | hk | hk | hk
  ·exact a8E hp hv hb h3 hn hok c7 hf hg henv hel hk
  ·exact a8F hp hv hb h3 hn hok c7 hf hg henv hel hk
  ·exact a8I hp hv hb h3 hn hok c7 hf hg henv hel hk
  ·exact a8J hp hv hb h3 hn hok c7 hf hg henv hel hk
  ·exact a8K hp hv hb h3 hn hok c7 hf hg henv hel hk
  ·exact a8L hp hv hb h3 hn hok c7 hf hg henv hel hk
  ·exact a8M hp hv hb h3 hn hok c7 hf hg henv hel hk
  ·exact a8H hp hv hb h3 hn hok c7 hf hg henv hel hk
  ·exact a8G hp hv hb h3 hn hok c7 hf hg henv hel hk
  ·exact a2Y hp hv hb h3 hn hok c7 hf hg henv hel hk
  ·exact a2Z hp hv hb h3 hn hok c7 hf hg henv hel hk
structure kL where
 jE : Int
 aO : List aZ
 nJ : List dX
 aM : List Int
def kL.c (x : kL) : List aD := [I x.jE, dB 4 aZ.c x.aO, dB 2 dX.c x.nJ, ints x.aM]
theorem kL.aN (x : kL) : x.c = [I x.jE, dB 4 aZ.c x.aO, dB 2 dX.c x.nJ, ints x.aM] := rfl
def pD (p : aC) (f : Int) (args : List Int) : kL × Int := match vT p f args with
 | .ok ((l, S), _) => (⟨args.length, S.code, S.guards, l⟩, 0)
 | .error c => (⟨0, [], [], []⟩, c)
theorem qS.seal {bx : b5 → Option Nat → Option Nat → Option Nat → bL} {h0 h F hh : aB} {nb : Nat} {inp : Int} {S : b5} {om og ov : Option Nat} (H : qS bx h0 nb S om og ov h) (l : List Int) (d : Int)
  (hF : ∀ n, some n = om ∨ some n = og → F n = h n) (hl : hh.le F) (hn : ∀ n, some n = om ∨ some n = og → hh n = none) :
  Shift (.gN [.agg [I inp, mL 4 S.code.length om, mL 2 S.guards.length og, ints l], I d]) F (.gN [.agg [I inp, dB 4 aZ.c S.code, dB 2 dX.c S.guards, ints l], I d]) hh := by
 have hc := H.code
 have hg := H.gds
 have ap := H.apart
 cases om with
 |none =>
  have pB : S.code = [] := fR.1 hc
  cases og with
  |none =>
   have hg0 : S.guards = [] := fR.1 hg
   rw [pB, hg0]
   exact Shift.of (Sub.gN (.cons (Sub.agg (.cons (.refl _) (.cons (Sub.nil _ _) (.cons (Sub.nil _ _) (.cons (.refl _) .nil))))) (.cons (.refl _) .nil))) hl
  |some g =>
   have hgF := (hF g (.inr rfl)).trans hg.2
   rw [pB]
   refine Shift.trans (Shift.of (Sub.gN (.cons (Sub.agg (.cons (.refl _) (.cons (Sub.nil 4 false) (.cons (.refl _) (.cons (.refl _) .nil))))) (.cons (.refl _) .nil))) (aB.le_refl F)) ?_
   refine gK (n := g) (sz := 2) (S.guards.map dX.c) (hn g (.inr rfl)) ?_ (by simp [eF, e8, mL]) ?_
   ·intro q
    by_cases e : q = g
    ·subst e; right; rw [aH]; exact hgF.symm
    ·rw [aF _ _ _ _ e]; exact hl q
   ·simp [aD.c9, kH, mL, List.take_of_length_le]
 |some m =>
  have hmF := (hF m (.inl rfl)).trans hc.2
  cases og with
  |none =>
   have hg0 : S.guards = [] := fR.1 hg
   rw [hg0]
   refine Shift.trans (Shift.of (Sub.gN (.cons (Sub.agg (.cons (.refl _) (.cons (.refl _) (.cons (Sub.nil 2 false) (.cons (.refl _) .nil))))) (.cons (.refl _) .nil))) (aB.le_refl F)) ?_
   refine gK (n := m) (sz := 4) (S.code.map aZ.c) (hn m (.inl rfl)) ?_ (by simp [eF, e8, mL]) ?_
   ·intro q
    by_cases e : q = m
    ·subst e; right; rw [aH]; exact hmF.symm
    ·rw [aF _ _ _ _ e]; exact hl q
   ·simp [aD.c9, kH, mL, List.take_of_length_le]
  |some g =>
   have hgF := (hF g (.inr rfl)).trans hg.2
   have hne : ¬ g = m := fun e => ((ap g).2.1 (by rw [e])).1 rfl
   refine Shift.trans (b := .gN [.agg [I inp, mL 4 S.code.length (some m), dB 2 dX.c S.guards, ints l], I d]) (h2 := a5 hh m (.row 4 (rowsOf aZ.c S.code))) ?_ ?_
   ·refine gK (n := g) (sz := 2) (S.guards.map dX.c) (by rw [aF _ _ _ _ hne]; exact hn g (.inr rfl)) ?_ (by simp [eF, e8, mL]; exact fun e => hne e.symm) ?_
    ·intro q
     by_cases e : q = g
     ·subst e; right; rw [aH]; exact hgF.symm
     ·rw [aF _ _ _ _ e]
      by_cases e2 : q = m
      ·subst e2; right; rw [aH]; exact hmF.symm
      ·rw [aF _ _ _ _ e2]; exact hl q
    ·have hne' : ¬ m = g := fun e => hne e.symm
     simp [aD.c9, kH, mL, List.take_of_length_le, hne']
   ·refine gK (n := m) (sz := 4) (S.code.map aZ.c) (hn m (.inl rfl)) (aB.le_refl _) (by simp [eF, e8, mL]) ?_
    simp [aD.c9, kH, mL, List.take_of_length_le]
theorem qS.keep {h0 h : aB} {nb : Nat} {bx : b5 → Option Nat → Option Nat → Option Nat → bL} {S : b5} {om og ov : Option Nat} (H : qS bx h0 nb S om og ov h) {n : Nat} {o : bL} (hn : h0 n = some o) : h n = some o ∧ ¬ n = nb ∧ ¬ some n = om ∧ ¬ some n = og ∧ ¬ some n = ov := by
 have hne : ∀ q, ¬ (q = nb ∨ some q = om ∨ some q = og ∨ some q = ov) ∨ h0 q = .none := fun q => by
  by_cases e : q = nb ∨ some q = om ∨ some q = og ∨ some q = ov
  ·exact .inr (H.fresh q e)
  ·exact .inl e
 have h1 : ¬ (n = nb ∨ some n = om ∨ some n = og ∨ some n = ov) := by
  rcases hne n with e | e
  ·exact e
  ·rw [hn] at e; cases e
 have e1 : ¬ n = nb := fun e => h1 (.inl e)
 have e2 : ¬ some n = om := fun e => h1 (.inr (.inl e))
 have e3 : ¬ some n = og := fun e => h1 (.inr (.inr (.inl e)))
 have e4 : ¬ some n = ov := fun e => h1 (.inr (.inr (.inr e)))
 exact ⟨(H.upto n e1 e2 e3 e4).trans hn, e1, e2, e3, e4⟩
theorem qS.le {h0 h : aB} {nb : Nat} {bx : b5 → Option Nat → Option Nat → Option Nat → bL} {S : b5} {om og ov : Option Nat} (H : qS bx h0 nb S om og ov h) : h0.le h := fun q => by
 cases e : h0 q with
 |none => exact .inl rfl
 |some o => right; exact (H.keep e).1.symm
theorem aNB {h0 : aB} {nb : Nat} (p : aC) (inp : Int) (hn : h0 nb = none) : gW h0 nb p inp ⟨[], [], []⟩ 0 0 (a5 h0 nb (cD p inp ⟨[], [], []⟩ none none none 0 0)) :=
 ⟨none, none, none, aH _ _ _, aEF _ _ _ _, rfl, rfl, rfl, fun n h => (by rcases h with rfl | h | h | h; exact hn; cases h; cases h; cases h), fun n h1 _ _ _ => aF _ _ _ _ h1⟩
def uT (args : List Int) (k : Nat) : b5 := ⟨(List.range k).map fun i : Nat => ⟨1, 0, 0, (i : Int)⟩, args.take k, []⟩
def zG (k : Nat) : List Int := (List.range k).map fun i : Nat => (i : Int)
theorem aK2 (args : List Int) : uT args args.length = inS args := by rw [uT, List.take_length]; rfl
theorem wK {args : List Int} {k : Nat} (hk : k < args.length) : uT args (k + 1) = (uT args k).put ⟨1, 0, 0, (k : Int)⟩ args[k] := by
 rw [uT, uT, b5.put, List.range_succ, List.map_append, List.take_succ_eq_append_getElem hk]; rfl
theorem aGA (k : Nat) : zG (k + 1) = zG k ++ [(k : Int)] := by rw [zG, zG, List.range_succ, List.map_append]; rfl
@[go_sem] def aTS : List Nat := [0, 1, 2, 3, 6, 7, 8, 9, 10, 11, 12, 28, 30, 44, 45, 46, 47, 77]
@[go_sem] def a8N : List Nat := [3, 43, 57]
@[go_sem] def a8O : Marks := fun id => match id with | 6 => ([9], (.op 0 (.op 1 (.op 2 (.op 3 (.op 4 (.op 5 (.op 6 (.op 7 (.op 8 (.op 9 (.op 10 .nil))))))))))), []) | 15 => ([4, 5], (.op 0 (.op 1 (.op 2 (.op 3 (.op 4 (.op 5 (.op 6 .nil))))))), [(4, 5)]) | _ => ([], .nil, [])
theorem a20 {p : aC} (hp : p.ok) (hps : p.s ≤ 4194304) (f : Int) (hf : 0 ≤ f ∧ f < p.aJ.length) (args : List Int) (ha : dP args) (a21 : args.length ≤ 12) (hl : ∀ F, p.aJ[f.toNat]? = some F → (args.length : Int) = F.aX) :
  dV Tryz.prog 29 [.agg p.c, I f, ints args] (.gN [.agg (pD p f args).1.c, I (pD p f args).2]) := by
 have hif := aS4 p f hps
 obtain ⟨F, ef, hF1, hF2, hF3, hF4⟩ := oM hp hf
 have hla := hl F ef
 rw [if_pos hp, if_pos (by omega)] at hif
 simp only [aC.aN] at hif ⊢
 have han := aDR args F.aX
 rw [decide_eq_true (show (args.length : Int) = F.aX ∧ dP args from ⟨hla, ha⟩)] at han
 refine lO 87 aTS a8N a8O mix Tryz.func29 rfl (by kernel_rfl) (by simp) fun h => ?_
 simp -dsimp -implicitDefEqProofs only [go_sem, ↓reduceIte, Tryz.f29, ef, aP.aN]
 intro n6 z6
 try simp -dsimp -implicitDefEqProofs only [go_sem, ↓reduceIte, Tryz.f29, ef, aP.aN]
 first | refine aG.mk (hif) ?_ | refine aE.mk (hif) ?_ | refine aG.a8 (hif) ?_ | refine aE.mk (a6.cK (hif)) ?_
 simp -dsimp -implicitDefEqProofs only [go_sem, ↓reduceIte, Tryz.f29, ef, aP.aN]
 refine ⟨hf.1, hf.2, ?_⟩
 first | refine aG.mk (han) ?_ | refine aE.mk (han) ?_ | refine aG.a8 (han) ?_ | refine aE.mk (a6.cK (han)) ?_
 simp -dsimp -implicitDefEqProofs only [go_sem, ↓reduceIte, Tryz.f29, ef, aP.aN]
 refine ⟨hf.1, hf.2, fun nb ⟨hb6, zb⟩ => ⟨Nat.zero_lt_one, fun _ => ?_⟩⟩
 have uD : ¬ nb = n6 := hb6
 have aH8 : ¬ n6 = nb := Ne.symm uD
 have zH : (nb = n6) = False := eq_false uD
 have zI : (n6 = nb) = False := eq_false aH8
 generalize hh6 : a5 h n6 (.row 4 [[.v (.int .i64 0), .v .bO, .v .bO, .v .bO]]) = h6
 have zb6 : h6 nb = none := by rw [← hh6, aF _ _ _ _ uD]; exact zb
 have hin := aNB (h0 := h6) p F.aX zb6
 refine bX (keep := aTS) (ib := a8N) (mk := a8O) mix (by kernel_rfl) (fun x : Nat × aB × Option Nat => [(1, I f), (3, .ip 1 [[dB 3 aP.c p.aJ]] 0 0), (6, .op n6 4 0 0), (9, .op nb 8 0 0), (10, eK 1 x.1 x.2.2), (44, ints args), (45, I args.length), (46, I x.1)]) (fun x => gQ x.2.1 (.row 1 (((zG x.1).map fun n => [I n]).map (List.map .v))) x.2.2) (fun x => x.1 ≤ args.length ∧ gW h6 nb p F.aX (uT args x.1) 0 0 x.2.1 ∧ eP x.2.1 (zG x.1) x.2.2) (fun x => args.length - x.1) (0, a5 h6 nb (cD p F.aX ⟨[], [], []⟩ none none none 0 0), none) ⟨by simp [b8, bJ, eK], aB.le_refl _, Nat.zero_le _, hin, rfl⟩ ?_
 rintro ⟨k, g, o⟩ ⟨hk, hR, hos⟩
 simp only at hk hR hos ⊢
 have hel : (zG k).length = k := by simp [zG]
 rcases Nat.lt_or_ge k args.length with hlt | hge
 ·have ek : args[k]? = some args[k] := List.getElem?_eq_getElem hlt
  have hsl : (uT args k).code.length = (uT args k).dU.length := by simp [uT]; omega
  have hvl : (uT args k).dU.length = k := by simp [uT]; omega
  have hy := aGA k
  cases o with
  |none =>
   rw [a9] at hos
   have k0 : k = 0 := by rw [← hel, hos]; rfl
   subst k0
   simp -dsimp -implicitDefEqProofs only [go_sem, ↓reduceIte, Tryz.f29, a7, aR, hlt, ek]
   refine aG.fF (aEG hR ⟨1, 0, 0, ((0 : Nat) : Int)⟩ args[0] hsl (by omega)) ?_
   rintro r h' ⟨rfl, k5⟩
   simp -dsimp -implicitDefEqProofs only [go_sem, ↓reduceIte, Tryz.f29]
   refine ⟨Nat.zero_lt_one, Nat.zero_lt_one, Nat.zero_lt_one, fun b jX => ⟨(1, h', some b), ⟨rfl, by rw [IntWalk.i64_in _ (by omega)]; rfl⟩, ?_, ⟨hlt, by rw [wK hlt]; exact k5, jX⟩, by simp only; omega⟩⟩
   rw [hvl]
   exact aB.le_refl _
  |some m =>
   rw [aU] at hos
   simp -dsimp -implicitDefEqProofs only [go_sem, ↓reduceIte, Tryz.f29, aT, aL, hlt, ek]
   refine aG.fF (aEG (hR.uS hos) ⟨1, 0, 0, (k : Int)⟩ args[k] hsl (by omega)) ?_
   rintro r h' ⟨rfl, k5⟩
   obtain ⟨g2, rfl, hg2, k5⟩ := k5.base (hR.none hos)
   simp -dsimp -implicitDefEqProofs only [go_sem, ↓reduceIte, Tryz.f29]
   refine ⟨Nat.zero_lt_one, Nat.zero_lt_one, Nat.zero_lt_one, Nat.le_of_eq hel.symm, by omega, by omega, fun b ⟨hbm, jX⟩ => ⟨(k + 1, g2, some b), ⟨rfl, by rw [IntWalk.i64_in _ (by omega)]; rfl⟩, ?_, ⟨hlt, by rw [wK hlt]; exact k5, jX⟩, by simp only; omega⟩⟩
   simp only [aL]
   rw [hvl, hy, ← eN (fun n => I n), hel]
   exact kO hg2
 ·have hk' : k = args.length := by omega
  subst hk'
  rw [aK2] at hR
  have hg0 := zC args ha a21
  rw [hla] at hg0
  have hie : zG args.length = zU args := rfl
  have hall : ∀ {h0 g : aB}, gW h0 nb p F.aX (inS args) 0 0 g → eH Tryz.prog 101 [.op nb 8 0 0, dB 5 aA.c F.aM, ints (zU args)] g (a0A h0 nb p F.aX 0 0 F.aM.length (jG (fun t e S => cN p 3001 t e (zU args) S) F.aM 0 (inS args))) := fun hR =>
   pJ hp (reg hp 3001) _ _ nb 0 0 F.aM (zU args) (inS args) f hR (by omega) (by omega) (by omega) (fun x hx => by rw [← hie, hel, hla]; exact hF4 x hx) hf.1 (by omega) (fun _ => ⟨hg0, aHW args⟩) (by rw [← hie, hel]; omega)
  cases o with
  |none =>
   rw [a9, hie] at hos
   simp -dsimp -implicitDefEqProofs only [go_sem, ↓reduceIte, Tryz.f29, a7, aR, Nat.lt_irrefl, Int.lt_irrefl, ef, aP.aN]
   refine ⟨hf.1, hf.2, aG.fF (eH.sub (.cons (.refl _) (.cons (.refl _) (.cons (by rw [hos]; exact Sub.loose _ _ _) .nil))) (hall hR)) ?_⟩
   rintro r h2 ⟨l, S2, t2, c2, rfl, ⟨om, og, ov, H2⟩, hll, a1, a2, a3⟩
   have jX := H2.box
   unfold cD at jX
   have hz := H2.keep (n := n6) (by rw [← hh6, aH])
   have hz1 := hz.1
   simp -dsimp -implicitDefEqProofs only [go_sem, ↓reduceIte, Tryz.f29, jX, hz1, zH, zI, aF]
   generalize hE : h2 = h2H at *
   have hle : h.le h2H := by
    have h1 := H2.le
    rw [← hh6] at h1
    intro q
    by_cases e : q = n6
    ·subst e; exact .inl z6
    ·have := h1 q
     rwa [aF _ _ _ _ e] at this
   have hfr : ∀ n, some n = om ∨ some n = og → h n = none ∧ ¬ n = n6 ∧ ¬ n = nb := fun n hn => by
    have h1 := H2.fresh n (by rcases hn with hn | hn; exact .inr (.inl hn); exact .inr (.inr (.inl hn)))
    have h3 : ¬ n = n6 := fun e => by rw [← hh6, e, aH] at h1; cases h1
    refine ⟨by rwa [← hh6, aF _ _ _ _ h3] at h1, h3, fun e => ?_⟩
    rcases hn with hn | hn
    ·exact ((H2.apart n).1 e).1 hn
    ·exact ((H2.apart n).1 e).2.1 hn
   refine ⟨fun hc => ?_, fun hc => ⟨by rw [mV, mV]; rfl, ?_⟩⟩
   ·have e2 : pD p f args = (⟨0, [], [], []⟩, c2) := by
     rw [cA] at a3
     rw [pD, vT, hF3, a3.err hc]
    rw [e2]
    exact Shift.of (Sub.gN (.cons (Sub.agg (.cons (.refl _) (.cons (Sub.nil 4 false) (.cons (Sub.nil 2 false) (.cons (Sub.nil 1 false) .nil))))) (.cons (.refl _) .nil))) (aB.bF z6 (aB.bF zb (hle)))
   ·obtain ⟨_, e1⟩ := a3.ok hc
    have e2 : pD p f args = (⟨args.length, S2.code, S2.guards, l⟩, 0) := by
     rw [pD, vT, hF3, e1]
    rw [e2, kL.aN, hla]
    refine H2.seal l 0 (fun n hn => ?_) (aB.bF z6 (aB.bF zb (hle))) (fun n hn => (hfr n hn).1)
    obtain ⟨v1, v2, v3⟩ := hfr n hn
    rw [aF _ _ _ _ v2, aF _ _ _ _ v3]
  |some m =>
   rw [aU] at hos
   simp -dsimp -implicitDefEqProofs only [go_sem, ↓reduceIte, Tryz.f29, aT, aL, Nat.lt_irrefl, Int.lt_irrefl, ef, aP.aN]
   have c5 : ¬ nb = m := fun e => by obtain ⟨_, _, _, H1⟩ := hR; have := H1.box; rw [e, hos] at this; cases this
   have dA : ¬ m = nb := Ne.symm c5
   have dH : (nb = m) = False := eq_false c5
   have dG : (m = nb) = False := eq_false dA
   refine ⟨hf.1, hf.2, aG.aBI rfl rfl c5 (by rw [List.length_map]; exact hel.symm) hos ?_⟩
   refine eH.mono (hall (hR.uS (o := .gone) hos)) ?_
   rintro r h2 ⟨l, S2, t2, c2, rfl, k5, hll, a1, a2, a3⟩
   obtain ⟨g3, rfl, hg3, ⟨om, og, ov, H2⟩⟩ := k5.base (hR.none hos)
   have jX := H2.box
   unfold cD at jX
   have hz := H2.keep (n := n6) (by rw [← hh6, aH])
   have hz1 := hz.1
   have xJ : ¬ n6 = m := fun e => by rw [e, hg3] at hz1; cases hz1
   have aNC : ¬ m = n6 := Ne.symm xJ
   have aND : (n6 = m) = False := eq_false xJ
   have aNE : (m = n6) = False := eq_false aNC
   simp -dsimp -implicitDefEqProofs only [go_sem, ↓reduceIte, Tryz.f29, jX, hz1, zH, dH, zI, aND, dG, aNE, aF]
   have hgo : ∀ n, some n = om ∨ some n = og → ¬ n = m := fun n hn e => by
    have := (H2.apart n).2.2.2 (by rw [e]; exact hg3)
    rcases hn with hn | hn
    ·exact this.2.1 hn
    ·exact this.2.2.1 hn
   have hhm : h m = none := by
    have h1 := hR.none hos
    rw [← hh6, aF _ _ _ _ (fun e => xJ e.symm)] at h1
    exact h1
   generalize hE : g3 = h2H at *
   have hle : h.le h2H := by
    have h1 := H2.le
    rw [← hh6] at h1
    intro q
    by_cases e : q = n6
    ·subst e; exact .inl z6
    ·have := h1 q
     rwa [aF _ _ _ _ e] at this
   have hfr : ∀ n, some n = om ∨ some n = og → h n = none ∧ ¬ n = n6 ∧ ¬ n = nb := fun n hn => by
    have h1 := H2.fresh n (by rcases hn with hn | hn; exact .inr (.inl hn); exact .inr (.inr (.inl hn)))
    have h3 : ¬ n = n6 := fun e => by rw [← hh6, e, aH] at h1; cases h1
    refine ⟨by rwa [← hh6, aF _ _ _ _ h3] at h1, h3, fun e => ?_⟩
    rcases hn with hn | hn
    ·exact ((H2.apart n).1 e).1 hn
    ·exact ((H2.apart n).1 e).2.1 hn
   refine ⟨fun hc => ?_, fun hc => ⟨by rw [mV, mV]; rfl, ?_⟩⟩
   ·have e2 : pD p f args = (⟨0, [], [], []⟩, c2) := by
     rw [cA] at a3
     rw [pD, vT, hF3, a3.err hc]
    rw [e2]
    exact Shift.of (Sub.gN (.cons (Sub.agg (.cons (.refl _) (.cons (Sub.nil 4 false) (.cons (Sub.nil 2 false) (.cons (Sub.nil 1 false) .nil))))) (.cons (.refl _) .nil))) (aB.bF z6 (aB.bF zb (aB.bF hhm hle)))
   ·obtain ⟨_, e1⟩ := a3.ok hc
    have e2 : pD p f args = (⟨args.length, S2.code, S2.guards, l⟩, 0) := by
     rw [pD, vT, hF3, e1]
    rw [e2, kL.aN, hla]
    refine H2.seal l 0 (fun n hn => ?_) (aB.bF z6 (aB.bF zb (aB.bF hhm hle))) (fun n hn => (hfr n hn).1)
    obtain ⟨v1, v2, v3⟩ := hfr n hn
    rw [aF _ _ _ _ v2, aF _ _ _ _ v3, aF _ _ _ _ (hgo n hn)]
def opW (k : Int) (a b : List Int) : List Int := if k = 3 then iC a b else if k = 4 then y3 a b else if k = 5 then mulL a b else if k = 7 then iP a 1000002 else iK a b
def uN (sz : Nat) (args rs : List (List Int)) (c : aZ) : List Int := if c.fM = 1 then args.getD c.aW.toNat [] else if c.fM = 2 then cF c.aW sz else opW c.fM (rs.getD c.fA.toNat []) (rs.getD c.fB.toNat [])
def jB (sz : Nat) (args : List (List Int)) (code : List aZ) : Nat → List (List Int)
 |0 => []
 |k + 1 => jB sz args code k ++ [uN sz args (jB sz args code k) (code.getD k ⟨0, 0, 0, 0⟩)]
theorem jR (sz : Nat) (args : List (List Int)) (code : List aZ) : ∀ k, (jB sz args code k).length = k
 |0 => rfl
 |k + 1 => by rw [jB, List.length_append, jR sz args code k]; rfl
theorem oZ (sz : Nat) (args : List (List Int)) (code : List aZ) {r k : Nat} (hr : r < k) : ∀ n, k ≤ n → (jB sz args code n).getD r [] = (jB sz args code k).getD r []
 |0, h => by omega
 |n + 1, h => by
  rcases Nat.lt_or_ge n k with h1 | h1
  ·have : k = n + 1 := by omega
   rw [this]
  ·rw [← oZ sz args code hr n h1, jB, List.getD_eq_getElem?_getD, List.getElem?_append_left (by rw [jR]; omega), List.getD_eq_getElem?_getD]
def l6 (sz : Nat) (args : List (List Int)) (code : List aZ) (r : Nat) : List Int := (jB sz args code code.length).getD r []
theorem aIA {sz : Nat} {args : List (List Int)} {code : List aZ} {k : Nat} {c : aZ} (e : code[k]? = some c) : l6 sz args code k = uN sz args (jB sz args code k) c := by
 have h := (List.getElem?_eq_some_iff.1 e).1
 rw [l6, oZ sz args code (Nat.lt_succ_self k) code.length h, jB, List.getD_eq_getElem?_getD, List.getElem?_append_right (by rw [jR]; exact Nat.le_refl _), jR, Nat.sub_self, List.getD_eq_getElem?_getD, e]; rfl
theorem aIB {sz : Nat} {args : List (List Int)} {code : List aZ} {k : Nat} {c : aZ} (e : code[k]? = some c) (h1 : c.fM = 1) : l6 sz args code k = args.getD c.aW.toNat [] := by rw [aIA e, uN, if_pos h1]
theorem aCC {sz : Nat} {args : List (List Int)} {code : List aZ} {k : Nat} {c : aZ} (e : code[k]? = some c) (h1 : c.fM = 2) : l6 sz args code k = cF c.aW sz := by rw [aIA e, uN, if_neg (by omega), if_pos h1]
theorem aIC {sz : Nat} {args : List (List Int)} {code : List aZ} {inp : Int} {k : Nat} {c : aZ} (e : code[k]? = some c) (hi : bE inp k c) (h1 : ¬ c.fM = 1) (h2 : ¬ c.fM = 2) : l6 sz args code k = opW c.fM (l6 sz args code c.fA.toNat) (l6 sz args code c.fB.toNat) := by
 have h := (List.getElem?_eq_some_iff.1 e).1
 unfold bE at hi
 rw [aIA e, uN, if_neg h1, if_neg h2, l6, l6, oZ sz args code (k := k) (by omega) code.length (by omega), oZ sz args code (k := k) (by omega) code.length (by omega)]
theorem aXQ {sz : Nat} (k : Int) {a b : List Int} (ha : bC sz a) (hb : bC sz b) : bC sz (opW k a b) := by
 unfold opW
 repeat' split
 ·exact lP ha hb
 ·exact oD ha hb
 ·exact cW _ ha
 ·exact eQ _ ha
 ·exact mX _ ha
theorem rJ {sz : Nat} {args : List (List Int)} {code : List aZ} {inp : Int} (hi : ∀ i c, code[i]? = some c → bE inp i c) (ha : ∀ s ∈ args, bC sz s) (hl : (args.length : Int) = inp) (k : Nat) (hk : k < code.length) : bC sz (l6 sz args code k) := by
 induction k using Nat.strongRecOn with
 |ind k ih =>
  have e := List.getElem?_eq_getElem hk
  have hc := hi k _ e
  generalize code[k] = c at e hc
  by_cases h1 : c.fM = 1
  ·rw [aIB e h1]
   unfold bE at hc
   exact gM ha (by omega)
  by_cases h2 : c.fM = 2
  ·rw [aCC e h2]
   have hn : iI c.aW := by rcases hc with q | q | q | q <;> first | exact q.2.2.2 | (have := q.1; omega)
   exact dF hn
  ·rw [aIC e hc h1 h2]
   unfold bE at hc
   exact aXQ _ (ih _ (by omega) (by omega)) (ih _ (by omega) (by omega))
theorem a23 {sz : Nat} (hsz : 1 ≤ sz) {k : Int} {a b : List Int} (ha : a.length = sz) (hb : b.length = sz) {v : Int} (h : opV k (a.getD 0 0) (b.getD 0 0) = some v) : (opW k a b).getD 0 0 = v := by
 obtain ⟨x, a', rfl⟩ : ∃ x a', a = x :: a' := by
  cases a with
  |nil => simp at ha; omega
  |cons x a' => exact ⟨x, a', rfl⟩
 obtain ⟨y, b', rfl⟩ : ∃ x a', b = x :: a' := by
  cases b with
  |nil => simp at hb; omega
  |cons x a' => exact ⟨x, a', rfl⟩
 have g : ∀ (z : Int) (l : List Int), (z :: l).getD 0 0 = z := fun _ _ => rfl
 rw [g, g] at h
 unfold opV at h
 unfold opW
 by_cases h3 : k = 3
 ·rw [if_pos h3] at h ⊢
  rw [← Option.some.inj h]; rfl
 rw [if_neg h3] at h ⊢
 by_cases h4 : k = 4
 ·rw [if_pos h4] at h ⊢
  rw [← Option.some.inj h]
  show (x + y * 1000002 % 1000003) % 1000003 = _
  omega
 rw [if_neg h4] at h ⊢
 by_cases h5 : k = 5
 ·rw [if_pos h5] at h ⊢
  obtain ⟨t, e⟩ := aAL x a' (y :: b')
  rw [e, ← Option.some.inj h]; rfl
 rw [if_neg h5] at h ⊢
 by_cases h7 : k = 7
 ·rw [if_pos h7] at h ⊢
  rw [← Option.some.inj h]
  show x * 1000002 % 1000003 = _
  omega
 rw [if_neg h7] at h ⊢
 by_cases hy : y = 0
 ·rw [if_pos hy] at h; cases h
 ·rw [if_neg hy] at h
  obtain ⟨t, e⟩ := wG x a' (y :: b') a'.length
  rw [iK, List.length_cons, e, ← Option.some.inj h]; rfl
theorem then_ok {α β : Type} {x : Out α} {f : α → Nat → Out β} {w : β} {u : Nat} (h : x.andThen f = .ok (w, u)) : ∃ v t, x = .ok (v, t) ∧ f v t = .ok (w, u) := by
 cases x with
 |ok p => obtain ⟨v, t⟩ := p; exact ⟨v, t, rfl, h⟩
 |error c => cases h
structure aXR (inp : Int) (F : b5) (N : Nat → Prop) : Prop where
 ins : ∀ i c, F.code[i]? = some c → bE inp i c
 ops : ∀ (i : Nat) (c : aZ), F.code[i]? = some c → N i → (3 ≤ c.fM ∧ c.fM ≤ 6 → N c.fA.toNat ∧ N c.fB.toNat) ∧ (c.fM = 7 → N c.fA.toNat)
 gds : ∀ g ∈ F.guards, N g.aQ3.toNat
 div : ∀ (i : Nat) (c : aZ), F.code[i]? = some c → c.fM = 6 → N c.fB.toNat
def HD (rg : Nat → List Int) (N : Nat → Prop) (S : b5) : Prop := (∀ i, i < S.dU.length → N i → (rg i).getD 0 0 = S.dU.getD i 0) ∧ ∀ (i : Nat) (c : aZ), S.code[i]? = some c → c.fM = 6 → ¬ S.val c.fB = 0
def aQ4 (rg : Nat → List Int) (F : b5) (N : Nat → Prop) (X : Out (Int × b5)) (Y : Out (List Int)) : Prop := ∀ r S' u, X = .ok ((r, S'), u) → S'.ext F → Y = .ok (rg r.toNat, u) ∧ HD rg N S'
def aXS (rg : Nat → List Int) (F : b5) (N : Nat → Prop) (X : Out (List Int × b5)) (Y : Out (List (List Int))) : Prop := ∀ r S' u, X = .ok ((r, S'), u) → S'.ext F → Y = .ok (r.map fun k => rg k.toNat, u) ∧ HD rg N S'
theorem sS {rg : Nat → List Int} {F : b5} {N : Nat → Prop} {ev : Nat → aA → b5 → Out (Int × b5)} {ev' : Nat → aA → Out (List Int)} {inp : Int} : ∀ (l : List aA) (t : Nat) (S : b5), Good inp S t → t ≤ 3000 → HD rg N S → (∀ e ∈ l, ∀ u S', Good inp S' u → S.ext S' → k8 S t S' u → qR (aD9 inp S' u) (ev u e S') ∧ (HD rg N S' → aQ4 rg F N (ev u e S') (ev' u e))) → aXS rg F N (jG ev l t S) (kB ev' l t)
 | [], t, S, hg, ht, hd, _ => fun r S' u h _ => by
  cases h
  exact ⟨rfl, hd⟩
 |e :: l, t, S, hg, ht, hd, h => fun r S' u hx he => by
  obtain ⟨h1, h2⟩ := h e List.mem_cons_self t S hg S.qI (.refl ht)
  rw [jG] at hx
  obtain ⟨⟨r1, S1⟩, t1, e1, hx⟩ := then_ok hx
  obtain ⟨q1, q2, q3, q4⟩ := h1 _ _ e1
  simp only at hx q1 q2 q3 q4
  obtain ⟨⟨rs, S2⟩, t2, e2, hx⟩ := then_ok hx
  cases hx
  have hl := fun x hx u' S' a b c => h x (List.mem_cons_of_mem _ hx) u' S' a (q2.trans b) (q4.trans c)
  have hk := jQ l t1 S1 q1 q4.2.2.2 (fun x hx u' S' a b c => (hl x hx u' S' a b c).1) _ _ e2
  obtain ⟨a1, a2⟩ := h2 hd r1 S1 t1 e1 (hk.2.1.trans he)
  obtain ⟨b1, b2⟩ := sS l t1 S1 q1 q4.2.2.2 a2 hl rs _ _ e2 he
  rw [kB, a1, Out.andThen_ok, b1]
  exact ⟨rfl, b2⟩
theorem aGB {rg : Nat → List Int} {F : b5} {N : Nat → Prop} {f : List Int → Nat → b5 → Out (List Int × b5)} {g : List (List Int) → Nat → Out (List (List Int))} {inp : Int} {m : Nat} (h : ∀ vs t S, Good inp S t → (vs.length = m ∧ ∀ x ∈ vs, j5 S x) → t ≤ 3000 → qR (vS inp S t m) (f vs t S) ∧ (HD rg N S → aXS rg F N (f vs t S) (g (vs.map fun k => rg k.toNat) t))) :
  ∀ (n : Nat) (vs : List Int) (t : Nat) (S : b5), Good inp S t → (vs.length = m ∧ ∀ x ∈ vs, j5 S x) → t ≤ 3000 → HD rg N S → aXS rg F N (mB f n vs t S) (nF g n (vs.map fun k => rg k.toNat) t)
 |0, vs, t, S, hg, hv, ht, hd => fun r S' u hx _ => by
  cases hx
  exact ⟨rfl, hd⟩
 |n + 1, vs, t, S, hg, hv, ht, hd => fun r S' u hx he => by
  obtain ⟨h1, h2⟩ := h vs t S hg hv ht
  rw [mB] at hx
  obtain ⟨⟨r1, S1⟩, t1, e1, hx⟩ := then_ok hx
  obtain ⟨q1, q2, q3, q4⟩ := h1 _ _ e1
  simp only at hx q1 q2 q3 q4
  have hk := qJ (fun vs t S a b c => (h vs t S a b c).1) n r1 t1 S1 q1 q3 q4.2.2.2 _ _ hx
  obtain ⟨a1, a2⟩ := h2 hd r1 S1 t1 e1 (hk.2.1.trans he)
  obtain ⟨b1, b2⟩ := aGB h n r1 t1 S1 q1 q3 q4.2.2.2 a2 r S' u hx he
  rw [nF, a1, Out.andThen_ok, b1]
  exact ⟨rfl, b2⟩
theorem aTT {S F : b5} {inp : Int} {t : Nat} {c : aZ} {v : Int} (hg : Good inp S t) (he : (S.put c v).ext F) : F.code[S.dU.length]? = some c := by
 obtain ⟨x, hx⟩ := he.1
 rw [← hx, b5.put, List.append_assoc, List.getElem?_append_right (by rw [hg.len]; exact Nat.le_refl _), hg.len, Nat.sub_self]; rfl
theorem HD.put {rg : Nat → List Int} {N : Nat → Prop} {S : b5} (h : HD rg N S) {inp : Int} {t : Nat} (hg : Good inp S t) {c : aZ} {v : Int} (hv : N S.dU.length → (rg S.dU.length).getD 0 0 = v) (hz : c.fM = 6 → ¬ S.val c.fB = 0 ∧ j5 S c.fB) : HD rg N (S.put c v) := by
 refine ⟨fun i hi hn => ?_, fun i d hd h6 => ?_⟩
 ·rw [b5.put, List.length_append, List.length_singleton] at hi
  show _ = (S.dU ++ [v]).getD i 0
  rw [List.getD_eq_getElem?_getD (l := S.dU ++ [v])]
  rcases Nat.lt_or_ge i S.dU.length with h1 | h1
  ·rw [List.getElem?_append_left h1, ← List.getD_eq_getElem?_getD]; exact h.1 i h1 hn
  ·obtain rfl : i = S.dU.length := by omega
   rw [List.getElem?_append_right (Nat.le_refl _), Nat.sub_self]; exact hv hn
 ·have hx := S.aB9 c v
  rcases Nat.lt_or_ge i S.code.length with h1 | h1
  ·rw [b5.put, List.getElem?_append_left h1] at hd
   have hin := hg.ins i d hd
   have hl := hg.len
   unfold bE at hin
   rw [hx.val (by omega) (by omega)]
   exact h.2 i d hd h6
  ·rw [b5.put, List.getElem?_append_right h1] at hd
   obtain ⟨h2, h3⟩ := List.getElem?_eq_some_iff.1 hd
   simp at h2 h3
   subst h3
   rw [hx.val (hz h6).2.1 (hz h6).2.2]
   exact (hz h6).1
theorem qK {rg : Nat → List Int} {l : List Int} {i : Nat} (hi : i < l.length) : (l.map fun k => rg k.toNat).getD i [] = rg (l.getD i 0).toNat := by
 simp [List.getD_eq_getElem?_getD, List.getElem?_eq_getElem hi]
theorem aXT {sz : Nat} (hsz : 1 ≤ sz) {args : List (List Int)} {inp : Int} {F : b5} {N : Nat → Prop} (C : aXR inp F N) (ha : ∀ s ∈ args, bC sz s) (hl : (args.length : Int) = inp) {k : Int} {vs : List Int} {S : b5} {t m : Nat} (hk : k = 3 ∨ k = 4 ∨ k = 5 ∨ k = 6 ∨ k = 7) (hm : vs.length = m ∧ ∀ x ∈ vs, j5 S x) (hm1 : 1 ≤ m) (hm2 : ¬ k = 7 → 2 ≤ m) (hg : Good inp S t) (hd : HD (l6 sz args F.code) N S) : aQ4 (l6 sz args F.code) F N (xG k vs S t) (opE k (vs.map fun k => l6 sz args F.code k.toNat) t) := fun r S' u hx he => by
 have at_ : ∀ i, i < m → j5 S (vs.getD i 0) := fun i hi => by
  rw [List.getD_eq_getElem?_getD, List.getElem?_eq_getElem (by omega)]
  exact hm.2 _ (List.getElem_mem _)
 unfold xG at hx
 split at hx
 ·cases hx
 rename_i v hv
 cases hx
 have ec := aTT hg he
 have hin := C.ins _ _ ec
 have hrs := fun i (hi : i < F.code.length) => rJ (sz := sz) C.ins ha hl i hi
 have hF : S.dU.length < F.code.length := (List.getElem?_eq_some_iff.1 ec).1
 have e0 := aIC (sz := sz) (args := args) ec hin (by simp only; omega) (by simp only; omega)
 simp only at e0
 have i0 := at_ 0 (by omega)
 have iB : 0 ≤ opB k vs ∧ opB k vs < S.dU.length := by
  unfold opB
  split
  ·unfold j5 at i0; omega
  ·rename_i h7
   exact at_ 1 (hm2 h7)
 have s0 := hrs (vs.getD 0 0).toNat (by unfold j5 at i0; omega)
 have s1 := hrs (opB k vs).toNat (by omega)
 have hN : N S.dU.length → N (vs.getD 0 0).toNat ∧ (¬ k = 7 → N (opB k vs).toNat) := fun hn => by
  have ho := C.ops _ _ ec hn
  simp only at ho
  by_cases h7 : k = 7
  ·exact ⟨ho.2 h7, fun q => absurd h7 q⟩
  ·have h36 := ho.1 (by omega)
   exact ⟨h36.1, fun _ => h36.2⟩
 have hd0 : ∀ x : Int, 0 ≤ x ∧ x < S.dU.length → N x.toNat → (l6 sz args F.code x.toNat).getD 0 0 = S.val x := fun x hx hn => hd.1 x.toNat (by omega) hn
 have hzz : k = 6 → ¬ S.val (opB k vs) = 0 := fun q q2 => by
  rw [q2, q, opV, if_neg (by decide), if_neg (by decide), if_neg (by decide), if_neg (by decide), if_pos rfl] at hv
  cases hv
 refine ⟨?_, hd.put hg (fun hn => ?_) (fun q => ⟨hzz q, iB⟩)⟩
 ·rw [Int.toNat_natCast, e0]
  have g0 := qK (rg := l6 sz args F.code) (l := vs) (i := 0) (by omega)
  unfold opE opW
  rcases hk with rfl | rfl | rfl | rfl | rfl
  all_goals simp only [reduceCtorEq, if_true, if_false, Int.reduceEq]
  ·rw [g0, qK (rg := l6 sz args F.code) (i := 1) (by have := hm2 (by decide); omega)]; rfl
  ·rw [g0, qK (rg := l6 sz args F.code) (i := 1) (by have := hm2 (by decide); omega)]; rfl
  ·rw [g0, qK (rg := l6 sz args F.code) (i := 1) (by have := hm2 (by decide); omega)]; rfl
  ·have hdv := C.div _ _ ec rfl
   have e6 := hd0 _ iB hdv
   rw [show opB 6 vs = vs.getD 1 0 from rfl] at e6
   rw [g0, qK (rg := l6 sz args F.code) (i := 1) (by have := hm2 (by decide); omega), e6]
   rw [show opB 6 vs = vs.getD 1 0 from rfl] at hv
   have hz : ¬ S.val (vs.getD 1 0) = 0 := fun q => by
    rw [opV, if_neg (by decide), if_neg (by decide), if_neg (by decide), if_neg (by decide), if_pos q] at hv
    cases hv
   rw [if_neg hz]; rfl
  ·rw [g0]
 ·obtain ⟨n0, n1⟩ := hN hn
  rw [e0]
  refine a23 hsz s0.1 s1.1 ?_
  rw [hd0 _ i0 n0]
  by_cases h7 : k = 7
  ·subst h7
   rw [← hv]; rfl
  ·rw [hd0 _ iB (n1 h7)]; exact hv
theorem aK3 {p : aC} (hp : p.ok) {sz : Nat} (hsz : 1 ≤ sz) {args : List (List Int)} {inp : Int} {F : b5} {N : Nat → Prop} (C : aXR inp F N) (ha : ∀ s ∈ args, bC sz s) (hl : (args.length : Int) = inp) : ∀ (n t : Nat) (e : aA) (env : List Int) (S : b5) (funcs : Int), e.ok p funcs env.length → funcs ≤ p.aJ.length → Good inp S t → t ≤ 3000 → (∀ x ∈ env, j5 S x) → HD (l6 sz args F.code) N S → aQ4 (l6 sz args F.code) F N (cN p n t e env S) (gR p sz n t e (env.map fun k => l6 sz args F.code k.toNat))
 |0, t, e, env, S, funcs, _, _, _, _, _, _ => fun r S' u hx _ => by rw [cN] at hx; cases hx
 |n + 1, t, e, env, S, funcs, hok, hf, hg, ht, henv, hd => by
  have ih := aK3 hp hsz C ha hl n
  have io := lD hp (inp := inp) n
  have hnode := ((aA.cC _ _ _ _).1 hok).1
  by_cases h3 : t = 3000
  ·intro r S' u hx _
   rw [cN, if_pos h3] at hx; cases hx
  have iY := hg.kJ (Nat.le_succ t)
  have hcap := hg.cap
  have hgcap := hg.m5
  have henvE : ∀ {S'}, S.ext S' → ∀ x ∈ env, j5 S' x := fun e x hx => (henv x hx).ext e
  have kidsS : ¬ e.aQ = 9 → ∀ x ∈ e.aI, ∀ u S', Good inp S' u → S.ext S' → k8 S (t + 1) S' u → qR (aD9 inp S' u) (cN p n u x env S') ∧ (HD (l6 sz args F.code) N S' → aQ4 (l6 sz args F.code) F N (cN p n u x env S') (gR p sz n u x (env.map fun k => l6 sz args F.code k.toNat))) := fun h9 x hx u S' a b c =>
   ⟨io u x env S' funcs (dD hok h9 x hx) hf a c.2.2.2 (henvE b), fun hd' => ih u x env S' funcs (dD hok h9 x hx) hf a c.2.2.2 (henvE b) hd'⟩
  intro r S' u hx he
  rcases oE hnode with hk | hk | hk | hk | hk | hk | hk | hk | hk | hk | hk
  ·rw [aEA h3 hk] at hx
   rw [aO7 h3 hk]
   cases hx
   have ec := aTT hg he
   have er := aCC (sz := sz) (args := args) ec rfl
   rw [Int.toNat_natCast, er]
   refine ⟨rfl, hd.put hg (fun _ => ?_) (fun q => absurd (show (2 : Int) = 6 from q) (by decide))⟩
   rw [er]
   obtain ⟨w, rfl⟩ : ∃ w, sz = w + 1 := ⟨sz - 1, by omega⟩
   simp [cF, List.replicate_succ]
  ·rw [aEB h3 hk] at hx
   rw [aO8 h3 hk]
   cases hx
   have hn := ((dM (by omega)).1 hnode).2.2.2.2.1 hk
   exact ⟨by rw [qK (by omega)], hd⟩
  iterate 5
   ·have hlen := cG hok (by omega)
    rw [hk] at hlen
    rw [jD h3 (by omega)] at hx
    rw [mN h3 (by omega)]
    have hs := kidsS (by omega)
    obtain ⟨⟨rs, S1⟩, t1, e1, hx⟩ := then_ok hx
    simp only at hx
    have hrk := jQ _ _ S iY (by omega) (fun x hx u S' a b c => (hs x hx u S' a b c).1) _ _ e1
    obtain ⟨r1, r2, r3, r4⟩ := hrk
    have hex : S1.ext S' := by
     have hx2 := hx
     unfold xG at hx2
     split at hx2
     ·cases hx2
     ·cases hx2; exact S1.aB9 _ _
    obtain ⟨a1, a2⟩ := sS _ _ S iY (by omega) hd hs _ _ _ e1 (hex.trans he)
    rw [a1, Out.andThen_ok]
    exact aXT hsz C ha hl (by omega) r3 (by unfold eE at hlen; simp at hlen; omega) (fun q => by unfold eE at hlen; simp at hlen; omega) r1 a2 _ _ _ hx he
  ·have hlen := cG hok (by omega)
   rw [hk, show eE 8 = 3 from rfl] at hlen
   have o0 := aA.dW hok (i := 0) (by omega)
   have o1 := aA.dW hok (i := 1) (by omega)
   have o2 := aA.dW hok (i := 2) (by omega)
   rw [gI (by omega)] at o0 o1 o2
   rw [tY h3 hk] at hx
   rw [aF4 h3 hk]
   obtain ⟨⟨rr, S1⟩, t1, e1, hx⟩ := then_ok hx
   simp only at hx
   obtain ⟨r1, r2, r3, r4⟩ := io _ _ _ _ _ o0 hf iY (by omega) henv _ _ e1
   simp only at r1 r2 r3 r4
   have r4' := r4
   unfold k8 at r4'
   have go : ∀ (b : Bool) (k : aA), k.ok p funcs env.length → cN p n t1 k env (S1.guard ⟨rr, b⟩) = .ok ((r, S'), u) → (S1.ext F ∧ N rr.toNat) ∧ (HD (l6 sz args F.code) N S1 → gR p sz n t1 k (env.map fun k => l6 sz args F.code k.toNat) = .ok (l6 sz args F.code r.toNat, u) ∧ HD (l6 sz args F.code) N S') := fun b k hk hq => by
    have hx1 : S1.ext (S1.guard ⟨rr, b⟩) := S1.kE _
    have hgd := r1.guard (b := b) r3 (by omega)
    obtain ⟨q1, q2, q3, q4⟩ := io t1 k env _ _ hk hf hgd (by omega) (henvE (r2.trans hx1)) _ _ hq
    simp only at q2
    refine ⟨⟨hx1.trans (q2.trans he), ?_⟩, fun hdd => ih t1 k env _ _ hk hf hgd (by omega) (henvE (r2.trans hx1)) hdd _ _ _ hq he⟩
    have hm : (⟨rr, b⟩ : dX) ∈ F.guards := by
     have h1 : (⟨rr, b⟩ : dX) ∈ (S1.guard ⟨rr, b⟩).guards := by simp [b5.guard]
     exact (q2.trans he).2.2.subset h1
    exact C.gds _ hm
   by_cases hz : S1.val rr = 0
   ·rw [if_pos hz] at hx
    obtain ⟨⟨g1, g2⟩, g3⟩ := go _ _ o1 hx
    obtain ⟨a1, a2⟩ := ih _ _ _ _ _ o0 hf iY (by omega) henv hd _ _ _ e1 g1
    rw [a1, Out.andThen_ok, if_pos (by rw [a2.1 rr.toNat (by unfold j5 at r3; omega) g2]; exact hz)]
    exact g3 a2
   ·rw [if_neg hz] at hx
    obtain ⟨⟨g1, g2⟩, g3⟩ := go _ _ o2 hx
    obtain ⟨a1, a2⟩ := ih _ _ _ _ _ o0 hf iY (by omega) henv hd _ _ _ e1 g1
    rw [a1, Out.andThen_ok, if_neg (by rw [a2.1 rr.toNat (by unfold j5 at r3; omega) g2]; exact hz)]
    exact g3 a2
  ·have hlen := cG hok (by omega)
   rw [hk, show eE 9 = 2 from rfl] at hlen
   have o0 := aA.dW hok (i := 0) (by omega)
   have o1 := aA.dW hok (i := 1) (by omega)
   rw [gI (by omega)] at o0
   rw [hk, show j2 9 1 (env.length : Int) = env.length + 1 from rfl] at o1
   rw [aEC h3 hk] at hx
   rw [aO9 h3 hk]
   obtain ⟨⟨rr, S1⟩, t1, e1, hx⟩ := then_ok hx
   simp only at hx
   obtain ⟨r1, r2, r3, r4⟩ := io _ _ _ _ _ o0 hf iY (by omega) henv _ _ e1
   simp only at r1 r2 r3 r4
   have a8P : ∀ x ∈ env ++ [rr], j5 S1 x := fun x hx => by
    rcases List.mem_append.1 hx with hx | hx
    ·exact henvE r2 x hx
    ·rw [List.mem_singleton.1 hx]; exact r3
   obtain ⟨q1, q2, q3, q4⟩ := io t1 (e.kU 1) (env ++ [rr]) S1 funcs (by rw [List.length_append]; exact o1) hf r1 r4.2.2.2 a8P _ _ hx
   obtain ⟨a1, a2⟩ := ih _ _ _ _ _ o0 hf iY (by omega) henv hd _ _ _ e1 (q2.trans he)
   rw [a1, Out.andThen_ok]
   have := ih t1 (e.kU 1) (env ++ [rr]) S1 funcs (by rw [List.length_append]; exact o1) hf r1 r4.2.2.2 a8P a2 _ _ _ hx he
   rwa [List.map_append] at this
  ·obtain ⟨f, Fc⟩ := lQ hp hok hf (.inl hk)
   have f2 := Fc.hi
   have f4 := Fc.pk2
   rw [tZ h3 hk] at hx
   rw [aD1 h3 hk]
   have hs := kidsS (by omega)
   obtain ⟨⟨rs, S1⟩, t1, e1, hx⟩ := then_ok hx
   simp only at hx
   obtain ⟨r1, r2, r3, r4⟩ := jQ _ _ S iY (by omega) (fun x hx u S' a b c => (hs x hx u S' a b c).1) _ _ e1
   simp only at r1 r2 r3 r4
   have hco : (p.out e.aW e.b7).ok p e.aW rs.length := by rw [r3.1, Fc.kids]; exact Fc.oks _ (List.mem_of_getElem? Fc.out)
   obtain ⟨q1, q2, q3, q4⟩ := io t1 _ rs S1 e.aW hco (by omega) r1 r4.2.2.2 r3.2 _ _ hx
   obtain ⟨a1, a2⟩ := sS _ _ S iY (by omega) hd hs _ _ _ e1 (q2.trans he)
   rw [a1, Out.andThen_ok]
   exact ih t1 _ rs S1 e.aW hco (by omega) r1 r4.2.2.2 r3.2 a2 _ _ _ hx he
  ·obtain ⟨f, Fc⟩ := lQ hp hok hf (.inr hk)
   have f2 := Fc.hi
   have f4 := Fc.pk2
   have f9 := Fc.loop hk
   rw [uA h3 hk] at hx
   rw [aD2 h3 hk]
   have hs := kidsS (by omega)
   obtain ⟨⟨rs, S1⟩, t1, e1, hx⟩ := then_ok hx
   simp only at hx
   obtain ⟨r1, r2, r3, r4⟩ := jQ _ _ S iY (by omega) (fun x hx u S' a b c => (hs x hx u S' a b c).1) _ _ e1
   simp only at r1 r2 r3 r4
   obtain ⟨⟨rs2, S2⟩, t2, e2, hx⟩ := then_ok hx
   cases hx
   have hfl : ∀ vs t S, Good inp S t → (vs.length = f.aM.length ∧ ∀ x ∈ vs, j5 S x) → t ≤ 3000 → qR (vS inp S t f.aM.length) (jG (fun t e S => cN p n t e vs S) (p.outs e.aW) t S) ∧ (HD (l6 sz args F.code) N S → aXS (l6 sz args F.code) F N (jG (fun t e S => cN p n t e vs S) (p.outs e.aW) t S) (kB (fun t e => gR p sz n t e (vs.map fun k => l6 sz args F.code k.toNat)) (p.outs e.aW) t)) := fun vs w S' hg' hv hw => by
    rw [Fc.eq]
    have hx2 : ∀ x ∈ f.aM, ∀ u S'', Good inp S'' u → S'.ext S'' → k8 S' w S'' u → qR (aD9 inp S'' u) (cN p n u x vs S'') ∧ (HD (l6 sz args F.code) N S'' → aQ4 (l6 sz args F.code) F N (cN p n u x vs S'') (gR p sz n u x (vs.map fun k => l6 sz args F.code k.toNat))) := fun x hx u S'' a b c =>
     ⟨io u x vs S'' e.aW (by rw [hv.1, f9.2.2]; exact Fc.oks x hx) (by omega) a c.2.2.2 fun y hy => (hv.2 y hy).ext b, fun hdd => ih u x vs S'' e.aW (by rw [hv.1, f9.2.2]; exact Fc.oks x hx) (by omega) a c.2.2.2 (fun y hy => (hv.2 y hy).ext b) hdd⟩
    exact ⟨jQ _ _ S' hg' hw fun x hx u S'' a b c => (hx2 x hx u S'' a b c).1, fun hdd => sS _ _ S' hg' hw hdd hx2⟩
   have lV : rs.length = f.aM.length ∧ ∀ x ∈ rs, j5 S1 x := ⟨by have := r3.1; have := Fc.kids; omega, r3.2⟩
   have hk2 := qJ (inp := inp) (m := f.aM.length) (fun vs t S a b c => (hfl vs t S a b c).1) _ _ _ _ r1 lV r4.2.2.2 _ _ e2
   obtain ⟨a1, a2⟩ := sS _ _ S iY (by omega) hd hs _ _ _ e1 (hk2.2.1.trans he)
   rw [a1, Out.andThen_ok]
   obtain ⟨b1, b2⟩ := aGB (inp := inp) (m := f.aM.length) (g := fun vs t => kB (fun t e => gR p sz n t e vs) (p.outs e.aW) t) hfl _ _ _ _ r1 lV r4.2.2.2 a2 _ _ _ e2 he
   rw [b1, Out.andThen_ok]
   exact ⟨by rw [qK (by have := hk2.2.2.1.1; simp only at this; omega)], b2⟩
theorem aQ5 {p : aC} (hp : p.ok) {sz : Nat} (hsz : 1 ≤ sz) {f : Int} (hf : 0 ≤ f ∧ f < p.aJ.length) {kM : List Int} (ha0 : dP kM) (hl0 : ∀ G, p.aJ[f.toNat]? = some G → (kM.length : Int) = G.aX) {L : List Int} {F : b5} {u : Nat} (hX : vT p f kM = .ok ((L, F), u)) {N : Nat → Prop} (C : aXR kM.length F N) {args : List (List Int)} (ha : ∀ s ∈ args, bC sz s) (hl : args.length = kM.length) (hd : ∀ i, i < kM.length → N i → (args.getD i []).getD 0 0 = kM.getD i 0) :
  xU p sz f args = .ok (L.map fun k => l6 sz args F.code k.toNat, u) ∧ HD (l6 sz args F.code) N F := by
 obtain ⟨G, ef, hF1, hF2, hF3, hF4⟩ := oM hp hf
 have hla := hl0 G ef
 have hg := zC kM ha0 (by omega)
 have hin := aHW kM
 have hel : (zU kM).length = kM.length := by simp [zU]
 obtain ⟨q1, q2, q3, q4⟩ := (aHX hp f hf kM ha0 hl0).1 _ _ hX
 simp only at q1 q2 q3 q4
 have hcode : ∀ i, i < kM.length → F.code[i]? = some ⟨1, 0, 0, (i : Int)⟩ := fun i hi => by
  obtain ⟨x, hx⟩ := q2.1
  rw [← hx, List.getElem?_append_left (by simp [inS]; exact hi)]
  simp [inS, hi]
 have hrg : ∀ i, i < kM.length → l6 sz args F.code i = args.getD i [] := fun i hi => by
  rw [aIB (hcode i hi) rfl, Int.toNat_natCast]
 have hd0 : HD (l6 sz args F.code) N (inS kM) := ⟨fun i hi hn => by
  have hi' : i < kM.length := hi
  rw [hrg i hi']; exact hd i hi' hn, fun i c hc h6 => by
  obtain ⟨h1, h2⟩ := List.getElem?_eq_some_iff.1 hc
  simp [inS] at h1 h2
  subst h2
  simp at h6⟩
 have hmap : (zU kM).map (fun k => l6 sz args F.code k.toNat) = args := by
  apply List.ext_getElem
  ·rw [List.length_map, hel, hl]
  ·intro i h1 h2
   rw [List.getElem_map]
   have e1 : (zU kM)[i]'(by rw [hel]; omega) = (i : Int) := by simp [zU]
   rw [e1, Int.toNat_natCast, hrg i (by omega), List.getD_eq_getElem?_getD, List.getElem?_eq_getElem h2]; rfl
 have hx2 : ∀ x ∈ p.outs f, ∀ u S'', Good kM.length S'' u → (inS kM).ext S'' → k8 (inS kM) 0 S'' u → qR (aD9 kM.length S'' u) (cN p 3001 u x (zU kM) S'') ∧ (HD (l6 sz args F.code) N S'' → aQ4 (l6 sz args F.code) F N (cN p 3001 u x (zU kM) S'') (gR p sz 3001 u x args)) := fun x hx u S'' a b c => by
  have hxo : x.ok p f (zU kM).length := by rw [hel, hla]; exact hF4 x (by rw [← hF3]; exact hx)
  refine ⟨lD hp _ u x _ S'' f hxo (by omega) a c.2.2.2 fun y hy => (hin y hy).ext b, fun hdd => ?_⟩
  have := aK3 hp hsz C ha (by omega) 3001 u x (zU kM) S'' f hxo (by omega) a c.2.2.2 (fun y hy => (hin y hy).ext b) hdd
  rwa [hmap] at this
 exact sS _ _ _ hg (by omega) hd0 hx2 _ _ _ hX F.qI
theorem aQ6 {n i k : Nat} (h : ¬ i = k) : (vR n i).getD k 0 = 0 := by
 rw [vR, List.getD_eq_getElem?_getD, List.getElem?_set_ne h, List.getElem?_replicate]
 split <;> rfl
theorem uE (n i : Nat) : dP (vR n i) := fun x hx => by
 rcases List.mem_or_eq_of_mem_set hx with hx | rfl
 ·rw [(List.mem_replicate.1 hx).2]; unfold iI; omega
 ·unfold iI; omega
end Go.Hl

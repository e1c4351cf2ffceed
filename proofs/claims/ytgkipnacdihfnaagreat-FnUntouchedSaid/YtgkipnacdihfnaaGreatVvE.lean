/-
  Contracts of functions and laws of the layer over the walk.
-/
import Derived.Test.YtgkipnacdihfnaaGreatVvD
import Derived.Test.YtgkipnacdihfnaaGreatHlD
import Derived.Test.YtgkipnacdihfnaaGreatVvC
namespace Go.Hl
set_option maxRecDepth 100000
open Go.Proofs
set_option linter.unusedVariables false
set_option linter.unusedSimpArgs false
def dG (p : aE) (inp : Int) (S : c6) (om og ov : Option Nat) (st : Nat) (c : Int) : cB :=
 .row 8 [[.v (eI 3 aS.c p.aI), .v (I inp), .v (gQ 4 S.code.length om), .v (gQ 2 S.guards.length og), .v .bI, .v (gQ 1 S.eZ.length ov), .v (I st), .v (I c)]]
def aHI (h : aA) (sz : Nat) (rows : List (List Cell)) : Option Nat → Prop
 |none => rows = []
 |some m => rows ≠ [] ∧ h m = some (.row sz rows)
def rowsOf {α : Type} (c : α → List aD) (l : List α) : List (List Cell) := (l.map c).map (List.map .v)
theorem eV {α : Type} (c : α → List aD) (l : List α) : (rowsOf c l).length = l.length := by simp [rowsOf]
theorem lW {α : Type} (c : α → List aD) (l : List α) (x : α) : rowsOf c (l ++ [x]) = rowsOf c l ++ [(c x).map .v] := by simp [rowsOf]
theorem gZ {α : Type} {c : α → List aD} {l : List α} : rowsOf c l = [] ↔ l = [] := by simp [rowsOf]
structure tN (bx : c6 → Option Nat → Option Nat → Option Nat → cB) (h0 : aA) (nb : Nat) (S : c6) (om og ov : Option Nat) (h : aA) : Prop where
 box : h nb = some (bx S om og ov)
 odd : ∀ S om og ov, ∃ sz cs, bx S om og ov = .row sz cs ∧ ¬ sz = 1 ∧ ¬ sz = 2 ∧ ¬ sz = 4
 code : aHI h 4 (rowsOf bC.c S.code) om
 gds : aHI h 2 (rowsOf eC.c S.guards) og
 eZ : aHI h 1 (rowsOf (fun n => [I n]) S.eZ) ov
 fresh : ∀ n, n = nb ∨ some n = om ∨ some n = og ∨ some n = ov → h0 n = none
 upto : ∀ n, ¬ n = nb → ¬ some n = om → ¬ some n = og → ¬ some n = ov → h n = h0 n
def dJ (bx : c6 → Option Nat → Option Nat → Option Nat → cB) (h0 : aA) (nb : Nat) (S : c6) (h : aA) : Prop := ∃ om og ov, tN bx h0 nb S om og ov h
abbrev a51 (h0 : aA) (nb : Nat) (p : aE) (inp : Int) (S : c6) (st : Nat) (c : Int) (om og ov : Option Nat) (h : aA) : Prop := tN (fun S om og ov => dG p inp S om og ov st c) h0 nb S om og ov h
abbrev jA (h0 : aA) (nb : Nat) (p : aE) (inp : Int) (S : c6) (st : Nat) (c : Int) (h : aA) : Prop := dJ (fun S om og ov => dG p inp S om og ov st c) h0 nb S h
theorem aHJ (p : aE) (inp : Int) (st : Nat) (c : Int) : ∀ S om og ov, ∃ sz cs, dG p inp S om og ov st c = .row sz cs ∧ ¬ sz = 1 ∧ ¬ sz = 2 ∧ ¬ sz = 4 := fun S om og ov => ⟨8, _, rfl, by decide, by decide, by decide⟩
theorem tN.kinds {h0 h : aA} {nb : Nat} {bx : c6 → Option Nat → Option Nat → Option Nat → cB} {S : c6} {om og ov : Option Nat} (H : tN bx h0 nb S om og ov h) (n : Nat) :
  (n = nb → h n = some (bx S om og ov)) ∧ (some n = om → h n = some (.row 4 (rowsOf bC.c S.code))) ∧ (some n = og → h n = some (.row 2 (rowsOf eC.c S.guards))) ∧ (some n = ov → h n = some (.row 1 (rowsOf (fun n => [I n]) S.eZ))) :=
 ⟨fun e => e ▸ H.box, fun e => by have := H.code; rw [← e] at this; exact this.2, fun e => by have := H.gds; rw [← e] at this; exact this.2, fun e => by have := H.eZ; rw [← e] at this; exact this.2⟩
theorem tN.apart {h0 h : aA} {nb : Nat} {bx : c6 → Option Nat → Option Nat → Option Nat → cB} {S : c6} {om og ov : Option Nat} (H : tN bx h0 nb S om og ov h) (n : Nat) :
  (n = nb → ¬ some n = om ∧ ¬ some n = og ∧ ¬ some n = ov) ∧ (some n = om → ¬ some n = og ∧ ¬ some n = ov) ∧ (some n = og → ¬ some n = ov) ∧ (h n = none → ¬ n = nb ∧ ¬ some n = om ∧ ¬ some n = og ∧ ¬ some n = ov) := by
 obtain ⟨k1, k2, k3, k4⟩ := H.kinds n
 obtain ⟨sz, cs, hB, o1, o2, o4⟩ := H.odd S om og ov
 rw [hB] at k1
 refine ⟨fun e => ⟨fun q => ?_, fun q => ?_, fun q => ?_⟩, fun e => ⟨fun q => ?_, fun q => ?_⟩, fun e q => ?_, fun e => ⟨fun q => ?_, fun q => ?_, fun q => ?_, fun q => ?_⟩⟩
 ·have := (k1 e).symm.trans (k2 q); simp at this; exact o4 this.1
 ·have := (k1 e).symm.trans (k3 q); simp at this; exact o2 this.1
 ·have := (k1 e).symm.trans (k4 q); simp at this; exact o1 this.1
 ·have := (k2 e).symm.trans (k3 q); simp at this
 ·have := (k2 e).symm.trans (k4 q); simp at this
 ·have := (k3 e).symm.trans (k4 q); simp at this
 ·have := (k1 q); rw [e] at this; cases this
 ·have := (k2 q); rw [e] at this; cases this
 ·have := (k3 q); rw [e] at this; cases this
 ·have := (k4 q); rw [e] at this; cases this
theorem tN.put {h0 h F : aA} {nb : Nat} {bx : c6 → Option Nat → Option Nat → Option Nat → cB} {S : c6} {om og ov : Option Nat} (H : tN bx h0 nb S om og ov h) (x : bC) (v : Int) {b b2 : Nat} (hb : h b = none) (kE : h b2 = none) (hne : ¬ b2 = b)
  (f1 : F nb = some (bx (S.put x v) (some b) og (some b2))) (f2 : F b = some (.row 4 (rowsOf bC.c (S.code ++ [x])))) (f3 : F b2 = some (.row 1 (rowsOf (fun n => [I n]) (S.eZ ++ [v]))))
  (f4 : ∀ n, ¬ n = nb → ¬ n = b → ¬ n = b2 → ¬ some n = om → ¬ some n = ov → F n = h n) : ∃ g : aA, g.le F ∧ dJ bx h0 nb (S.put x v) g := by
 have a1 := (H.apart nb).1 rfl
 have a2 := (H.apart b).2.2.2 hb
 have a3 := (H.apart b2).2.2.2 kE
 have g1 : ∀ n, some n = om ∨ some n = ov → h0 n = none := fun n hn => H.fresh n (by rcases hn with hn | hn; exact .inr (.inl hn); exact .inr (.inr (.inr hn)))
 have g2 : h0 b = none := (H.upto b a2.1 a2.2.1 a2.2.2.1 a2.2.2.2).symm.trans hb
 have g3 : h0 b2 = none := (H.upto b2 a3.1 a3.2.1 a3.2.2.1 a3.2.2.2).symm.trans kE
 have get : ∀ n, ¬ some n = om → ¬ some n = ov → (fun n => if some n = om ∨ some n = ov then none else F n) n = F n := fun n h1 h2 => if_neg (by rintro (q | q); exact h1 q; exact h2 q)
 refine ⟨fun n => if some n = om ∨ some n = ov then none else F n, fun n => ?_, some b, og, some b2, ⟨?_, H.odd, ⟨by simp [rowsOf, c6.put], ?_⟩, ?_, ⟨by simp [rowsOf, c6.put], ?_⟩, fun n hn => ?_, fun n h1 h2 h3 h4 => ?_⟩⟩
 ·by_cases e : some n = om ∨ some n = ov
  ·exact .inl (if_pos e)
  ·exact .inr (if_neg e)
 ·exact (get nb a1.1 a1.2.2).trans f1
 ·exact (get b a2.2.1 a2.2.2.2).trans f2
 ·have hg := H.gds
  cases og with
  |none => exact hg
  |some k =>
   have ak := (H.apart k)
   have hk := hg.2
   refine ⟨hg.1, (get k (fun q => ak.2.1 q |>.1 rfl) (fun q => ak.2.2.1 rfl q)).trans ?_⟩
   rw [f4 k (fun q => (ak.1 q).2.1 rfl) (fun q => by rw [q, hb] at hk; cases hk) (fun q => by rw [q, kE] at hk; cases hk) (fun q => ak.2.1 q |>.1 rfl) (fun q => ak.2.2.1 rfl q)]
   exact hk
 ·exact (get b2 a3.2.1 a3.2.2.2).trans f3
 ·rcases hn with rfl | hn | hn | hn
  ·exact H.fresh _ (.inl rfl)
  ·obtain rfl := Option.some.inj hn; exact g2
  ·exact H.fresh n (.inr (.inr (.inl hn)))
  ·obtain rfl := Option.some.inj hn; exact g3
 ·have h2' : ¬ n = b := fun q => h2 (by rw [q])
  have h4' : ¬ n = b2 := fun q => h4 (by rw [q])
  by_cases e : some n = om ∨ some n = ov
  ·exact (if_pos e).trans (g1 n e).symm
  ·have e1 : ¬ some n = om := fun q => e (.inl q)
   have e2 : ¬ some n = ov := fun q => e (.inr q)
   exact ((get n e1 e2).trans (f4 n h1 h2' h4' e1 e2)).trans (H.upto n h1 e1 h3 e2)
@[go_sem] def aX4 : List Nat := [0, 1, 2, 4, 6]
@[go_sem] def bFP : List Nat := [4, 15, 22]
@[go_sem] def bFQ : Marks := fun id => match id with | 1 => ([6, 9, 13, 16, 20, 23], (.op 0 (.op 1 (.op 2 (.op 3 (.op 4 (.op 5 (.op 7 (.op 8 (.op 10 (.op 11 (.op 12 (.op 14 (.op 15 (.op 6 (.op 13 (.op 9 (.op 16 (.op 17 (.op 18 (.op 19 (.op 20 (.op 21 (.op 22 (.op 23 .nil)))))))))))))))))))))))), [(13, 9)]) | _ => ([], .nil, [])
theorem aHK {h0 h : aA} {nb : Nat} {p : aE} {inp : Int} {S : c6} {st : Nat} {c : Int} (H : jA h0 nb p inp S st c h) (x : bC) (v : Int) (hl : S.code.length = S.eZ.length) (hcap : S.eZ.length ≤ 1048576) :
  fF Tryz.prog 40 [.op nb 8 0 0, .agg x.c, I v] h fun r h' => r = I S.eZ.length ∧ jA h0 nb p inp (S.put x v) st c h' := by
 obtain ⟨om, og, ov, H⟩ := H
 have hb := H.box
 have hc := H.code
 have hv := H.eZ
 unfold dG at hb
 rw [bC.aR]
 cases om with
 |none =>
  have hc0 : S.code = [] := gZ.1 hc
  cases ov with
  |some v =>
   have nF : S.eZ = [] := List.eq_nil_of_length_eq_zero (by rw [← hl, hc0]; rfl)
   exact absurd (by rw [nF]; rfl) hv.1
  |none =>
   have nF : S.eZ = [] := gZ.1 hv
   refine gK 35 aX4 bFP bFQ mix Tryz.func40 rfl (by kernel_rfl) (by simp) ?_
   simp -dsimp -implicitDefEqProofs only [go_sem, ↓reduceIte, Tryz.f40, hb, iY]
   refine ⟨by decide, by decide, by decide, by decide, by decide, fun m hm => ?_⟩
   have dD : ¬ m = nb := fun e => by rw [e, hb] at hm; cases hm
   have cS : ¬ nb = m := Ne.symm dD
   have dH : (m = nb) = False := eq_false dD
   have dI : (nb = m) = False := eq_false cS
   refine ⟨by rw [aC _ _ _ _ cS, hb]; rfl, by decide, fun w ⟨hwm, hw⟩ => ?_⟩
   have oJ : ¬ w = nb := fun e => by rw [e, hb] at hw; cases hw
   have wU : ¬ nb = w := Ne.symm oJ
   have l6 : (w = nb) = False := eq_false oJ
   have l7 : (nb = w) = False := eq_false wU
   have vQ : ¬ w = m := hwm
   have aB0 : ¬ m = w := Ne.symm vQ
   have uD : (w = m) = False := eq_false vQ
   have uE : (m = w) = False := eq_false aB0
   try simp -dsimp -implicitDefEqProofs only [go_sem, ↓reduceIte, Tryz.f40, hb, dH, uE, dI, l7, uD, l6, aC]
   obtain ⟨g, hg, hR⟩ := H.put x v hm hw vQ (F := aT (aT (aT h m (.row 4 [x.c.map .v])) w (.row 1 [[.v (I v)]])) nb (dG p inp (S.put x v) (some m) og (some w) st c)) (aG _ _ _)
    (by rw [aC _ _ _ _ dD, aC _ _ _ _ aB0, aG, hc0]; rfl) (by rw [aC _ _ _ _ oJ, aG, nF]; rfl) (fun n h1 h2 h3 _ _ => by rw [aC _ _ _ _ h1, aC _ _ _ _ h3, aC _ _ _ _ h2])
   refine ⟨_, g, cI ?_, by rw [nF]; rfl, hR⟩
   rw [aM]
   unfold dG at hg
   simp only [c6.put, hc0, nF, bE, bC.aR] at hg
   exact hg
 |some m =>
  cases ov with
  |none =>
   have nF : S.eZ = [] := gZ.1 hv
   have hc0 : S.code = [] := List.eq_nil_of_length_eq_zero (by rw [hl, nF]; rfl)
   exact absurd (by rw [hc0]; rfl) hc.1
  |some w =>
   have hm := hc.2
   have hw := hv.2
   have dD : ¬ m = nb := fun e => by rw [e, hb] at hm; cases hm
   have cS : ¬ nb = m := Ne.symm dD
   have dH : (m = nb) = False := eq_false dD
   have dI : (nb = m) = False := eq_false cS
   have oJ : ¬ w = nb := fun e => by rw [e, hb] at hw; cases hw
   have wU : ¬ nb = w := Ne.symm oJ
   have l6 : (w = nb) = False := eq_false oJ
   have l7 : (nb = w) = False := eq_false wU
   have vQ : ¬ w = m := fun e => by rw [e, hm] at hw; cases hw
   have aB0 : ¬ m = w := Ne.symm vQ
   have uD : (w = m) = False := eq_false vQ
   have uE : (m = w) = False := eq_false aB0
   refine gK 35 aX4 bFP bFQ mix Tryz.func40 rfl (by kernel_rfl) (by simp) ?_
   simp -dsimp -implicitDefEqProofs only [go_sem, ↓reduceIte, Tryz.f40, hb, bE, hm, hw, dH, uE, dI, l7, uD, l6, aC]
   refine ⟨by decide, by decide, by decide, by decide, by decide, by rw [eV]; exact Nat.le_refl _, by omega, by omega, fun b k7 => ?_⟩
   have cY : ¬ b = nb := fun e => by rw [e, hb] at k7; cases k7
   have gU : ¬ nb = b := Ne.symm cY
   have gF : (b = nb) = False := eq_false cY
   have gG : (nb = b) = False := eq_false gU
   have fW : ¬ b = m := fun e => by rw [e, hm] at k7; cases k7
   have mV : ¬ m = b := Ne.symm fW
   have kT : (b = m) = False := eq_false fW
   have kU : (m = b) = False := eq_false mV
   have aHL : ¬ b = w := fun e => by rw [e, hw] at k7; cases k7
   have aX5 : ¬ w = b := Ne.symm aHL
   have aHM : (b = w) = False := eq_false aHL
   have aHN : (w = b) = False := eq_false aX5
   refine ⟨by rw [aC _ _ _ _ gU, aC _ _ _ _ cS, hb]; rfl, by decide, ?_⟩
   try simp -dsimp -implicitDefEqProofs only [go_sem, ↓reduceIte, Tryz.f40, hb, hw, dH, uE, kU, dI, l7, gG, uD, l6, aHN, kT, gF, aHM, aC]
   refine ⟨by rw [eV]; exact Nat.le_refl _, by omega, by omega, fun b2 ⟨a8Z, a80, kE⟩ => ?_⟩
   have wV : ¬ b2 = nb := fun e => by rw [e, hb] at kE; cases kE
   have aLJ : ¬ nb = b2 := Ne.symm wV
   have aFH : (b2 = nb) = False := eq_false wV
   have aFI : (nb = b2) = False := eq_false aLJ
   have aHO : ¬ b2 = m := a80
   have aQP : ¬ m = b2 := Ne.symm aHO
   have aLK : (b2 = m) = False := eq_false aHO
   have aLL : (m = b2) = False := eq_false aQP
   have aHP : ¬ b2 = w := fun e => by rw [e, hw] at kE; cases kE
   have aQQ : ¬ w = b2 := Ne.symm aHP
   have aLM : (b2 = w) = False := eq_false aHP
   have aLN : (w = b2) = False := eq_false aQQ
   have aAT : ¬ b2 = b := a8Z
   have aHQ : ¬ b = b2 := Ne.symm aAT
   have aLO : (b2 = b) = False := eq_false aAT
   have aLP : (b = b2) = False := eq_false aHQ
   simp -dsimp -implicitDefEqProofs only [go_sem, ↓reduceIte, Tryz.f40, hb, hw, dH, uE, kU, aLL, dI, l7, gG, aFI, uD, l6, aHN, aLN, kT, gF, aHM, aLP, aLK, aFH, aLM, aLO, aC]
   rw [List.take_of_length_le (by rw [eV]; exact Nat.le_refl _), List.take_of_length_le (by rw [eV]; exact Nat.le_refl _)]
   obtain ⟨g, hg, hR⟩ := H.put x v k7 kE aAT (F := aT (aT (aT (aT (aT h m .gone) b (.row 4 (rowsOf bC.c S.code ++ [x.c.map .v]))) w .gone) b2 (.row 1 (rowsOf (fun n => [I n]) S.eZ ++ [[.v (I v)]]))) nb (dG p inp (S.put x v) (some b) og (some b2) st c)) (aG _ _ _)
    (by rw [aC _ _ _ _ cY, aC _ _ _ _ aHQ, aC _ _ _ _ aHL, aG, lW]) (by rw [aC _ _ _ _ wV, aG, lW]; rfl)
    (fun n h1 h2 h3 h4 h5 => by rw [aC _ _ _ _ h1, aC _ _ _ _ h3, aC _ _ _ _ (fun q => h5 (by rw [q])), aC _ _ _ _ h2, aC _ _ _ _ (fun q => h4 (by rw [q]))])
   refine fun _ => ⟨_, g, cI ?_, ?_, hR⟩
   ·rw [aM]
    unfold dG at hg
    simp only [c6.put, bE, bC.aR, List.length_append, List.length_singleton] at hg
    exact hg
   ·rw [IntWalk.i64_in _ (by omega)]
    congr 1
    omega
theorem tN.set {h0 h : aA} {nb : Nat} {p : aE} {inp : Int} {S : c6} {st : Nat} {c : Int} {om og ov : Option Nat} (H : a51 h0 nb p inp S st c om og ov h) (st' : Nat) (c' : Int) : a51 h0 nb p inp S st' c' om og ov (aT h nb (dG p inp S om og ov st' c')) := by
 have a1 := (H.apart nb).1 rfl
 have hr : ∀ (o : Option Nat) (sz : Nat) (rows : List (List Cell)), ¬ some nb = o → aHI h sz rows o → aHI (aT h nb (dG p inp S om og ov st' c')) sz rows o := fun o sz rows hn ho => by
  cases o with
  |none => exact ho
  |some m => exact ⟨ho.1, (aC _ _ _ _ fun q => hn (by rw [q])).trans ho.2⟩
 exact ⟨aG _ _ _, aHJ _ _ _ _, hr _ _ _ a1.1 H.code, hr _ _ _ a1.2.1 H.gds, hr _ _ _ a1.2.2 H.eZ, H.fresh, fun n h1 h2 h3 h4 => (aC _ _ _ _ h1).trans (H.upto n h1 h2 h3 h4)⟩
theorem dJ.xT {h0 h : aA} {nb : Nat} {bx : c6 → Option Nat → Option Nat → Option Nat → cB} {S : c6} (H : dJ bx h0 nb S h) {m : Nat} {o : cB} (hm : h m = none) : dJ bx (aT h0 m o) nb S (aT h m o) := by
 obtain ⟨om, og, ov, H⟩ := H
 have a := (H.apart m).2.2.2 hm
 have hr : ∀ (q : Option Nat) (sz : Nat) (rows : List (List Cell)), ¬ some m = q → aHI h sz rows q → aHI (aT h m o) sz rows q := fun q sz rows hn ho => by
  cases q with
  |none => exact ho
  |some k => exact ⟨ho.1, (aC _ _ _ _ fun e => hn (by rw [e])).trans ho.2⟩
 refine ⟨om, og, ov, (aC _ _ _ _ fun e => a.1 e.symm).trans H.box, H.odd, hr _ _ _ a.2.1 H.code, hr _ _ _ a.2.2.1 H.gds, hr _ _ _ a.2.2.2 H.eZ, fun n hn => ?_, fun n h1 h2 h3 h4 => ?_⟩
 ·have hnm : ¬ n = m := fun e => by
   subst e
   rcases hn with hn | hn | hn | hn
   ·exact a.1 hn
   ·exact a.2.1 hn
   ·exact a.2.2.1 hn
   ·exact a.2.2.2 hn
  exact (aC _ _ _ _ hnm).trans (H.fresh n hn)
 ·by_cases e : n = m
  ·rw [e, aG, aG]
  ·rw [aC _ _ _ _ e, aC _ _ _ _ e]; exact H.upto n h1 h2 h3 h4
theorem dJ.base {h0 h : aA} {nb : Nat} {bx : c6 → Option Nat → Option Nat → Option Nat → cB} {S : c6} {m : Nat} {o : cB} (H : dJ bx (aT h0 m o) nb S h) (hm : h0 m = none) : ∃ g, h = aT g m o ∧ g m = none ∧ dJ bx h0 nb S g := by
 obtain ⟨om, og, ov, H⟩ := H
 have hne : ∀ n, (n = nb ∨ some n = om ∨ some n = og ∨ some n = ov) → ¬ n = m := fun n hn e => by
  have := H.fresh n hn
  rw [e, aG] at this; cases this
 have hmo : h m = some o := (H.upto m (fun e => hne m (.inl e) rfl) (fun e => hne m (.inr (.inl e)) rfl) (fun e => hne m (.inr (.inr (.inl e))) rfl) (fun e => hne m (.inr (.inr (.inr e))) rfl)).trans (aG _ _ _)
 have get : ∀ n, ¬ n = m → (fun n => if n = m then none else h n) n = h n := fun n hn => if_neg hn
 have hr : ∀ (q : Option Nat) (sz : Nat) (rows : List (List Cell)), (∀ n, some n = q → ¬ n = m) → aHI h sz rows q → aHI (fun n => if n = m then none else h n) sz rows q := fun q sz rows hn ho => by
  cases q with
  |none => exact ho
  |some k => exact ⟨ho.1, (get k (hn k rfl)).trans ho.2⟩
 refine ⟨fun n => if n = m then none else h n, ?_, if_pos rfl, om, og, ov, (get nb (hne nb (.inl rfl))).trans H.box, H.odd, hr _ _ _ (fun n e => hne n (.inr (.inl e))) H.code, hr _ _ _ (fun n e => hne n (.inr (.inr (.inl e)))) H.gds, hr _ _ _ (fun n e => hne n (.inr (.inr (.inr e)))) H.eZ, fun n hn => ?_, fun n h1 h2 h3 h4 => ?_⟩
 ·funext n
  by_cases e : n = m
  ·rw [e, aG, hmo]
  ·rw [aC _ _ _ _ e]; exact (get n e).symm
 ·have := H.fresh n hn
  rwa [aC _ _ _ _ (hne n hn)] at this
 ·by_cases e : n = m
  ·subst e; exact (if_pos rfl).trans hm.symm
  ·have := H.upto n h1 h2 h3 h4
   rw [aC _ _ _ _ e] at this
   exact (get n e).trans this
theorem dJ.none {h0 h : aA} {nb : Nat} {bx : c6 → Option Nat → Option Nat → Option Nat → cB} {S : c6} (H : dJ bx h0 nb S h) {m : Nat} (hm : h m = none) : h0 m = none := by
 obtain ⟨om, og, ov, H⟩ := H
 have a := (H.apart m).2.2.2 hm
 exact (H.upto m a.1 a.2.1 a.2.2.1 a.2.2.2).symm.trans hm
theorem tN.guard {h0 h F : aA} {nb : Nat} {bx : c6 → Option Nat → Option Nat → Option Nat → cB} {S : c6} {om og ov : Option Nat} (H : tN bx h0 nb S om og ov h) (x : eC) {b : Nat} (hb : h b = none)
  (f1 : F nb = some (bx (S.guard x) om (some b) ov)) (f2 : F b = some (.row 2 (rowsOf eC.c (S.guards ++ [x]))))
  (f4 : ∀ n, ¬ n = nb → ¬ n = b → ¬ some n = og → F n = h n) : ∃ g : aA, g.le F ∧ tN bx h0 nb (S.guard x) om (some b) ov g := by
 have a1 := (H.apart nb).1 rfl
 have a2 := (H.apart b).2.2.2 hb
 have g2 : h0 b = none := (H.upto b a2.1 a2.2.1 a2.2.2.1 a2.2.2.2).symm.trans hb
 have get : ∀ n, ¬ some n = og → (fun n => if some n = og then none else F n) n = F n := fun n h1 => if_neg h1
 have hr : ∀ (q : Option Nat) (sz : Nat) (rows : List (List Cell)), (∀ n, some n = q → ¬ n = nb ∧ ¬ n = b ∧ ¬ some n = og) → aHI h sz rows q → aHI (fun n => if some n = og then none else F n) sz rows q := fun q sz rows hn ho => by
  cases q with
  |none => exact ho
  |some k =>
   obtain ⟨e1, e2, e3⟩ := hn k rfl
   exact ⟨ho.1, ((get k e3).trans (f4 k e1 e2 e3)).trans ho.2⟩
 refine ⟨fun n => if some n = og then none else F n, fun n => ?_, ⟨?_, H.odd, hr _ _ _ (fun n e => ⟨fun q => ((H.apart n).1 q).1 e, fun q => a2.2.1 (by rw [← q]; exact e), ((H.apart n).2.1 e).1⟩) H.code, ⟨by simp [rowsOf, c6.guard], ?_⟩, hr _ _ _ (fun n e => ⟨fun q => ((H.apart n).1 q).2.2 e, fun q => a2.2.2.2 (by rw [← q]; exact e), fun q => (H.apart n).2.2.1 q e⟩) H.eZ, fun n hn => ?_, fun n h1 h2 h3 h4 => ?_⟩⟩
 ·by_cases e : some n = og
  ·exact .inl (if_pos e)
  ·exact .inr (if_neg e)
 ·exact (get nb a1.2.1).trans f1
 ·exact (get b a2.2.2.1).trans f2
 ·rcases hn with rfl | hn | hn | hn
  ·exact H.fresh _ (.inl rfl)
  ·exact H.fresh n (.inr (.inl hn))
  ·obtain rfl := Option.some.inj hn; exact g2
  ·exact H.fresh n (.inr (.inr (.inr hn)))
 ·have h3' : ¬ n = b := fun q => h3 (by rw [q])
  by_cases e : some n = og
  ·exact (if_pos e).trans (H.fresh n (.inr (.inr (.inl e)))).symm
  ·exact ((get n e).trans (f4 n h1 h3' e)).trans (H.upto n h1 h2 e h4)
set_option maxRecDepth 100000
open Go.Proofs
set_option linter.unusedVariables false
set_option linter.unusedSimpArgs false
@[go_sem] def a2I : List Nat := [0, 1, 4]
@[go_sem] def bFR : List Nat := []
@[go_sem] def bFS : Marks := fun _ => ([], .nil, [])
theorem yV (a b : Int) (ha : kI a) (hb : kI b) : gV Tryz.prog 152 [I a, I b] (I (a * b % 1000003)) := by
 have h1 := num_mul ha hb
 unfold kI at ha hb
 refine gD 11 a2I bFR bFS mix Tryz.func152 rfl (by kernel_rfl) (by simp) fun h => ?_
 simp -dsimp -implicitDefEqProofs only [go_sem, ↓reduceIte, Tryz.f152]
 first | refine aH.mk (iF a) ?_ | refine aF.mk (iF a) ?_ | refine aH.bY (iF a) ?_ | refine aF.mk (bQ.fJ (iF a)) ?_
 simp -dsimp -implicitDefEqProofs only [go_sem, ↓reduceIte, Tryz.f152]
 first | refine aH.mk (iF b) ?_ | refine aF.mk (iF b) ?_ | refine aH.bY (iF b) ?_ | refine aF.mk (bQ.fJ (iF b)) ?_
 simp -dsimp -implicitDefEqProofs only [go_sem, ↓reduceIte, Tryz.f152]
 rw [Int.emod_eq_of_lt ha.1 (by omega), Int.emod_eq_of_lt hb.1 (by omega), aQK h1.1 (by omega)]
@[go_sem] def a2J : List Nat := [0, 1, 2, 3, 6, 7, 9, 10, 15, 20, 25, 30]
@[go_sem] def bFT : List Nat := [3]
@[go_sem] def bFU : Marks := fun _ => ([], .nil, [])
theorem aX6 (x : bC) (a b : Int) (ha : kI a) (hb : kI b) (hk : x.lU = 3 ∨ x.lU = 4 ∨ x.lU = 5 ∨ x.lU = 6 ∨ x.lU = 7) : gV Tryz.prog 127 [.agg x.c, I a, I b] (.kL [I ((opV x.lU a b).getD 0), .bool (opV x.lU a b).isSome]) := by
 rw [bC.aR]
 have hni : kI (oE b) := num_inv b
 refine gD 35 a2J bFT bFU mix Tryz.func127 rfl (by kernel_rfl) (by simp) fun h => ?_
 simp -dsimp -implicitDefEqProofs only [go_sem, ↓reduceIte, Tryz.f127]
 refine ⟨fun q => ?_, fun q => ⟨fun q4 => ?_, fun q4 => ⟨fun q5 => ?_, fun q5 => ⟨fun q7 => ?_, fun q7 => ⟨fun qb => ?_, fun qb => ?_⟩⟩⟩⟩⟩
 ·first | refine aH.mk (aOI a b) ?_ | refine aF.mk (aOI a b) ?_ | refine aH.bY (aOI a b) ?_ | refine aF.mk (bQ.fJ (aOI a b)) ?_
  simp -dsimp -implicitDefEqProofs only [go_sem, ↓reduceIte, Tryz.f127]
  unfold opV; rw [if_pos q]; rfl
 ·first | refine aH.mk (minus a b) ?_ | refine aF.mk (minus a b) ?_ | refine aH.bY (minus a b) ?_ | refine aF.mk (bQ.fJ (minus a b)) ?_
  simp -dsimp -implicitDefEqProofs only [go_sem, ↓reduceIte, Tryz.f127]
  unfold opV; rw [if_neg q, if_pos q4]; rfl
 ·first | refine aH.mk (yV a b ha hb) ?_ | refine aF.mk (yV a b ha hb) ?_ | refine aH.bY (yV a b ha hb) ?_ | refine aF.mk (bQ.fJ (yV a b ha hb)) ?_
  simp -dsimp -implicitDefEqProofs only [go_sem, ↓reduceIte, Tryz.f127]
  unfold opV; rw [if_neg q, if_neg q4, if_pos q5]; rfl
 ·first | refine aH.mk (minus 0 a) ?_ | refine aF.mk (minus 0 a) ?_ | refine aH.bY (minus 0 a) ?_ | refine aF.mk (bQ.fJ (minus 0 a)) ?_
  simp -dsimp -implicitDefEqProofs only [go_sem, ↓reduceIte, Tryz.f127]
  unfold opV; rw [if_neg q, if_neg q4, if_neg q5, if_pos q7]; rfl
 ·unfold opV; rw [if_neg q, if_neg q4, if_neg q5, if_neg q7, if_pos qb]; rfl
 ·first | refine aH.mk (uB b) ?_ | refine aF.mk (uB b) ?_ | refine aH.bY (uB b) ?_ | refine aF.mk (bQ.fJ (uB b)) ?_
  simp -dsimp -implicitDefEqProofs only [go_sem, ↓reduceIte, Tryz.f127]
  first | refine aH.mk (yV a (oE b) ha hni) ?_ | refine aF.mk (yV a (oE b) ha hni) ?_ | refine aH.bY (yV a (oE b) ha hni) ?_ | refine aF.mk (bQ.fJ (yV a (oE b) ha hni)) ?_
  simp -dsimp -implicitDefEqProofs only [go_sem, ↓reduceIte, Tryz.f127]
  unfold opV; rw [if_neg q, if_neg q4, if_neg q5, if_neg q7, if_neg qb]; rfl
theorem Good.val {inp : Int} {S : c6} {t : Nat} (h : Good inp S t) (k : Int) : kI (S.val k) := h.a2E.get _
theorem tN.row {h0 h : aA} {nb : Nat} {bx : c6 → Option Nat → Option Nat → Option Nat → cB} {S : c6} {om og ov : Option Nat} (H : tN bx h0 nb S om og ov h) {k : Int} (hk : lG S k) : ∃ w, ov = some w ∧ h w = some (.row 1 (rowsOf (fun n => [I n]) S.eZ)) ∧ ¬ w = nb := by
 have hv := H.eZ
 cases ov with
 |none => have := gZ.1 hv; have h2 := hk.1; have h3 := hk.2; rw [this] at h3; simp at h3; omega
 |some w => exact ⟨w, rfl, hv.2, fun e => ((H.apart w).1 e).2.2 rfl⟩
theorem iZ {S : c6} {k : Int} (hk : lG S k) : (rowsOf (fun n => [I n]) S.eZ)[k.toNat]? = some [.v (I (S.val k))] := by
 have h1 := hk.1
 have h2 := hk.2
 rw [rowsOf, List.getElem?_map, List.getElem?_map, List.getElem?_eq_getElem (by omega), c6.val, List.getD_eq_getElem?_getD, List.getElem?_eq_getElem (by omega)]; rfl
@[go_sem] def a2K : List Nat := [0, 1, 2, 6, 7, 8, 9, 16, 43]
@[go_sem] def bFV : List Nat := []
@[go_sem] def bFW : Marks := fun id => match id with | 4 => ([0, 4, 6, 8, 12, 14, 16], (.op 1 (.op 2 (.op 3 (.op 5 (.op 9 (.op 10 (.op 11 (.op 13 (.op 0 (.op 4 (.op 6 (.op 7 (.op 8 (.op 12 (.op 14 (.op 15 (.op 16 (.op 17 (.op 18 (.op 19 (.op 20 (.op 21 (.op 22 .nil))))))))))))))))))))))), []) | _ => ([], .nil, [])
theorem pS {h0 h : aA} {nb : Nat} {p : aE} {inp : Int} {S : c6} {st : Nat} (H : jA h0 nb p inp S st 0 h) (hg : Good inp S st) (hst : st ≤ 3000) (k : Int) (vs : List Int) (hk : k = 3 ∨ k = 4 ∨ k = 5 ∨ k = 6 ∨ k = 7) (h1 : 1 ≤ vs.length) (h2 : ¬ k = 7 → 2 ≤ vs.length) (hv : ∀ x ∈ vs, lG S x) (hl : vs.length ≤ 1048576) :
  fF Tryz.prog 104 [.op nb 8 0 0, I k, ints vs] h fun r h' => ∃ j S' c', r = I j ∧ jA h0 nb p inp S' st c' h' ∧ jB (opR k vs S st) (j, S') st c' := by
 obtain ⟨om, og, ov, H⟩ := H
 have at_ : ∀ i, i < vs.length → lG S (vs.getD i 0) := fun i hi => by
  rw [List.getD_eq_getElem?_getD, List.getElem?_eq_getElem hi]
  exact hv _ (List.getElem_mem _)
 have i0 := at_ 0 (by omega)
 have iB : lG S (opB k vs) := by
  unfold opB
  split
  ·have a := i0.1; have b := i0.2; exact ⟨Int.le_refl _, by omega⟩
  ·exact at_ 1 (h2 (by assumption))
 obtain ⟨w, rfl, hw, dw⟩ := H.row i0
 have hb := H.box
 unfold dG at hb
 rw [bE] at hb
 have g0 : vs[Int.toNat 0]? = some (vs.getD 0 0) := cX (by omega)
 have r0 := iZ i0
 have rB := iZ iB
 have oJ : ¬ w = nb := dw
 have wU : ¬ nb = w := Ne.symm oJ
 have l6 : (w = nb) = False := eq_false oJ
 have l7 : (nb = w) = False := eq_false wU
 have hva := hg.val (vs.getD 0 0)
 have hvb := hg.val (opB k vs)
 have hop := aX6 ⟨k, vs.getD 0 0, opB k vs, 0⟩ _ _ hva hvb hk
 simp only [bC.aR] at hop
 have b0 := iB.1
 have b1 := i0.1
 have lw := eV (fun n => [I n]) S.eZ
 have i0b := i0.2
 have iBb := iB.2
 refine gK 51 a2K bFV bFW mix Tryz.func104 rfl (by kernel_rfl) (by simp) ?_
 simp -dsimp -implicitDefEqProofs only [go_sem, ↓reduceIte, Tryz.f104, hb, g0]
 refine ⟨by omega, fun n hn => ⟨fun h7 => ⟨by have := h2 h7; omega, ?_⟩, fun h7 => ?_⟩⟩
 ·have pR : ¬ n = nb := fun e => by rw [e, hb] at hn; cases hn
  have wO : ¬ nb = n := Ne.symm pR
  have qL : (n = nb) = False := eq_false pR
  have qM : (nb = n) = False := eq_false wO
  have aOX : ¬ n = w := fun e => by rw [e, hw] at hn; cases hn
  have aX7 : ¬ w = n := Ne.symm aOX
  have aOY : (n = w) = False := eq_false aOX
  have aOZ : (w = n) = False := eq_false aX7
  have eB : opB k vs = vs.getD 1 0 := if_neg h7
  have g1 : vs[Int.toNat 1]? = some (vs.getD 1 0) := cX (h2 h7)
  rw [eB] at rB hop b0 iBb
  simp -dsimp -implicitDefEqProofs only [go_sem, ↓reduceIte, Tryz.f104, g1, hb, hw, r0, rB, qL, aOY, qM, l7, aOZ, l6, aC]
  refine ⟨b1, i0b, b0, iBb, ?_⟩
  cases hv : opV k (S.val (vs.getD 0 0)) (S.val ((vs.getD 1 0))) with
  |none =>
   rw [hv] at hop
   first | refine aH.mk (hop) ?_ | refine aF.mk (hop) ?_ | refine aH.bY (hop) ?_ | refine aF.mk (bQ.fJ (hop)) ?_
   simp -dsimp -implicitDefEqProofs only [go_sem, ↓reduceIte, Tryz.f104]
   refine ⟨fun _ => ?_, fun q => absurd q (by simp)⟩
   simp -dsimp -implicitDefEqProofs only [go_sem, ↓reduceIte, Tryz.f104, hb, qL, aOY, qM, l7, aOZ, l6, aC]
   refine ⟨_, _, cI (?_ : (aT h nb (dG p inp S om og (some w) st 6)).le _), 0, S, 6, rfl, ⟨_, _, _, H.set st 6⟩, by unfold opR; rw [eB, hv]; exact eX _ _ (by decide)⟩
   unfold dG
   rw [bE]
   exact (iD (by repeat' (first | exact fS _ _ | refine iE (by simp only [dP, ↓reduceIte, eq_self, if_true, qL, qM]) ?_ | refine eY (by first | exact .inr (by assumption) | exact .inl (by simp)) ?_)))
  |some v =>
   rw [hv] at hop
   first | refine aH.mk (hop) ?_ | refine aF.mk (hop) ?_ | refine aH.bY (hop) ?_ | refine aF.mk (bQ.fJ (hop)) ?_
   simp -dsimp -implicitDefEqProofs only [go_sem, ↓reduceIte, Tryz.f104]
   refine ⟨fun q => absurd q (by simp), fun _ => ?_⟩
   simp only [aM]
   refine aH.eM (aHK (dJ.xT ⟨om, og, some w, H⟩ hn) ⟨k, vs.getD 0 0, (vs.getD 1 0), 0⟩ v hg.len (by have := hg.cap; omega)) ?_
   rintro r h' ⟨rfl, hR⟩
   obtain ⟨g, rfl, hgn, hR⟩ := hR.base (dJ.none ⟨om, og, some w, H⟩ hn)
   simp -dsimp -implicitDefEqProofs only [go_sem, ↓reduceIte, Tryz.f104]
   exact ⟨_, g, cI (aA.aP hgn (aA.le_refl _)), _, _, 0, rfl, hR, by unfold opR; rw [eB, hv]; exact kR _ _⟩
 ·have pR : ¬ n = nb := fun e => by rw [e, hb] at hn; cases hn
  have wO : ¬ nb = n := Ne.symm pR
  have qL : (n = nb) = False := eq_false pR
  have qM : (nb = n) = False := eq_false wO
  have aOX : ¬ n = w := fun e => by rw [e, hw] at hn; cases hn
  have aX7 : ¬ w = n := Ne.symm aOX
  have aOY : (n = w) = False := eq_false aOX
  have aOZ : (w = n) = False := eq_false aX7
  have eB : opB k vs = 0 := if_pos h7
  rw [eB] at rB hop b0 iBb
  simp -dsimp -implicitDefEqProofs only [go_sem, ↓reduceIte, Tryz.f104, hb, hw, r0, rB, qL, aOY, qM, l7, aOZ, l6, aC]
  refine ⟨b1, i0b, iBb, ?_⟩
  cases hv : opV k (S.val (vs.getD 0 0)) (S.val (0)) with
  |none =>
   rw [hv] at hop
   first | refine aH.mk (hop) ?_ | refine aF.mk (hop) ?_ | refine aH.bY (hop) ?_ | refine aF.mk (bQ.fJ (hop)) ?_
   simp -dsimp -implicitDefEqProofs only [go_sem, ↓reduceIte, Tryz.f104]
   refine ⟨fun _ => ?_, fun q => absurd q (by simp)⟩
   simp -dsimp -implicitDefEqProofs only [go_sem, ↓reduceIte, Tryz.f104, hb, qL, aOY, qM, l7, aOZ, l6, aC]
   refine ⟨_, _, cI (?_ : (aT h nb (dG p inp S om og (some w) st 6)).le _), 0, S, 6, rfl, ⟨_, _, _, H.set st 6⟩, by unfold opR; rw [eB, hv]; exact eX _ _ (by decide)⟩
   unfold dG
   rw [bE]
   exact (iD (by repeat' (first | exact fS _ _ | refine iE (by simp only [dP, ↓reduceIte, eq_self, if_true, qL, qM]) ?_ | refine eY (by first | exact .inr (by assumption) | exact .inl (by simp)) ?_)))
  |some v =>
   rw [hv] at hop
   first | refine aH.mk (hop) ?_ | refine aF.mk (hop) ?_ | refine aH.bY (hop) ?_ | refine aF.mk (bQ.fJ (hop)) ?_
   simp -dsimp -implicitDefEqProofs only [go_sem, ↓reduceIte, Tryz.f104]
   refine ⟨fun q => absurd q (by simp), fun _ => ?_⟩
   simp only [aM]
   refine aH.eM (aHK (dJ.xT ⟨om, og, some w, H⟩ hn) ⟨k, vs.getD 0 0, 0, 0⟩ v hg.len (by have := hg.cap; omega)) ?_
   rintro r h' ⟨rfl, hR⟩
   obtain ⟨g, rfl, hgn, hR⟩ := hR.base (dJ.none ⟨om, og, some w, H⟩ hn)
   simp -dsimp -implicitDefEqProofs only [go_sem, ↓reduceIte, Tryz.f104]
   exact ⟨_, g, cI (aA.aP hgn (aA.le_refl _)), _, _, 0, rfl, hR, by unfold opR; rw [eB, hv]; exact kR _ _⟩
set_option maxRecDepth 100000
open Go.Proofs
set_option linter.unusedVariables false
set_option linter.unusedSimpArgs false
theorem jB.ok {α : Type} {c : Int} {X : Out α} {v : α} {t : Nat} {c' : Int} (h : jB (oG c X) v t c') (hc : c' = 0) : c = 0 ∧ X = .ok (v, t) := by
 have h0 := h.bEL hc
 subst h0
 rw [dC] at h
 cases X with
 |ok q => obtain ⟨w, u⟩ := q; obtain ⟨_, rfl, rfl⟩ := h; exact ⟨rfl, rfl⟩
 |error d => exact absurd (h.1.symm.trans hc) h.2
def aDR (h0 : aA) (nb : Nat) (p : aE) (inp : Int) (st : Nat) (c : Int) (X : Out (Int × c6)) : aD → aA → Prop := fun r h' => ∃ k S' t c', r = I k ∧ jA h0 nb p inp S' t c' h' ∧ st ≤ t ∧ t ≤ 3000 ∧ jB (oG c X) (k, S') t c'
def a52 (h0 : aA) (nb : Nat) (p : aE) (inp : Int) (st : Nat) (c : Int) (n : Nat) (X : Out (List Int × c6)) : aD → aA → Prop := fun r h' => ∃ l S' t c', r = ints l ∧ jA h0 nb p inp S' t c' h' ∧ l.length = n ∧ st ≤ t ∧ t ≤ 3000 ∧ jB (oG c X) (l, S') t c'
@[go_sem] def qO : List Nat := [0, 1, 2, 4, 6, 7, 8, 9, 10, 15, 20, 32, 33, 42, 49, 62, 85, 100, 128, 130, 131, 150, 162]
@[go_sem] def aDS : List Nat := [4, 80, 116]
@[go_sem] def aDT : Marks := fun id => match id with | 22 => ([6, 13, 15, 16], (.op 0 (.op 1 (.op 2 (.op 3 (.op 4 (.op 5 (.op 7 (.op 8 (.op 9 (.op 10 (.op 11 (.op 12 (.op 6 (.op 13 (.op 14 (.op 15 (.op 16 (.op 17 .nil)))))))))))))))))), []) | 28 => ([5, 16], (.op 0 (.op 1 (.op 2 (.op 3 (.op 4 (.op 6 (.op 7 (.op 11 (.op 12 (.op 15 (.op 5 (.op 8 (.op 9 (.op 10 (.op 13 (.op 14 (.op 16 (.op 17 .nil)))))))))))))))))), []) | 33 => ([5, 12], (.op 0 (.op 1 (.op 2 (.op 3 (.op 4 (.op 6 (.op 7 (.op 11 (.op 5 (.op 8 (.op 9 (.op 10 (.op 12 (.op 13 .nil)))))))))))))), []) | _ => ([], .nil, [])
def vR (p : aE) (inp : Int) (n : Nat) : Prop := ∀ (h0 h : aA) (nb st : Nat) (c : Int) (e : aB) (env : List Int) (S : c6) (funcs : Int), jA h0 nb p inp S st c h → st ≤ 3000 → 3001 ≤ n + st → e.ok p funcs env.length → 0 ≤ funcs → funcs ≤ p.aI.length → (c = 0 → Good inp S st ∧ ∀ x ∈ env, lG S x) → env.length ≤ 412 + st →
 fF Tryz.prog 73 [.op nb 8 0 0, .agg e.c, ints env] h (aDR h0 nb p inp st c (dX p n st e env S))
theorem gS {p : aE} (hp : p.ok) {inp : Int} {n st : Nat} {S : c6} {l : List aB} {env : List Int} {funcs : Int} (hg : Good inp S st) (hst : st ≤ 3000) (henv : ∀ x ∈ env, lG S x) (hok : ∀ e ∈ l, e.ok p funcs env.length) (hf : funcs ≤ p.aI.length) : tM (yU inp S st l.length) (kJ (fun t e S => dX p n t e env S) l st S) :=
 kV l st S hg hst fun x hx u S' a b c => mW hp n u x env S' funcs (hok x hx) hf a c.2.2.2 fun y hy => (henv y hy).ext b
@[go_sem] def aX8 : List Nat := [0, 1, 2, 6, 7, 9, 11, 12, 13, 14]
@[go_sem] def bFX : List Nat := [10, 22]
@[go_sem] def bFY : Marks := fun _ => ([], .nil, [])
theorem r9 {p : aE} (hp : p.ok) {inp : Int} {n : Nat} (hv : vR p inp n) (h0 h : aA) (nb st : Nat) (c : Int) (l : List aB) (env : List Int) (S : c6) (funcs : Int) (hb : jA h0 nb p inp S st c h) (hst : st ≤ 3000) (hn : 3001 ≤ n + st)
  (hl : l.length ≤ 1048576) (hok : ∀ e ∈ l, e.ok p funcs env.length) (eH : 0 ≤ funcs) (hf : funcs ≤ p.aI.length) (hgo : c = 0 → Good inp S st ∧ ∀ x ∈ env, lG S x) (hel : env.length ≤ 412 + st) :
  fF Tryz.prog 41 [.op nb 8 0 0, eI 5 aB.c l, ints env] h (a52 h0 nb p inp st c l.length (kJ (fun t e S => dX p n t e env S) l st S)) := by
 refine gK 26 aX8 bFX bFY mix Tryz.func41 rfl (by kernel_rfl) (by simp) ?_
 simp -dsimp -implicitDefEqProofs only [go_sem, ↓reduceIte, Tryz.f41]
 refine ⟨Nat.zero_lt_one, fun _ => ?_⟩
 refine dA (keep := aX8) (ib := bFX) (mk := bFY) mix (by kernel_rfl) (fun x : Nat × List Int × Nat × Int × c6 × aA × Option Nat => [(0, .op nb 8 0 0), (2, ints env), (7, jM 1 x.2.1.length x.2.2.2.2.2.2), (11, eI 5 aB.c l), (12, I l.length), (13, I x.1)]) (fun x => cQ x.2.2.2.2.2.1 (.row 1 ((x.2.1.map fun n => [I n]).map (List.map .v))) x.2.2.2.2.2.2) (fun x => x.1 ≤ l.length ∧ x.2.1.length = x.1 ∧ st ≤ x.2.2.1 ∧ x.2.2.1 ≤ 3000 ∧ jB (oG c (kJ (fun t e S => dX p n t e env S) (l.take x.1) st S)) (x.2.1, x.2.2.2.2.1) x.2.2.1 x.2.2.2.1 ∧ jA h0 nb p inp x.2.2.2.2.1 x.2.2.1 x.2.2.2.1 x.2.2.2.2.2.1 ∧ gX x.2.2.2.2.2.1 x.2.1 x.2.2.2.2.2.2) (fun x => l.length - x.1) (0, [], st, c, S, h, none) ⟨by simp [dF, b6, jM], by simp only [aQ]; exact aA.le_refl _, Nat.zero_le _, rfl, Nat.le_refl _, hst, gR _ _ _, hb, rfl⟩ ?_
 rintro ⟨k, vs, t, c', S1, g, o⟩ ⟨hk, hvl, ht0, ht, ho, hR, hos⟩
 simp only at hk hvl ht0 ht ho hR hos ⊢
 rcases Nat.lt_or_ge k l.length with hlt | hge
 ·have ek : l[k]? = some l[k] := List.getElem?_eq_getElem hlt
  have hnext : ∀ (j : Int) (S2 : c6) (t2 : Nat) (c2 : Int), jB (oG c' (dX p n t l[k] env S1)) (j, S2) t2 c2 → jB (oG c (kJ (fun t e S => dX p n t e env S) (l.take (k + 1)) st S)) (vs ++ [j], S2) t2 c2 := fun j S2 t2 c2 h3 => by
   rw [List.take_succ_eq_append_getElem hlt, aDP]
   exact ho.dY (h3.dY (gR _ _ _))
  have bFZ : c' = 0 → Good inp S1 t ∧ ∀ x ∈ env, lG S1 x := fun hc => by
   obtain ⟨e1, e2⟩ := ho.ok hc
   obtain ⟨a1, a2⟩ := hgo e1
   obtain ⟨b1, b2, b3, b4⟩ := gS hp (l := l.take k) a1 hst a2 (fun x hx => hok x (List.mem_of_mem_take hx)) hf _ _ e2
   exact ⟨b1, fun x hx => (a2 x hx).ext b2⟩
  cases o with
  |none =>
   rw [bH] at hos
   subst hos
   simp -dsimp -implicitDefEqProofs only [go_sem, ↓reduceIte, Tryz.f41, bU, aQ, hlt, ek, aB.aR]
   intro m9 z9
   rw [aM]
   have hvk := hv (aT h0 m9 (.row 5 [l[k].c.map .v])) (aT g m9 (.row 5 [l[k].c.map .v])) nb t c' l[k] env S1 funcs (hR.xT z9) ht (by omega) (hok _ (List.getElem_mem _)) eH hf bFZ (by omega)
   rw [aB.aR] at hvk
   refine aH.eM hvk ?_
   rintro r h' ⟨j, S2, t2, c2, rfl, mQ, h1, h2, h3⟩
   obtain ⟨g2, rfl, hg2, mQ⟩ := mQ.base (hR.none z9)
   simp -dsimp -implicitDefEqProofs only [go_sem, ↓reduceIte, Tryz.f41]
   refine ⟨Nat.zero_lt_one, Nat.zero_lt_one, Nat.zero_lt_one, fun b ⟨hb9, kE⟩ => ?_⟩
   refine ⟨(k + 1, [j], t2, c2, S2, g2, some b), ⟨rfl, by rw [IntWalk.i64_in _ (by omega)]; rfl⟩, ?_, ⟨by omega, by simp only [List.length_nil] at hvl; subst hvl; rfl, Nat.le_trans ht0 h1, h2, hnext j S2 t2 c2 h3, mQ, kE⟩, by simp only; omega⟩
   simp only [aJ]
   exact (iD (by repeat' (first | exact fS _ _ | refine iE (by simp only [dP, ↓reduceIte, eq_self, if_true, hb9, hg2, List.map_cons, List.map_nil]) ?_ | refine eY (by first | exact .inr (by assumption) | exact .inl (by simp)) ?_)))
  |some m =>
   rw [aV] at hos
   simp -dsimp -implicitDefEqProofs only [go_sem, ↓reduceIte, Tryz.f41, aY, aJ, hlt, ek, aB.aR]
   intro m9 ⟨h9m, z9⟩
   rw [aM]
   have pP : ¬ m9 = m := h9m
   have aDL : ¬ m = m9 := Ne.symm pP
   have rP : (m9 = m) = False := eq_false pP
   have rQ : (m = m9) = False := eq_false aDL
   have z9' : (aT g m (.row 1 ((vs.map fun n => [I n]).map (List.map .v)))) m9 = none := by rw [aC _ _ _ _ pP]; exact z9
   have hRo := hR.xT (o := .row 1 ((vs.map fun n => [I n]).map (List.map .v))) hos
   have hvk := hv _ _ nb t c' l[k] env S1 funcs (hRo.xT (o := .row 5 [l[k].c.map .v]) z9') ht (by omega) (hok _ (List.getElem_mem _)) eH hf bFZ (by omega)
   rw [aB.aR] at hvk
   refine aH.eM hvk ?_
   rintro r h' ⟨j, S2, t2, c2, rfl, mQ, h1, h2, h3⟩
   obtain ⟨g1, rfl, j9, mQ⟩ := mQ.base (hRo.none z9')
   obtain ⟨g2, rfl, hg2, mQ⟩ := mQ.base (hR.none hos)
   rw [aC _ _ _ _ pP] at j9
   simp -dsimp -implicitDefEqProofs only [go_sem, ↓reduceIte, Tryz.f41, aC, rQ, rP]
   refine ⟨Nat.zero_lt_one, Nat.zero_lt_one, Nat.zero_lt_one, Nat.le_refl _, by omega, by omega, fun b ⟨hb9, hbm, kE⟩ => ?_⟩
   have fW : ¬ b = m := hbm
   have mV : ¬ m = b := Ne.symm fW
   have kT : (b = m) = False := eq_false fW
   have kU : (m = b) = False := eq_false mV
   have uV : ¬ b = m9 := hb9
   have aQM : ¬ m9 = b := Ne.symm uV
   have aG9 : (b = m9) = False := eq_false uV
   have aHA : (m9 = b) = False := eq_false aQM
   refine ⟨(k + 1, vs ++ [j], t2, c2, S2, g2, some b), ⟨by rw [aY, List.length_append]; rfl, by rw [IntWalk.i64_in _ (by omega)]; rfl⟩, ?_, ⟨by omega, by rw [List.length_append, hvl]; rfl, Nat.le_trans ht0 h1, h2, hnext j S2 t2 c2 h3, mQ, kE⟩, by simp only; omega⟩
   simp only [aJ]
   rw [← fO]
   exact (iD (by repeat' (first | exact fS _ _ | refine iE (by simp only [dP, ↓reduceIte, eq_self, if_true, kT, aG9, kU, rQ, aHA, rP]) ?_ | refine eY (by first | exact .inr (by assumption) | exact .inl (by simp)) ?_)))
 ·have hk' : k = l.length := by omega
  subst hk'
  rw [List.take_length] at ho
  cases o with
  |none =>
   rw [bH] at hos
   subst hos
   simp -dsimp -implicitDefEqProofs only [go_sem, ↓reduceIte, Tryz.f41, bU, aQ, Nat.lt_irrefl]
   exact ⟨ints [], _, Shift.of (Sub.loose _ _ _) (aA.le_refl _), [], S1, t, c', rfl, hR, hvl, ht0, ht, ho⟩
  |some m =>
   rw [aV] at hos
   simp -dsimp -implicitDefEqProofs only [go_sem, ↓reduceIte, Tryz.f41, aY, aJ, Nat.lt_irrefl]
   exact ⟨ints vs, g, fQ vs hos (aA.le_refl _) rfl, vs, S1, t, c', rfl, hR, hvl, ht0, ht, ho⟩
set_option maxRecDepth 100000
open Go.Proofs
set_option linter.unusedVariables false
set_option linter.unusedSimpArgs false
theorem aYA {p : aE} {inp : Int} {n : Nat} {h0 h : aA} {nb st : Nat} {c : Int} {e : aB} {env : List Int} {S : c6} (hR : jA h0 nb p inp S st c h) (hst : st ≤ 3000) (hs : ¬ c = 0 ∨ st = 3000) :
  fF Tryz.prog 73 [.op nb 8 0 0, .agg e.c, ints env] h (aDR h0 nb p inp st c (dX p (n + 1) st e env S)) := by
 obtain ⟨om, og, ov, H⟩ := hR
 have hb := H.box
 unfold dG at hb
 rw [aB.aR]
 refine gK 190 qO aDS aDT mix Tryz.func73 rfl (by kernel_rfl) (by simp) ?_
 simp -dsimp -implicitDefEqProofs only [go_sem, ↓reduceIte, Tryz.f73, hb]
 refine ⟨fun hc => ?_, fun hc => ?_⟩
 ·exact ⟨_, _, bD _ _, 0, S, st, c, rfl, ⟨_, _, _, H⟩, Nat.le_refl _, hst, by rw [iG _ hc]; exact eX _ _ hc⟩
 ·subst hc
  have h3 : st = 3000 := by rcases hs with hs | hs; exact absurd rfl hs; exact hs
  subst h3
  try simp -dsimp -implicitDefEqProofs only [go_sem, ↓reduceIte, Tryz.f73, hb]
  refine ⟨fun _ => ?_, fun q => absurd q (by simp)⟩
  refine ⟨_, _, bD _ _, 0, S, 3000, 7, rfl, ⟨_, _, _, H.set 3000 7⟩, Nat.le_refl _, hst, ?_⟩
  rw [dC, dX, if_pos rfl]
  exact eX _ _ (by decide)
@[go_sem] def a2L : List Nat := [0, 2]
@[go_sem] def bF1 : List Nat := []
@[go_sem] def bF2 : Marks := fun _ => ([], .nil, [])
theorem aS7 (l : List Int) (hl : l.length ≤ 1048576) : gV Tryz.prog 103 [ints l] (.sl 1 (l.map fun n => [I n]) true) := by
 refine gD 9 a2L bF1 bF2 mix Tryz.func103 rfl (by kernel_rfl) (by simp) fun h => ?_
 simp -dsimp -implicitDefEqProofs only [go_sem, ↓reduceIte, Tryz.f103]
 repeat' (with_reducible first | intro _ | refine And.intro ?_ ?_)
 all_goals try omega
 rw [List.take_of_length_le (by rw [List.length_map]; exact Nat.le_refl _)]
theorem bF3 {p : aE} (hp : p.ok) {inp : Int} {n : Nat} (hv : vR p inp n) {h0 h : aA} {nb st : Nat} {e : aB} {env : List Int} {S : c6} {funcs : Int} (hR : jA h0 nb p inp S st 0 h) (hst : st < 3000) (hn : 3001 ≤ n + 1 + st)
  (hok : e.ok p funcs env.length) (eH : 0 ≤ funcs) (hf : funcs ≤ p.aI.length) (hg : Good inp S st) (henv : ∀ x ∈ env, lG S x) (hel : env.length ≤ 412 + st) (hk : e.aO = 1) :
  fF Tryz.prog 73 [.op nb 8 0 0, .agg e.c, ints env] h (aDR h0 nb p inp st 0 (dX p (n + 1) st e env S)) := by
 obtain ⟨om, og, ov, H⟩ := hR
 rw [aB.aR]
 have hb := H.box
 unfold dG at hb
 have e3 : ((st : Int) = 3000) = False := eq_false (by omega)
 have ew : IntKind.i64.wrap ((st : Int) + 1) = ((st + 1 : Nat) : Int) := by rw [IntWalk.i64_in _ (by omega)]; rfl
 have hnode := (aB.cR _ _ _ _).1 hok
 have h3 : ¬ st = 3000 := by omega
 have hcap := hg.cap
 have hgcap := hg.oY
 have j9 := hg.lV (Nat.le_succ st)
 have hR1 : jA h0 nb p inp S (st + 1) 0 (aT h nb (dG p inp S om og ov (st + 1) 0)) := ⟨_, _, _, H.set (st + 1) 0⟩
 refine gK 190 qO aDS aDT mix Tryz.func73 rfl (by kernel_rfl) (by simp) ?_
 simp -dsimp -implicitDefEqProofs only [go_sem, ↓reduceIte, Tryz.f73, hb, e3, ew, hk]
 refine aH.eM (aHK hR1 ⟨2, 0, 0, e.aX⟩ e.aX hg.len (by omega)) ?_
 rintro r h' ⟨rfl, mQ⟩
 simp -dsimp -implicitDefEqProofs only [go_sem, ↓reduceIte, Tryz.f73]
 refine ⟨_, _, bD _ _, _, _, st + 1, 0, rfl, mQ, Nat.le_succ _, hst, ?_⟩
 rw [dC, aHE h3 hk]
 exact kR _ _
theorem bF4 {p : aE} (hp : p.ok) {inp : Int} {n : Nat} (hv : vR p inp n) {h0 h : aA} {nb st : Nat} {e : aB} {env : List Int} {S : c6} {funcs : Int} (hR : jA h0 nb p inp S st 0 h) (hst : st < 3000) (hn : 3001 ≤ n + 1 + st)
  (hok : e.ok p funcs env.length) (eH : 0 ≤ funcs) (hf : funcs ≤ p.aI.length) (hg : Good inp S st) (henv : ∀ x ∈ env, lG S x) (hel : env.length ≤ 412 + st) (hk : e.aO = 2) :
  fF Tryz.prog 73 [.op nb 8 0 0, .agg e.c, ints env] h (aDR h0 nb p inp st 0 (dX p (n + 1) st e env S)) := by
 obtain ⟨om, og, ov, H⟩ := hR
 rw [aB.aR]
 have hb := H.box
 unfold dG at hb
 have e3 : ((st : Int) = 3000) = False := eq_false (by omega)
 have ew : IntKind.i64.wrap ((st : Int) + 1) = ((st + 1 : Nat) : Int) := by rw [IntWalk.i64_in _ (by omega)]; rfl
 have hnode := (aB.cR _ _ _ _).1 hok
 have h3 : ¬ st = 3000 := by omega
 have hcap := hg.cap
 have hgcap := hg.oY
 have j9 := hg.lV (Nat.le_succ st)
 have hR1 : jA h0 nb p inp S (st + 1) 0 (aT h nb (dG p inp S om og ov (st + 1) 0)) := ⟨_, _, _, H.set (st + 1) 0⟩
 have hnum := ((dQ (by omega)).1 hnode.1).2.2.2.2.1 hk
 have hlt : e.aX.toNat < env.length := by omega
 refine gK 190 qO aDS aDT mix Tryz.func73 rfl (by kernel_rfl) (by simp) ?_
 simp -dsimp -implicitDefEqProofs only [go_sem, ↓reduceIte, Tryz.f73, hb, e3, ew, hk, cX hlt]
 refine ⟨hnum.1, by omega, _, _, bD _ _, _, S, st + 1, 0, rfl, hR1, Nat.le_succ _, hst, ?_⟩
 rw [dC, aHF h3 hk]
 exact kR _ _
theorem bF5 {p : aE} (hp : p.ok) {inp : Int} {n : Nat} (hv : vR p inp n) {h0 h : aA} {nb st : Nat} {e : aB} {env : List Int} {S : c6} {funcs : Int} (hR : jA h0 nb p inp S st 0 h) (hst : st < 3000) (hn : 3001 ≤ n + 1 + st)
  (hok : e.ok p funcs env.length) (eH : 0 ≤ funcs) (hf : funcs ≤ p.aI.length) (hg : Good inp S st) (henv : ∀ x ∈ env, lG S x) (hel : env.length ≤ 412 + st) (hk : e.aO = 9) :
  fF Tryz.prog 73 [.op nb 8 0 0, .agg e.c, ints env] h (aDR h0 nb p inp st 0 (dX p (n + 1) st e env S)) := by
 obtain ⟨om, og, ov, H⟩ := hR
 rw [aB.aR]
 have hb := H.box
 unfold dG at hb
 have e3 : ((st : Int) = 3000) = False := eq_false (by omega)
 have ew : IntKind.i64.wrap ((st : Int) + 1) = ((st + 1 : Nat) : Int) := by rw [IntWalk.i64_in _ (by omega)]; rfl
 have hnode := (aB.cR _ _ _ _).1 hok
 have h3 : ¬ st = 3000 := by omega
 have hcap := hg.cap
 have hgcap := hg.oY
 have j9 := hg.lV (Nat.le_succ st)
 have hR1 : jA h0 nb p inp S (st + 1) 0 (aT h nb (dG p inp S om og ov (st + 1) 0)) := ⟨_, _, _, H.set (st + 1) 0⟩
 have hlen := dB hok (by omega)
 rw [hk, show dN 9 = 2 from rfl] at hlen
 have g0 : e.aK[Int.toNat 0]? = some (e.mJ 0) := aB.gE (by omega)
 have g1 : e.aK[Int.toNat 1]? = some (e.mJ 1) := aB.gE (by omega)
 have o0 := aB.eP hok (i := 0) (by omega)
 have o1 := aB.eP hok (i := 1) (by omega)
 rw [gT (by omega)] at o0
 rw [hk, show iL 9 1 (env.length : Int) = env.length + 1 from rfl] at o1
 refine gK 190 qO aDS aDT mix Tryz.func73 rfl (by kernel_rfl) (by simp) ?_
 simp -dsimp -implicitDefEqProofs only [go_sem, ↓reduceIte, Tryz.f73, hb, e3, ew, hk, g0, g1, aB.ld5]
 refine ⟨by omega, by omega, ?_⟩
 first | refine aH.mk (aS7 env (by omega)) ?_ | refine aF.mk (aS7 env (by omega)) ?_ | refine aH.bY (aS7 env (by omega)) ?_ | refine aF.mk (bQ.fJ (aS7 env (by omega))) ?_
 simp -dsimp -implicitDefEqProofs only [go_sem, ↓reduceIte, Tryz.f73]
 refine aH.eM (hv _ _ nb (st + 1) 0 (e.mJ 0) env S funcs hR1 (by omega) (by omega) o0 eH hf (fun _ => ⟨j9, henv⟩) (by omega)) ?_
 rintro r h' ⟨k1, S1, t1, c1, rfl, mQ, a1, a2, a3⟩
 simp -dsimp -implicitDefEqProofs only [go_sem, ↓reduceIte, Tryz.f73]
 refine ⟨Nat.zero_lt_one, Nat.zero_lt_one, Nat.zero_lt_one, by omega, by omega, fun m hm => ?_⟩
 have cS : ¬ nb = m := fun e => by obtain ⟨_, _, _, H2⟩ := mQ; have := H2.box; rw [e, hm] at this; cases this
 have dD : ¬ m = nb := Ne.symm cS
 have dI : (nb = m) = False := eq_false cS
 have dH : (m = nb) = False := eq_false dD
 have hrow : env.map (fun n => [I n]) ++ [[aD.int .i64 k1]] = (env ++ [k1]).map fun n => [I n] := by rw [List.map_append]; rfl
 rw [hrow]
 refine aH.aSM cS (by rw [List.length_map, List.length_append]; rfl) hm ?_
 refine fF.mono (hv _ _ nb t1 c1 (e.mJ 1) (env ++ [k1]) S1 funcs (mQ.xT (o := .gone) hm) (by omega) (by omega) (by rw [List.length_append]; exact o1) eH hf (fun hc => ?_) (by rw [List.length_append]; show env.length + 1 ≤ _; omega)) ?_
 ·obtain ⟨_, e2⟩ := a3.ok hc
  obtain ⟨b1, b2, b3, b4⟩ := mW hp n (st + 1) (e.mJ 0) env S funcs o0 hf j9 (by omega) henv _ _ e2
  refine ⟨b1, fun x hx => ?_⟩
  rcases List.mem_append.1 hx with hx | hx
  ·exact (henv x hx).ext b2
  ·rw [List.mem_singleton.1 hx]; exact b3
 rintro r h2 ⟨k2, S2, t2, c2, rfl, p8, b1, b2, b3⟩
 obtain ⟨g, rfl, hgm, p8⟩ := p8.base (mQ.none hm)
 simp -dsimp -implicitDefEqProofs only [go_sem, ↓reduceIte, Tryz.f73]
 refine ⟨_, g, cI (aA.aP hgm (aA.le_refl _)), k2, S2, t2, c2, rfl, p8, by omega, b2, ?_⟩
 rw [aHG h3 hk]
 exact a3.dY b3
theorem bF6 {p : aE} (hp : p.ok) {inp : Int} {n : Nat} (hv : vR p inp n) {h0 h : aA} {nb st : Nat} {e : aB} {env : List Int} {S : c6} {funcs : Int} (hR : jA h0 nb p inp S st 0 h) (hst : st < 3000) (hn : 3001 ≤ n + 1 + st)
  (hok : e.ok p funcs env.length) (eH : 0 ≤ funcs) (hf : funcs ≤ p.aI.length) (hg : Good inp S st) (henv : ∀ x ∈ env, lG S x) (hel : env.length ≤ 412 + st) (hk : e.aO = 8) :
  fF Tryz.prog 73 [.op nb 8 0 0, .agg e.c, ints env] h (aDR h0 nb p inp st 0 (dX p (n + 1) st e env S)) := by
 obtain ⟨om, og, ov, H⟩ := hR
 rw [aB.aR]
 have hb := H.box
 unfold dG at hb
 have e3 : ((st : Int) = 3000) = False := eq_false (by omega)
 have ew : IntKind.i64.wrap ((st : Int) + 1) = ((st + 1 : Nat) : Int) := by rw [IntWalk.i64_in _ (by omega)]; rfl
 have hnode := (aB.cR _ _ _ _).1 hok
 have h3 : ¬ st = 3000 := by omega
 have hcap := hg.cap
 have hgcap := hg.oY
 have j9 := hg.lV (Nat.le_succ st)
 have hR1 : jA h0 nb p inp S (st + 1) 0 (aT h nb (dG p inp S om og ov (st + 1) 0)) := ⟨_, _, _, H.set (st + 1) 0⟩
 have hlen := dB hok (by omega)
 rw [hk, show dN 8 = 3 from rfl] at hlen
 have g0 : e.aK[Int.toNat 0]? = some (e.mJ 0) := aB.gE (by omega)
 have g1 : e.aK[Int.toNat 1]? = some (e.mJ 1) := aB.gE (by omega)
 have g2 : e.aK[Int.toNat 2]? = some (e.mJ 2) := aB.gE (by omega)
 have o0 := aB.eP hok (i := 0) (by omega)
 have o1 := aB.eP hok (i := 1) (by omega)
 have o2 := aB.eP hok (i := 2) (by omega)
 rw [gT (by omega)] at o0 o1 o2
 refine gK 190 qO aDS aDT mix Tryz.func73 rfl (by kernel_rfl) (by simp) ?_
 simp -dsimp -implicitDefEqProofs only [go_sem, ↓reduceIte, Tryz.f73, hb, e3, ew, hk, g0, aB.ld5]
 refine ⟨by omega, ?_⟩
 refine aH.eM (hv _ _ nb (st + 1) 0 (e.mJ 0) env S funcs hR1 (by omega) (by omega) o0 eH hf (fun _ => ⟨j9, henv⟩) (by omega)) ?_
 rintro r h' ⟨k1, S1, t1, c1, rfl, ⟨om1, og1, ov1, H1⟩, a1, a2, a3⟩
 have k7 := H1.box
 unfold dG at k7
 simp -dsimp -implicitDefEqProofs only [go_sem, ↓reduceIte, Tryz.f73, k7]
 refine ⟨fun hc => ?_, fun hc => ?_⟩
 ·refine ⟨_, _, bD _ _, 0, S1, t1, c1, rfl, ⟨_, _, _, H1⟩, by omega, a2, ?_⟩
  rw [wR h3 hk]
  exact a3.dY (by rw [iG _ hc]; exact eX _ _ hc)
 subst hc
 obtain ⟨_, e2⟩ := a3.ok rfl
 obtain ⟨q1, q2, q3, q4⟩ := mW hp n (st + 1) (e.mJ 0) env S funcs o0 hf j9 (by omega) henv _ _ e2
 unfold l5 at q4
 simp only at q1 q2 q3 q4
 obtain ⟨w, rfl, hw, dw⟩ := H1.row q3
 have rk := iZ q3
 have k0 := q3.1
 have k2 := q3.2
 have lw := eV (fun n => [I n]) S1.eZ
 have hgc := q1.oY
 rw [bE] at k7
 try simp -dsimp -implicitDefEqProofs only [go_sem, ↓reduceIte, Tryz.f73, k7, hw, rk, bE]
 refine ⟨k0, by omega, ?_⟩
 have hgd := H1.gds
 cases og1 with
 |none =>
  have hg0 : S1.guards = [] := gZ.1 hgd
  rw [iY]
  simp -dsimp -implicitDefEqProofs only [go_sem, ↓reduceIte, Tryz.f73, k7]
  refine ⟨by decide, by decide, by decide, fun b kE => ?_⟩
  have cY : ¬ b = nb := fun e => by rw [e, k7] at kE; cases kE
  have gU : ¬ nb = b := Ne.symm cY
  have gF : (b = nb) = False := eq_false cY
  have gG : (nb = b) = False := eq_false gU
  simp -dsimp -implicitDefEqProofs only [go_sem, ↓reduceIte, Tryz.f73, k7, gF, gG, aC, g1, g2, aB.ld5]
  refine ⟨fun hz => ⟨by omega, ?_⟩, fun hz => ⟨by omega, ?_⟩⟩
  ·rw [decide_eq_true hz]
   obtain ⟨g, hgl, hG⟩ := H1.guard ⟨k1, true⟩ kE (F := aT (aT h' b (.row 2 [[.v (I k1), .v (.bool true)]])) nb (dG p inp (S1.guard ⟨k1, true⟩) om1 (some b) (some w) t1 0)) (aG _ _ _) (by rw [aC _ _ _ _ cY, aG, hg0]; rfl) (fun n h1 h2 _ => by rw [aC _ _ _ _ h1, aC _ _ _ _ h2])
   unfold dG at hgl
   simp only [c6.guard, hg0, bE, List.nil_append, List.length_singleton] at hgl
   refine aH.wk (aA.j7 hgl) ?_
   have hgG := q1.guard (b := true) q3 (by omega)
   have heG := q2.trans (S1.lS ⟨k1, true⟩)
   refine aH.eM (hv h0 g nb t1 0 (e.mJ 1) env (S1.guard ⟨k1, true⟩) funcs ⟨_, _, _, hG⟩ (by omega) (by omega) o1 eH hf (fun _ => ⟨hgG, fun x hx => (henv x hx).ext heG⟩) (by omega)) ?_
   rintro r h2 ⟨k2, S2, t2, c2, rfl, p8, b1, b2, b3⟩
   simp -dsimp -implicitDefEqProofs only [go_sem, ↓reduceIte, Tryz.f73]
   refine ⟨_, _, bD _ _, k2, S2, t2, c2, rfl, p8, by omega, b2, ?_⟩
   rw [wR h3 hk]
   refine a3.dY ?_
   rw [if_pos hz]
   exact b3
  ·rw [decide_eq_false hz]
   obtain ⟨g, hgl, hG⟩ := H1.guard ⟨k1, false⟩ kE (F := aT (aT h' b (.row 2 [[.v (I k1), .v (.bool false)]])) nb (dG p inp (S1.guard ⟨k1, false⟩) om1 (some b) (some w) t1 0)) (aG _ _ _) (by rw [aC _ _ _ _ cY, aG, hg0]; rfl) (fun n h1 h2 _ => by rw [aC _ _ _ _ h1, aC _ _ _ _ h2])
   unfold dG at hgl
   simp only [c6.guard, hg0, bE, List.nil_append, List.length_singleton] at hgl
   refine aH.wk (aA.j7 hgl) ?_
   have hgG := q1.guard (b := false) q3 (by omega)
   have heG := q2.trans (S1.lS ⟨k1, false⟩)
   refine aH.eM (hv h0 g nb t1 0 (e.mJ 2) env (S1.guard ⟨k1, false⟩) funcs ⟨_, _, _, hG⟩ (by omega) (by omega) o2 eH hf (fun _ => ⟨hgG, fun x hx => (henv x hx).ext heG⟩) (by omega)) ?_
   rintro r h2 ⟨k2, S2, t2, c2, rfl, p8, b1, b2, b3⟩
   simp -dsimp -implicitDefEqProofs only [go_sem, ↓reduceIte, Tryz.f73]
   refine ⟨_, _, bD _ _, k2, S2, t2, c2, rfl, p8, by omega, b2, ?_⟩
   rw [wR h3 hk]
   refine a3.dY ?_
   rw [if_neg hz]
   exact b3
 |some gm =>
  have hgm := hgd.2
  have aB2 : ¬ gm = nb := fun e => by rw [e, k7] at hgm; cases hgm
  have aLQ : ¬ nb = gm := Ne.symm aB2
  have aLR : (gm = nb) = False := eq_false aB2
  have aLS : (nb = gm) = False := eq_false aLQ
  rw [bE]
  simp -dsimp -implicitDefEqProofs only [go_sem, ↓reduceIte, Tryz.f73, k7, hgm, eV]
  refine ⟨by decide, by decide, by decide, Nat.le_refl _, by omega, by omega, fun b kE => ?_⟩
  have cY : ¬ b = nb := fun e => by rw [e, k7] at kE; cases kE
  have gU : ¬ nb = b := Ne.symm cY
  have gF : (b = nb) = False := eq_false cY
  have gG : (nb = b) = False := eq_false gU
  have aHR : ¬ b = gm := fun e => by rw [e, hgm] at kE; cases kE
  have aQR : ¬ gm = b := Ne.symm aHR
  have aQS : (b = gm) = False := eq_false aHR
  have aQT : (gm = b) = False := eq_false aQR
  simp -dsimp -implicitDefEqProofs only [go_sem, ↓reduceIte, Tryz.f73, k7, gF, aQS, gG, aLS, aQT, aLR, aC, g1, g2, aB.ld5]
  refine ⟨fun hz => ⟨by omega, ?_⟩, fun hz => ⟨by omega, ?_⟩⟩
  ·rw [decide_eq_true hz, List.take_of_length_le (by rw [eV]; exact Nat.le_refl _)]
   obtain ⟨g, hgl, hG⟩ := H1.guard ⟨k1, true⟩ kE (F := aT (aT (aT h' gm .gone) b (.row 2 (rowsOf eC.c S1.guards ++ [[.v (I k1), .v (.bool true)]]))) nb (dG p inp (S1.guard ⟨k1, true⟩) om1 (some b) (some w) t1 0)) (aG _ _ _) (by rw [aC _ _ _ _ cY, aG, lW]; rfl) (fun n h1 h2 h3 => by rw [aC _ _ _ _ h1, aC _ _ _ _ h2, aC _ _ _ _ (fun q => h3 (by rw [q]))])
   unfold dG at hgl
   simp only [c6.guard, bE, List.length_append, List.length_singleton] at hgl
   refine aH.wk (aA.j7 hgl) ?_
   have hgG := q1.guard (b := true) q3 (by omega)
   have heG := q2.trans (S1.lS ⟨k1, true⟩)
   refine aH.eM (hv h0 g nb t1 0 (e.mJ 1) env (S1.guard ⟨k1, true⟩) funcs ⟨_, _, _, hG⟩ (by omega) (by omega) o1 eH hf (fun _ => ⟨hgG, fun x hx => (henv x hx).ext heG⟩) (by omega)) ?_
   rintro r h2 ⟨k2, S2, t2, c2, rfl, p8, b1, b2, b3⟩
   simp -dsimp -implicitDefEqProofs only [go_sem, ↓reduceIte, Tryz.f73]
   refine ⟨_, _, bD _ _, k2, S2, t2, c2, rfl, p8, by omega, b2, ?_⟩
   rw [wR h3 hk]
   refine a3.dY ?_
   rw [if_pos hz]
   exact b3
  ·rw [decide_eq_false hz, List.take_of_length_le (by rw [eV]; exact Nat.le_refl _)]
   obtain ⟨g, hgl, hG⟩ := H1.guard ⟨k1, false⟩ kE (F := aT (aT (aT h' gm .gone) b (.row 2 (rowsOf eC.c S1.guards ++ [[.v (I k1), .v (.bool false)]]))) nb (dG p inp (S1.guard ⟨k1, false⟩) om1 (some b) (some w) t1 0)) (aG _ _ _) (by rw [aC _ _ _ _ cY, aG, lW]; rfl) (fun n h1 h2 h3 => by rw [aC _ _ _ _ h1, aC _ _ _ _ h2, aC _ _ _ _ (fun q => h3 (by rw [q]))])
   unfold dG at hgl
   simp only [c6.guard, bE, List.length_append, List.length_singleton] at hgl
   refine aH.wk (aA.j7 hgl) ?_
   have hgG := q1.guard (b := false) q3 (by omega)
   have heG := q2.trans (S1.lS ⟨k1, false⟩)
   refine aH.eM (hv h0 g nb t1 0 (e.mJ 2) env (S1.guard ⟨k1, false⟩) funcs ⟨_, _, _, hG⟩ (by omega) (by omega) o2 eH hf (fun _ => ⟨hgG, fun x hx => (henv x hx).ext heG⟩) (by omega)) ?_
   rintro r h2 ⟨k2, S2, t2, c2, rfl, p8, b1, b2, b3⟩
   simp -dsimp -implicitDefEqProofs only [go_sem, ↓reduceIte, Tryz.f73]
   refine ⟨_, _, bD _ _, k2, S2, t2, c2, rfl, p8, by omega, b2, ?_⟩
   rw [wR h3 hk]
   refine a3.dY ?_
   rw [if_neg hz]
   exact b3
set_option maxRecDepth 100000
open Go.Proofs
set_option linter.unusedVariables false
set_option linter.unusedSimpArgs false
theorem bF7 {p : aE} (hp : p.ok) {inp : Int} {n : Nat} (hv : vR p inp n) {h0 h : aA} {nb st : Nat} {e : aB} {env : List Int} {S : c6} {funcs : Int} (hR : jA h0 nb p inp S st 0 h) (hst : st < 3000) (hn : 3001 ≤ n + 1 + st)
  (hok : e.ok p funcs env.length) (eH : 0 ≤ funcs) (hf : funcs ≤ p.aI.length) (hg : Good inp S st) (henv : ∀ x ∈ env, lG S x) (hel : env.length ≤ 412 + st) (hk : e.aO = 3) :
  fF Tryz.prog 73 [.op nb 8 0 0, .agg e.c, ints env] h (aDR h0 nb p inp st 0 (dX p (n + 1) st e env S)) := by
 obtain ⟨om, og, ov, H⟩ := hR
 rw [aB.aR]
 have hb := H.box
 unfold dG at hb
 have e3 : ((st : Int) = 3000) = False := eq_false (by omega)
 have ew : IntKind.i64.wrap ((st : Int) + 1) = ((st + 1 : Nat) : Int) := by rw [IntWalk.i64_in _ (by omega)]; rfl
 have hnode := (aB.cR _ _ _ _).1 hok
 have h3 : ¬ st = 3000 := by omega
 have hcap := hg.cap
 have hgcap := hg.oY
 have j9 := hg.lV (Nat.le_succ st)
 have hR1 : jA h0 nb p inp S (st + 1) 0 (aT h nb (dG p inp S om og ov (st + 1) 0)) := ⟨_, _, _, H.set (st + 1) 0⟩
 have hlen := dB hok (by omega)
 rw [hk, show dN 3 = 2 from rfl] at hlen
 have hkl : e.aK.length ≤ 1048576 := by omega
 refine gK 190 qO aDS aDT mix Tryz.func73 rfl (by kernel_rfl) (by simp) ?_
 simp -dsimp -implicitDefEqProofs only [go_sem, ↓reduceIte, Tryz.f73, hb, e3, ew, hk]
 refine aH.eM (r9 hp hv h0 _ nb (st + 1) 0 e.aK env S funcs hR1 (by omega) (by omega) hkl (dZ hok (by omega)) eH hf (fun _ => ⟨j9, henv⟩) (by omega)) ?_
 rintro r h' ⟨vs, S1, t1, c1, rfl, ⟨om1, og1, ov1, H1⟩, hvl, a1, a2, a3⟩
 have k7 := H1.box
 unfold dG at k7
 simp -dsimp -implicitDefEqProofs only [go_sem, ↓reduceIte, Tryz.f73, k7]
 refine ⟨fun hc => ?_, fun hc => ?_⟩
 ·refine ⟨_, _, bD _ _, 0, S1, t1, c1, rfl, ⟨_, _, _, H1⟩, by omega, a2, ?_⟩
  rw [kF h3 (by omega)]
  exact a3.dY (by rw [iG _ hc]; exact eX _ _ hc)
 subst hc
 obtain ⟨_, e2⟩ := a3.ok rfl
 obtain ⟨q1, q2, q3, q4⟩ := gS hp j9 (by omega) henv (dZ hok (by omega)) hf _ _ e2
 simp only at q1 q2 q3
 try simp -dsimp -implicitDefEqProofs only [go_sem, ↓reduceIte, Tryz.f73, hk]
 refine aH.eM (pS ⟨_, _, _, H1⟩ q1 a2 3 vs (by decide) (by omega) (by omega) q3.2 (by omega)) ?_
 rintro r h2 ⟨k2, S2, c2, rfl, p8, b3⟩
 simp -dsimp -implicitDefEqProofs only [go_sem, ↓reduceIte, Tryz.f73]
 refine ⟨_, _, bD _ _, k2, S2, t1, c2, rfl, p8, by omega, a2, ?_⟩
 rw [kF h3 (by omega)]
 refine a3.dY ?_
 rw [dC, hk]
 exact b3
theorem bF8 {p : aE} (hp : p.ok) {inp : Int} {n : Nat} (hv : vR p inp n) {h0 h : aA} {nb st : Nat} {e : aB} {env : List Int} {S : c6} {funcs : Int} (hR : jA h0 nb p inp S st 0 h) (hst : st < 3000) (hn : 3001 ≤ n + 1 + st)
  (hok : e.ok p funcs env.length) (eH : 0 ≤ funcs) (hf : funcs ≤ p.aI.length) (hg : Good inp S st) (henv : ∀ x ∈ env, lG S x) (hel : env.length ≤ 412 + st) (hk : e.aO = 4) :
  fF Tryz.prog 73 [.op nb 8 0 0, .agg e.c, ints env] h (aDR h0 nb p inp st 0 (dX p (n + 1) st e env S)) := by
 obtain ⟨om, og, ov, H⟩ := hR
 rw [aB.aR]
 have hb := H.box
 unfold dG at hb
 have e3 : ((st : Int) = 3000) = False := eq_false (by omega)
 have ew : IntKind.i64.wrap ((st : Int) + 1) = ((st + 1 : Nat) : Int) := by rw [IntWalk.i64_in _ (by omega)]; rfl
 have hnode := (aB.cR _ _ _ _).1 hok
 have h3 : ¬ st = 3000 := by omega
 have hcap := hg.cap
 have hgcap := hg.oY
 have j9 := hg.lV (Nat.le_succ st)
 have hR1 : jA h0 nb p inp S (st + 1) 0 (aT h nb (dG p inp S om og ov (st + 1) 0)) := ⟨_, _, _, H.set (st + 1) 0⟩
 have hlen := dB hok (by omega)
 rw [hk, show dN 4 = 2 from rfl] at hlen
 have hkl : e.aK.length ≤ 1048576 := by omega
 refine gK 190 qO aDS aDT mix Tryz.func73 rfl (by kernel_rfl) (by simp) ?_
 simp -dsimp -implicitDefEqProofs only [go_sem, ↓reduceIte, Tryz.f73, hb, e3, ew, hk]
 refine aH.eM (r9 hp hv h0 _ nb (st + 1) 0 e.aK env S funcs hR1 (by omega) (by omega) hkl (dZ hok (by omega)) eH hf (fun _ => ⟨j9, henv⟩) (by omega)) ?_
 rintro r h' ⟨vs, S1, t1, c1, rfl, ⟨om1, og1, ov1, H1⟩, hvl, a1, a2, a3⟩
 have k7 := H1.box
 unfold dG at k7
 simp -dsimp -implicitDefEqProofs only [go_sem, ↓reduceIte, Tryz.f73, k7]
 refine ⟨fun hc => ?_, fun hc => ?_⟩
 ·refine ⟨_, _, bD _ _, 0, S1, t1, c1, rfl, ⟨_, _, _, H1⟩, by omega, a2, ?_⟩
  rw [kF h3 (by omega)]
  exact a3.dY (by rw [iG _ hc]; exact eX _ _ hc)
 subst hc
 obtain ⟨_, e2⟩ := a3.ok rfl
 obtain ⟨q1, q2, q3, q4⟩ := gS hp j9 (by omega) henv (dZ hok (by omega)) hf _ _ e2
 simp only at q1 q2 q3
 try simp -dsimp -implicitDefEqProofs only [go_sem, ↓reduceIte, Tryz.f73, hk]
 refine aH.eM (pS ⟨_, _, _, H1⟩ q1 a2 4 vs (by decide) (by omega) (by omega) q3.2 (by omega)) ?_
 rintro r h2 ⟨k2, S2, c2, rfl, p8, b3⟩
 simp -dsimp -implicitDefEqProofs only [go_sem, ↓reduceIte, Tryz.f73]
 refine ⟨_, _, bD _ _, k2, S2, t1, c2, rfl, p8, by omega, a2, ?_⟩
 rw [kF h3 (by omega)]
 refine a3.dY ?_
 rw [dC, hk]
 exact b3
theorem bF9 {p : aE} (hp : p.ok) {inp : Int} {n : Nat} (hv : vR p inp n) {h0 h : aA} {nb st : Nat} {e : aB} {env : List Int} {S : c6} {funcs : Int} (hR : jA h0 nb p inp S st 0 h) (hst : st < 3000) (hn : 3001 ≤ n + 1 + st)
  (hok : e.ok p funcs env.length) (eH : 0 ≤ funcs) (hf : funcs ≤ p.aI.length) (hg : Good inp S st) (henv : ∀ x ∈ env, lG S x) (hel : env.length ≤ 412 + st) (hk : e.aO = 5) :
  fF Tryz.prog 73 [.op nb 8 0 0, .agg e.c, ints env] h (aDR h0 nb p inp st 0 (dX p (n + 1) st e env S)) := by
 obtain ⟨om, og, ov, H⟩ := hR
 rw [aB.aR]
 have hb := H.box
 unfold dG at hb
 have e3 : ((st : Int) = 3000) = False := eq_false (by omega)
 have ew : IntKind.i64.wrap ((st : Int) + 1) = ((st + 1 : Nat) : Int) := by rw [IntWalk.i64_in _ (by omega)]; rfl
 have hnode := (aB.cR _ _ _ _).1 hok
 have h3 : ¬ st = 3000 := by omega
 have hcap := hg.cap
 have hgcap := hg.oY
 have j9 := hg.lV (Nat.le_succ st)
 have hR1 : jA h0 nb p inp S (st + 1) 0 (aT h nb (dG p inp S om og ov (st + 1) 0)) := ⟨_, _, _, H.set (st + 1) 0⟩
 have hlen := dB hok (by omega)
 rw [hk, show dN 5 = 2 from rfl] at hlen
 have hkl : e.aK.length ≤ 1048576 := by omega
 refine gK 190 qO aDS aDT mix Tryz.func73 rfl (by kernel_rfl) (by simp) ?_
 simp -dsimp -implicitDefEqProofs only [go_sem, ↓reduceIte, Tryz.f73, hb, e3, ew, hk]
 refine aH.eM (r9 hp hv h0 _ nb (st + 1) 0 e.aK env S funcs hR1 (by omega) (by omega) hkl (dZ hok (by omega)) eH hf (fun _ => ⟨j9, henv⟩) (by omega)) ?_
 rintro r h' ⟨vs, S1, t1, c1, rfl, ⟨om1, og1, ov1, H1⟩, hvl, a1, a2, a3⟩
 have k7 := H1.box
 unfold dG at k7
 simp -dsimp -implicitDefEqProofs only [go_sem, ↓reduceIte, Tryz.f73, k7]
 refine ⟨fun hc => ?_, fun hc => ?_⟩
 ·refine ⟨_, _, bD _ _, 0, S1, t1, c1, rfl, ⟨_, _, _, H1⟩, by omega, a2, ?_⟩
  rw [kF h3 (by omega)]
  exact a3.dY (by rw [iG _ hc]; exact eX _ _ hc)
 subst hc
 obtain ⟨_, e2⟩ := a3.ok rfl
 obtain ⟨q1, q2, q3, q4⟩ := gS hp j9 (by omega) henv (dZ hok (by omega)) hf _ _ e2
 simp only at q1 q2 q3
 try simp -dsimp -implicitDefEqProofs only [go_sem, ↓reduceIte, Tryz.f73, hk]
 refine aH.eM (pS ⟨_, _, _, H1⟩ q1 a2 5 vs (by decide) (by omega) (by omega) q3.2 (by omega)) ?_
 rintro r h2 ⟨k2, S2, c2, rfl, p8, b3⟩
 simp -dsimp -implicitDefEqProofs only [go_sem, ↓reduceIte, Tryz.f73]
 refine ⟨_, _, bD _ _, k2, S2, t1, c2, rfl, p8, by omega, a2, ?_⟩
 rw [kF h3 (by omega)]
 refine a3.dY ?_
 rw [dC, hk]
 exact b3
theorem bGA {p : aE} (hp : p.ok) {inp : Int} {n : Nat} (hv : vR p inp n) {h0 h : aA} {nb st : Nat} {e : aB} {env : List Int} {S : c6} {funcs : Int} (hR : jA h0 nb p inp S st 0 h) (hst : st < 3000) (hn : 3001 ≤ n + 1 + st)
  (hok : e.ok p funcs env.length) (eH : 0 ≤ funcs) (hf : funcs ≤ p.aI.length) (hg : Good inp S st) (henv : ∀ x ∈ env, lG S x) (hel : env.length ≤ 412 + st) (hk : e.aO = 6) :
  fF Tryz.prog 73 [.op nb 8 0 0, .agg e.c, ints env] h (aDR h0 nb p inp st 0 (dX p (n + 1) st e env S)) := by
 obtain ⟨om, og, ov, H⟩ := hR
 rw [aB.aR]
 have hb := H.box
 unfold dG at hb
 have e3 : ((st : Int) = 3000) = False := eq_false (by omega)
 have ew : IntKind.i64.wrap ((st : Int) + 1) = ((st + 1 : Nat) : Int) := by rw [IntWalk.i64_in _ (by omega)]; rfl
 have hnode := (aB.cR _ _ _ _).1 hok
 have h3 : ¬ st = 3000 := by omega
 have hcap := hg.cap
 have hgcap := hg.oY
 have j9 := hg.lV (Nat.le_succ st)
 have hR1 : jA h0 nb p inp S (st + 1) 0 (aT h nb (dG p inp S om og ov (st + 1) 0)) := ⟨_, _, _, H.set (st + 1) 0⟩
 have hlen := dB hok (by omega)
 rw [hk, show dN 6 = 2 from rfl] at hlen
 have hkl : e.aK.length ≤ 1048576 := by omega
 refine gK 190 qO aDS aDT mix Tryz.func73 rfl (by kernel_rfl) (by simp) ?_
 simp -dsimp -implicitDefEqProofs only [go_sem, ↓reduceIte, Tryz.f73, hb, e3, ew, hk]
 refine aH.eM (r9 hp hv h0 _ nb (st + 1) 0 e.aK env S funcs hR1 (by omega) (by omega) hkl (dZ hok (by omega)) eH hf (fun _ => ⟨j9, henv⟩) (by omega)) ?_
 rintro r h' ⟨vs, S1, t1, c1, rfl, ⟨om1, og1, ov1, H1⟩, hvl, a1, a2, a3⟩
 have k7 := H1.box
 unfold dG at k7
 simp -dsimp -implicitDefEqProofs only [go_sem, ↓reduceIte, Tryz.f73, k7]
 refine ⟨fun hc => ?_, fun hc => ?_⟩
 ·refine ⟨_, _, bD _ _, 0, S1, t1, c1, rfl, ⟨_, _, _, H1⟩, by omega, a2, ?_⟩
  rw [kF h3 (by omega)]
  exact a3.dY (by rw [iG _ hc]; exact eX _ _ hc)
 subst hc
 obtain ⟨_, e2⟩ := a3.ok rfl
 obtain ⟨q1, q2, q3, q4⟩ := gS hp j9 (by omega) henv (dZ hok (by omega)) hf _ _ e2
 simp only at q1 q2 q3
 try simp -dsimp -implicitDefEqProofs only [go_sem, ↓reduceIte, Tryz.f73, hk]
 refine aH.eM (pS ⟨_, _, _, H1⟩ q1 a2 6 vs (by decide) (by omega) (by omega) q3.2 (by omega)) ?_
 rintro r h2 ⟨k2, S2, c2, rfl, p8, b3⟩
 simp -dsimp -implicitDefEqProofs only [go_sem, ↓reduceIte, Tryz.f73]
 refine ⟨_, _, bD _ _, k2, S2, t1, c2, rfl, p8, by omega, a2, ?_⟩
 rw [kF h3 (by omega)]
 refine a3.dY ?_
 rw [dC, hk]
 exact b3
theorem bGB {p : aE} (hp : p.ok) {inp : Int} {n : Nat} (hv : vR p inp n) {h0 h : aA} {nb st : Nat} {e : aB} {env : List Int} {S : c6} {funcs : Int} (hR : jA h0 nb p inp S st 0 h) (hst : st < 3000) (hn : 3001 ≤ n + 1 + st)
  (hok : e.ok p funcs env.length) (eH : 0 ≤ funcs) (hf : funcs ≤ p.aI.length) (hg : Good inp S st) (henv : ∀ x ∈ env, lG S x) (hel : env.length ≤ 412 + st) (hk : e.aO = 7) :
  fF Tryz.prog 73 [.op nb 8 0 0, .agg e.c, ints env] h (aDR h0 nb p inp st 0 (dX p (n + 1) st e env S)) := by
 obtain ⟨om, og, ov, H⟩ := hR
 rw [aB.aR]
 have hb := H.box
 unfold dG at hb
 have e3 : ((st : Int) = 3000) = False := eq_false (by omega)
 have ew : IntKind.i64.wrap ((st : Int) + 1) = ((st + 1 : Nat) : Int) := by rw [IntWalk.i64_in _ (by omega)]; rfl
 have hnode := (aB.cR _ _ _ _).1 hok
 have h3 : ¬ st = 3000 := by omega
 have hcap := hg.cap
 have hgcap := hg.oY
 have j9 := hg.lV (Nat.le_succ st)
 have hR1 : jA h0 nb p inp S (st + 1) 0 (aT h nb (dG p inp S om og ov (st + 1) 0)) := ⟨_, _, _, H.set (st + 1) 0⟩
 have hlen := dB hok (by omega)
 rw [hk, show dN 7 = 1 from rfl] at hlen
 have hkl : e.aK.length ≤ 1048576 := by omega
 refine gK 190 qO aDS aDT mix Tryz.func73 rfl (by kernel_rfl) (by simp) ?_
 simp -dsimp -implicitDefEqProofs only [go_sem, ↓reduceIte, Tryz.f73, hb, e3, ew, hk]
 refine aH.eM (r9 hp hv h0 _ nb (st + 1) 0 e.aK env S funcs hR1 (by omega) (by omega) hkl (dZ hok (by omega)) eH hf (fun _ => ⟨j9, henv⟩) (by omega)) ?_
 rintro r h' ⟨vs, S1, t1, c1, rfl, ⟨om1, og1, ov1, H1⟩, hvl, a1, a2, a3⟩
 have k7 := H1.box
 unfold dG at k7
 simp -dsimp -implicitDefEqProofs only [go_sem, ↓reduceIte, Tryz.f73, k7]
 refine ⟨fun hc => ?_, fun hc => ?_⟩
 ·refine ⟨_, _, bD _ _, 0, S1, t1, c1, rfl, ⟨_, _, _, H1⟩, by omega, a2, ?_⟩
  rw [kF h3 (by omega)]
  exact a3.dY (by rw [iG _ hc]; exact eX _ _ hc)
 subst hc
 obtain ⟨_, e2⟩ := a3.ok rfl
 obtain ⟨q1, q2, q3, q4⟩ := gS hp j9 (by omega) henv (dZ hok (by omega)) hf _ _ e2
 simp only at q1 q2 q3
 try simp -dsimp -implicitDefEqProofs only [go_sem, ↓reduceIte, Tryz.f73, hk]
 refine aH.eM (pS ⟨_, _, _, H1⟩ q1 a2 7 vs (by decide) (by omega) (by omega) q3.2 (by omega)) ?_
 rintro r h2 ⟨k2, S2, c2, rfl, p8, b3⟩
 simp -dsimp -implicitDefEqProofs only [go_sem, ↓reduceIte, Tryz.f73]
 refine ⟨_, _, bD _ _, k2, S2, t1, c2, rfl, p8, by omega, a2, ?_⟩
 rw [kF h3 (by omega)]
 refine a3.dY ?_
 rw [dC, hk]
 exact b3
theorem a81 {p : aE} (hp : p.ok) {inp : Int} {n : Nat} (hv : vR p inp n) {h0 h : aA} {nb st : Nat} {e : aB} {env : List Int} {S : c6} {funcs : Int} (hR : jA h0 nb p inp S st 0 h) (hst : st < 3000) (hn : 3001 ≤ n + 1 + st)
  (hok : e.ok p funcs env.length) (eH : 0 ≤ funcs) (hf : funcs ≤ p.aI.length) (hg : Good inp S st) (henv : ∀ x ∈ env, lG S x) (hel : env.length ≤ 412 + st) (hk : e.aO = 10) :
  fF Tryz.prog 73 [.op nb 8 0 0, .agg e.c, ints env] h (aDR h0 nb p inp st 0 (dX p (n + 1) st e env S)) := by
 obtain ⟨om, og, ov, H⟩ := hR
 rw [aB.aR]
 have hb := H.box
 unfold dG at hb
 have e3 : ((st : Int) = 3000) = False := eq_false (by omega)
 have ew : IntKind.i64.wrap ((st : Int) + 1) = ((st + 1 : Nat) : Int) := by rw [IntWalk.i64_in _ (by omega)]; rfl
 have hnode := (aB.cR _ _ _ _).1 hok
 have h3 : ¬ st = 3000 := by omega
 have hcap := hg.cap
 have hgcap := hg.oY
 have j9 := hg.lV (Nat.le_succ st)
 have hR1 : jA h0 nb p inp S (st + 1) 0 (aT h nb (dG p inp S om og ov (st + 1) 0)) := ⟨_, _, _, H.set (st + 1) 0⟩
 obtain ⟨f, F⟩ := l4 hp hok hf (.inl hk)
 have hkl : e.aK.length ≤ 1048576 := by have := F.kids; have := F.params; omega
 refine gK 190 qO aDS aDT mix Tryz.func73 rfl (by kernel_rfl) (by simp) ?_
 simp -dsimp -implicitDefEqProofs only [go_sem, ↓reduceIte, Tryz.f73, hb, e3, ew, hk]
 refine aH.eM (r9 hp hv h0 _ nb (st + 1) 0 e.aK env S funcs hR1 (by omega) (by omega) hkl (dZ hok (by omega)) eH hf (fun _ => ⟨j9, henv⟩) (by omega)) ?_
 rintro r h' ⟨vs, S1, t1, c1, rfl, ⟨om1, og1, ov1, H1⟩, hvl, a1, a2, a3⟩
 have k7 := H1.box
 unfold dG at k7
 simp -dsimp -implicitDefEqProofs only [go_sem, ↓reduceIte, Tryz.f73, k7]
 refine ⟨fun hc => ?_, fun hc => ?_⟩
 ·refine ⟨_, _, bD _ _, 0, S1, t1, c1, rfl, ⟨_, _, _, H1⟩, by omega, a2, ?_⟩
  rw [wS h3 hk]
  exact a3.dY (by rw [iG _ hc]; exact eX _ _ hc)
 subst hc
 obtain ⟨_, e2⟩ := a3.ok rfl
 obtain ⟨q1, q2, q3, q4⟩ := gS hp j9 (by omega) henv (dZ hok (by omega)) hf _ _ e2
 simp only at q1 q2 q3
 try simp -dsimp -implicitDefEqProofs only [go_sem, ↓reduceIte, Tryz.f73, hk, k7, F.get, F.out, aS.aR, aB.ld5]
 have f1 := F.lo
 have f2 := F.hi
 have f3 := F.pk
 have f4 := F.pk2
 have f5 := F.kids
 have f6 := F.params
 refine ⟨f1, f2, f3, by omega, ?_⟩
 refine aH.eM (hv h0 _ nb t1 0 (p.out e.aX e.cN) vs S1 e.aX ⟨_, _, _, H1⟩ (by omega) (by omega) (by rw [hvl, f5]; exact F.oks _ (List.mem_of_getElem? F.out)) f1 (by omega) (fun _ => ⟨q1, q3.2⟩) (by omega)) ?_
 rintro r h2 ⟨k2, S2, t2, c2, rfl, p8, b1, b2, b3⟩
 simp -dsimp -implicitDefEqProofs only [go_sem, ↓reduceIte, Tryz.f73]
 refine ⟨_, _, bD _ _, k2, S2, t2, c2, rfl, p8, by omega, b2, ?_⟩
 rw [wS h3 hk]
 exact a3.dY b3
theorem a82 {p : aE} (hp : p.ok) {inp : Int} {n : Nat} (hv : vR p inp n) {h0 h : aA} {nb st : Nat} {e : aB} {env : List Int} {S : c6} {funcs : Int} (hR : jA h0 nb p inp S st 0 h) (hst : st < 3000) (hn : 3001 ≤ n + 1 + st)
  (hok : e.ok p funcs env.length) (eH : 0 ≤ funcs) (hf : funcs ≤ p.aI.length) (hg : Good inp S st) (henv : ∀ x ∈ env, lG S x) (hel : env.length ≤ 412 + st) (hk : e.aO = 11) :
  fF Tryz.prog 73 [.op nb 8 0 0, .agg e.c, ints env] h (aDR h0 nb p inp st 0 (dX p (n + 1) st e env S)) := by
 obtain ⟨om, og, ov, H⟩ := hR
 rw [aB.aR]
 have hb := H.box
 unfold dG at hb
 have e3 : ((st : Int) = 3000) = False := eq_false (by omega)
 have ew : IntKind.i64.wrap ((st : Int) + 1) = ((st + 1 : Nat) : Int) := by rw [IntWalk.i64_in _ (by omega)]; rfl
 have hnode := (aB.cR _ _ _ _).1 hok
 have h3 : ¬ st = 3000 := by omega
 have hcap := hg.cap
 have hgcap := hg.oY
 have j9 := hg.lV (Nat.le_succ st)
 have hR1 : jA h0 nb p inp S (st + 1) 0 (aT h nb (dG p inp S om og ov (st + 1) 0)) := ⟨_, _, _, H.set (st + 1) 0⟩
 obtain ⟨f, F⟩ := l4 hp hok hf (.inr hk)
 have hkl : e.aK.length ≤ 1048576 := by have := F.kids; have := F.params; omega
 have f1 := F.lo
 have f2 := F.hi
 have f3 := F.pk
 have f4 := F.pk2
 have f5 := F.kids
 have f6 := F.params
 have f7 := F.loop hk
 have f8 := F.outs
 refine gK 190 qO aDS aDT mix Tryz.func73 rfl (by kernel_rfl) (by simp) ?_
 simp -dsimp -implicitDefEqProofs only [go_sem, ↓reduceIte, Tryz.f73, hb, e3, ew, hk]
 refine aH.eM (r9 hp hv h0 _ nb (st + 1) 0 e.aK env S funcs hR1 (by omega) (by omega) hkl (dZ hok (by omega)) eH hf (fun _ => ⟨j9, henv⟩) (by omega)) ?_
 rintro r h' ⟨vs, S1, t1, c1, rfl, ⟨om1, og1, ov1, H1⟩, hvl, a1, a2, a3⟩
 have k7 := H1.box
 unfold dG at k7
 simp -dsimp -implicitDefEqProofs only [go_sem, ↓reduceIte, Tryz.f73, k7]
 refine ⟨fun hc => ?_, fun hc => ?_⟩
 ·refine ⟨_, _, bD _ _, 0, S1, t1, c1, rfl, ⟨_, _, _, H1⟩, by omega, a2, ?_⟩
  rw [wT h3 hk]
  exact a3.dY (by rw [iG _ hc]; exact eX _ _ hc)
 subst hc
 obtain ⟨_, e2⟩ := a3.ok rfl
 obtain ⟨q1, q2, q3, q4⟩ := gS hp j9 (by omega) henv (dZ hok (by omega)) hf _ _ e2
 simp only at q1 q2 q3
 try simp -dsimp -implicitDefEqProofs only [go_sem, ↓reduceIte, Tryz.f73, hk]
 have hiter : ∀ (k : Nat) (us : List Int) (S2 : c6) (t : Nat) (c : Int), jB (oQ (fun vs t S => kJ (fun t e S => dX p n t e vs S) (p.outs e.aX) t S) k vs t1 S1) (us, S2) t c → k ≤ e.cA.toNat → (¬ c = 0 ∨ k = e.cA.toNat) → jB (oG 0 (dX p (n + 1) st e env S)) (us.getD e.cN.toNat 0, S2) t c := fun k us S2 t c ho hk1 hor => by
  rw [wT h3 hk]
  refine a3.dY ?_
  rw [dC]
  refine jB.then (v := (us, S2)) (t := t) (c := c) ?_ (gR _ _ _)
  rcases hor with hc | rfl
  ·have := ho.err hc
   rw [aJI _ k hk1 this]
   exact eX _ _ hc
  ·exact ho
 have hfl : ∀ us t S2, Good inp S2 t → (us.length = f.aW.length ∧ ∀ x ∈ us, lG S2 x) → t ≤ 3000 → tM (yU inp S2 t f.aW.length) (kJ (fun t e S => dX p n t e us S) (p.outs e.aX) t S2) := fun us w S2 hg' hv' hw => by
  rw [F.eq]
  exact gS hp hg' hw hv'.2 (funcs := e.aX) (fun x hx => by rw [hv'.1, f7.2.2]; exact F.oks x hx) (by omega)
 refine dA (keep := qO) (ib := aDS) (mk := aDT) mix (by kernel_rfl) (fun x : Nat × List Int × Nat × Int × c6 × aA => [(0, .op nb 8 0 0), (4, .ip 5 [[I 11, I e.aX, I e.cN, I e.cA, eI 5 aB.c e.aK]] 0 0), (9, ints x.2.1), (10, I x.1)]) (fun x => x.2.2.2.2.2) (fun x => x.1 ≤ e.cA.toNat ∧ x.2.1.length = f.aW.length ∧ t1 ≤ x.2.2.1 ∧ x.2.2.1 ≤ 3000 ∧ jB (oQ (fun vs t S => kJ (fun t e S => dX p n t e vs S) (p.outs e.aX) t S) x.1 vs t1 S1) (x.2.1, x.2.2.2.2.1) x.2.2.1 x.2.2.2.1 ∧ jA h0 nb p inp x.2.2.2.2.1 x.2.2.1 x.2.2.2.1 x.2.2.2.2.2) (fun x => e.cA.toNat - x.1) (0, vs, t1, 0, S1, h') ⟨by simp [dF, b6], aA.le_refl _, Nat.zero_le _, by simp only; omega, Nat.le_refl _, a2, kR _ _, ⟨_, _, _, H1⟩⟩ ?_
 rintro ⟨k, us, t, c, S2, g⟩ ⟨hk1, hul, ht0, ht, ho, ⟨om2, og2, ov2, H2⟩⟩
 simp only at hk1 hul ht0 ht ho H2 ⊢
 have kE := H2.box
 unfold dG at kE
 have gp : us[e.cN.toNat]? = some (us.getD e.cN.toNat 0) := cX (by omega)
 simp -dsimp -implicitDefEqProofs only [go_sem, ↓reduceIte, Tryz.f73, kE, F.get, aS.aR, gp]
 refine ⟨fun hlt => ⟨fun hc => ⟨f1, f2, ?_⟩, fun hc => ?_⟩, fun hge => ?_⟩
 ·subst hc
  obtain ⟨_, e3⟩ := jB.ok (c := 0) (by rw [dC]; exact ho) rfl
  obtain ⟨w1, w2, w3, w4⟩ := tI hfl k vs t1 S1 q1 ⟨by omega, q3.2⟩ a2 _ _ e3
  simp only at w1 w2 w3
  refine aH.eM (r9 hp hv h0 _ nb t 0 f.aW us S2 e.aX ⟨_, _, _, H2⟩ ht (by omega) (by omega) (by rw [hul, f7.2.2]; exact F.oks) f1 (by omega) (fun _ => ⟨w1, w3.2⟩) (by omega)) ?_
  rintro r h2 ⟨l2, S3, t2, c2, rfl, p8, hl2, b1, b2, b3⟩
  simp -dsimp -implicitDefEqProofs only [go_sem, ↓reduceIte, Tryz.f73]
  refine ⟨(k + 1, l2, t2, c2, S3, h2), ⟨rfl, by rw [IntWalk.i64_in _ (by omega)]; rfl⟩, aA.le_refl _, ⟨by omega, hl2, by simp only; omega, b2, ?_, p8⟩, by simp only; omega⟩
  simp only
  rw [wQ]
  refine ho.then ?_
  rw [F.eq]
  exact b3
 ·exact ⟨f3, by omega, _, _, bD _ _, _, S2, t, c, rfl, ⟨_, _, _, H2⟩, by omega, ht, hiter k us S2 t c ho hk1 (.inl hc)⟩
 ·exact ⟨f3, by omega, _, _, bD _ _, _, S2, t, c, rfl, ⟨_, _, _, H2⟩, by omega, ht, hiter k us S2 t c ho hk1 (.inr (by omega))⟩
theorem reg {p : aE} (hp : p.ok) {inp : Int} : ∀ n, vR p inp n
 |0 => fun h0 h nb st c e env S funcs hb hst hn => by omega
 |n + 1 => fun h0 h nb st c e env S funcs hb hst hn hok eH hf hgo hel => by
  have hv := reg hp (inp := inp) n
  by_cases hs : ¬ c = 0 ∨ st = 3000
  ·exact aYA hb hst hs
  have hc : c = 0 := Classical.byContradiction fun q => hs (.inl q)
  have h3 : st < 3000 := by
   rcases Nat.lt_or_ge st 3000 with h | h
   ·exact h
   ·exact absurd (.inr (by omega)) hs
  subst hc
  obtain ⟨hg, henv⟩ := hgo rfl
  rcases pD ((aB.cR _ _ _ _).1 hok).1 with hk | hk | hk | hk | hk | hk | hk | hk | hk | hk | hk
  ·exact bF3 hp hv hb h3 hn hok eH hf hg henv hel hk
  ·exact bF4 hp hv hb h3 hn hok eH hf hg henv hel hk
  ·exact bF7 hp hv hb h3 hn hok eH hf hg henv hel hk
  ·exact bF8 hp hv hb h3 hn hok eH hf hg henv hel hk
  ·exact bF9 hp hv hb h3 hn hok eH hf hg henv hel hk
  ·exact bGA hp hv hb h3 hn hok eH hf hg henv hel hk
  ·exact bGB hp hv hb h3 hn hok eH hf hg henv hel hk
  ·exact bF6 hp hv hb h3 hn hok eH hf hg henv hel hk
  ·exact bF5 hp hv hb h3 hn hok eH hf hg henv hel hk
  ·exact a81 hp hv hb h3 hn hok eH hf hg henv hel hk
  ·exact a82 hp hv hb h3 hn hok eH hf hg henv hel hk
set_option maxRecDepth 100000
open Go.Proofs
set_option linter.unusedVariables false
set_option linter.unusedSimpArgs false
structure oD where
 zJ : Int
 b7 : List bC
 zK : List eC
 aW : List Int
def oD.c (x : oD) : List aD := [I x.zJ, eI 4 bC.c x.b7, eI 2 eC.c x.zK, ints x.aW]
theorem oD.aR (x : oD) : x.c = [I x.zJ, eI 4 bC.c x.b7, eI 2 eC.c x.zK, ints x.aW] := rfl
def jW (p : aE) (f : Int) (args : List Int) : oD × Int := match aDQ p f args with
 | .ok ((l, S), _) => (⟨args.length, S.code, S.guards, l⟩, 0)
 | .error c => (⟨0, [], [], []⟩, c)
theorem tN.seal {bx : c6 → Option Nat → Option Nat → Option Nat → cB} {h0 h F hh : aA} {nb : Nat} {inp : Int} {S : c6} {om og ov : Option Nat} (H : tN bx h0 nb S om og ov h) (l : List Int) (d : Int)
  (hF : ∀ n, some n = om ∨ some n = og → F n = h n) (hl : hh.le F) (hn : ∀ n, some n = om ∨ some n = og → hh n = none) :
  Shift (.kL [.agg [I inp, gQ 4 S.code.length om, gQ 2 S.guards.length og, ints l], I d]) F (.kL [.agg [I inp, eI 4 bC.c S.code, eI 2 eC.c S.guards, ints l], I d]) hh := by
 have hc := H.code
 have hg := H.gds
 have ap := H.apart
 cases om with
 |none =>
  have hc0 : S.code = [] := gZ.1 hc
  cases og with
  |none =>
   have hg0 : S.guards = [] := gZ.1 hg
   rw [hc0, hg0]
   exact Shift.of (Sub.kL (.cons (Sub.agg (.cons (.refl _) (.cons (Sub.nil _ _) (.cons (Sub.nil _ _) (.cons (.refl _) .nil))))) (.cons (.refl _) .nil))) hl
  |some g =>
   have hgF := (hF g (.inr rfl)).trans hg.2
   rw [hc0]
   refine Shift.trans (Shift.of (Sub.kL (.cons (Sub.agg (.cons (.refl _) (.cons (Sub.nil 4 false) (.cons (.refl _) (.cons (.refl _) .nil))))) (.cons (.refl _) .nil))) (aA.le_refl F)) ?_
   refine jP (n := g) (sz := 2) (S.guards.map eC.c) (hn g (.inr rfl)) ?_ (by simp [gA, gB, gQ]) ?_
   ·intro q
    by_cases e : q = g
    ·subst e; right; rw [aG]; exact hgF.symm
    ·rw [aC _ _ _ _ e]; exact hl q
   ·simp [aD.fK, lM, gQ, List.take_of_length_le]
 |some m =>
  have hmF := (hF m (.inl rfl)).trans hc.2
  cases og with
  |none =>
   have hg0 : S.guards = [] := gZ.1 hg
   rw [hg0]
   refine Shift.trans (Shift.of (Sub.kL (.cons (Sub.agg (.cons (.refl _) (.cons (.refl _) (.cons (Sub.nil 2 false) (.cons (.refl _) .nil))))) (.cons (.refl _) .nil))) (aA.le_refl F)) ?_
   refine jP (n := m) (sz := 4) (S.code.map bC.c) (hn m (.inl rfl)) ?_ (by simp [gA, gB, gQ]) ?_
   ·intro q
    by_cases e : q = m
    ·subst e; right; rw [aG]; exact hmF.symm
    ·rw [aC _ _ _ _ e]; exact hl q
   ·simp [aD.fK, lM, gQ, List.take_of_length_le]
  |some g =>
   have hgF := (hF g (.inr rfl)).trans hg.2
   have hne : ¬ g = m := fun e => ((ap g).2.1 (by rw [e])).1 rfl
   refine Shift.trans (b := .kL [.agg [I inp, gQ 4 S.code.length (some m), eI 2 eC.c S.guards, ints l], I d]) (h2 := aT hh m (.row 4 (rowsOf bC.c S.code))) ?_ ?_
   ·refine jP (n := g) (sz := 2) (S.guards.map eC.c) (by rw [aC _ _ _ _ hne]; exact hn g (.inr rfl)) ?_ (by simp [gA, gB, gQ]; exact fun e => hne e.symm) ?_
    ·intro q
     by_cases e : q = g
     ·subst e; right; rw [aG]; exact hgF.symm
     ·rw [aC _ _ _ _ e]
      by_cases e2 : q = m
      ·subst e2; right; rw [aG]; exact hmF.symm
      ·rw [aC _ _ _ _ e2]; exact hl q
    ·have hne' : ¬ m = g := fun e => hne e.symm
     simp [aD.fK, lM, gQ, List.take_of_length_le, hne']
   ·refine jP (n := m) (sz := 4) (S.code.map bC.c) (hn m (.inl rfl)) (aA.le_refl _) (by simp [gA, gB, gQ]) ?_
    simp [aD.fK, lM, gQ, List.take_of_length_le]
theorem tN.keep {h0 h : aA} {nb : Nat} {bx : c6 → Option Nat → Option Nat → Option Nat → cB} {S : c6} {om og ov : Option Nat} (H : tN bx h0 nb S om og ov h) {n : Nat} {o : cB} (hn : h0 n = some o) : h n = some o ∧ ¬ n = nb ∧ ¬ some n = om ∧ ¬ some n = og ∧ ¬ some n = ov := by
 have hne : ∀ q, ¬ (q = nb ∨ some q = om ∨ some q = og ∨ some q = ov) ∨ h0 q = .none := fun q => by
  by_cases e : q = nb ∨ some q = om ∨ some q = og ∨ some q = ov
  ·exact .inr (H.fresh q e)
  ·exact .inl e
 have h1 : ¬ (n = nb ∨ some n = om ∨ some n = og ∨ some n = ov) := by
  rcases hne n with e | e
  ·exact e
  ·rw [hn] at e; cases e
 have e1 : ¬ n = nb := fun e => h1 (.inl e)
 have e2 : ¬ some n = om := fun e => h1 (.inr (.inl e))
 have e3 : ¬ some n = og := fun e => h1 (.inr (.inr (.inl e)))
 have e4 : ¬ some n = ov := fun e => h1 (.inr (.inr (.inr e)))
 exact ⟨(H.upto n e1 e2 e3 e4).trans hn, e1, e2, e3, e4⟩
theorem tN.le {h0 h : aA} {nb : Nat} {bx : c6 → Option Nat → Option Nat → Option Nat → cB} {S : c6} {om og ov : Option Nat} (H : tN bx h0 nb S om og ov h) : h0.le h := fun q => by
 cases e : h0 q with
 |none => exact .inl rfl
 |some o => right; exact (H.keep e).1.symm
theorem aQU {h0 : aA} {nb : Nat} (p : aE) (inp : Int) (hn : h0 nb = none) : jA h0 nb p inp ⟨[], [], []⟩ 0 0 (aT h0 nb (dG p inp ⟨[], [], []⟩ none none none 0 0)) :=
 ⟨none, none, none, aG _ _ _, aHJ _ _ _ _, rfl, rfl, rfl, fun n h => (by rcases h with rfl | h | h | h; exact hn; cases h; cases h; cases h), fun n h1 _ _ _ => aC _ _ _ _ h1⟩
def xU (args : List Int) (k : Nat) : c6 := ⟨(List.range k).map fun i : Nat => ⟨1, 0, 0, (i : Int)⟩, args.take k, []⟩
def aB3 (k : Nat) : List Int := (List.range k).map fun i : Nat => (i : Int)
theorem aO0 (args : List Int) : xU args args.length = inS args := by rw [xU, List.take_length]; rfl
theorem zL {args : List Int} {k : Nat} (hk : k < args.length) : xU args (k + 1) = (xU args k).put ⟨1, 0, 0, (k : Int)⟩ args[k] := by
 rw [xU, xU, c6.put, List.range_succ, List.map_append, List.take_succ_eq_append_getElem hk]; rfl
theorem aJK (k : Nat) : aB3 (k + 1) = aB3 k ++ [(k : Int)] := by rw [aB3, aB3, List.range_succ, List.map_append]; rfl
@[go_sem] def aYB : List Nat := [0, 1, 2, 3, 6, 7, 8, 9, 10, 11, 12, 28, 30, 44, 45, 46, 47, 77]
@[go_sem] def bGC : List Nat := [3, 43, 57]
@[go_sem] def bGD : Marks := fun id => match id with | 6 => ([9], (.op 0 (.op 1 (.op 2 (.op 3 (.op 4 (.op 5 (.op 6 (.op 7 (.op 8 (.op 9 (.op 10 .nil))))))))))), []) | 15 => ([4, 5], (.op 0 (.op 1 (.op 2 (.op 3 (.op 4 (.op 5 (.op 6 .nil))))))), [(4, 5)]) | _ => ([], .nil, [])
theorem a83 {p : aE} (hp : p.ok) (hps : p.s ≤ 4194304) (f : Int) (hf : 0 ≤ f ∧ f < p.aI.length) (args : List Int) (ha : fG args) (a84 : args.length ≤ 12) (hl : ∀ F, p.aI[f.toNat]? = some F → (args.length : Int) = F.aZ) :
  gV Tryz.prog 18 [.agg p.c, I f, ints args] (.kL [.agg (jW p f args).1.c, I (jW p f args).2]) := by
 have hif := aW0 p f hps
 obtain ⟨F, ef, hF1, hF2, hF3, hF4⟩ := nN hp hf
 have hla := hl F ef
 rw [if_pos hp, if_pos (by omega)] at hif
 simp only [aE.aR] at hif ⊢
 have han := lE args F.aZ
 rw [decide_eq_true (show (args.length : Int) = F.aZ ∧ fG args from ⟨hla, ha⟩)] at han
 refine uU 87 aYB bGC bGD mix Tryz.func18 rfl (by kernel_rfl) (by simp) fun h => ?_
 simp -dsimp -implicitDefEqProofs only [go_sem, ↓reduceIte, Tryz.f18, ef, aS.aR]
 intro n6 z6
 try simp -dsimp -implicitDefEqProofs only [go_sem, ↓reduceIte, Tryz.f18, ef, aS.aR]
 first | refine aH.mk (hif) ?_ | refine aF.mk (hif) ?_ | refine aH.bY (hif) ?_ | refine aF.mk (bQ.fJ (hif)) ?_
 simp -dsimp -implicitDefEqProofs only [go_sem, ↓reduceIte, Tryz.f18, ef, aS.aR]
 refine ⟨hf.1, hf.2, ?_⟩
 first | refine aH.mk (han) ?_ | refine aF.mk (han) ?_ | refine aH.bY (han) ?_ | refine aF.mk (bQ.fJ (han)) ?_
 simp -dsimp -implicitDefEqProofs only [go_sem, ↓reduceIte, Tryz.f18, ef, aS.aR]
 refine ⟨hf.1, hf.2, fun nb ⟨hb6, zb⟩ => ⟨Nat.zero_lt_one, fun _ => ?_⟩⟩
 have wW : ¬ nb = n6 := hb6
 have aLT : ¬ n6 = nb := Ne.symm wW
 have aB4 : (nb = n6) = False := eq_false wW
 have aB5 : (n6 = nb) = False := eq_false aLT
 generalize hh6 : aT h n6 (.row 4 [[.v (.int .i64 0), .v .bI, .v .bI, .v .bI]]) = h6
 have zb6 : h6 nb = none := by rw [← hh6, aC _ _ _ _ wW]; exact zb
 have hin := aQU (h0 := h6) p F.aZ zb6
 refine dA (keep := aYB) (ib := bGC) (mk := bGD) mix (by kernel_rfl) (fun x : Nat × aA × Option Nat => [(1, I f), (3, .ip 1 [[eI 3 aS.c p.aI]] 0 0), (6, .op n6 4 0 0), (9, .op nb 8 0 0), (10, jM 1 x.1 x.2.2), (44, ints args), (45, I args.length), (46, I x.1)]) (fun x => cQ x.2.1 (.row 1 (((aB3 x.1).map fun n => [I n]).map (List.map .v))) x.2.2) (fun x => x.1 ≤ args.length ∧ jA h6 nb p F.aZ (xU args x.1) 0 0 x.2.1 ∧ gX x.2.1 (aB3 x.1) x.2.2) (fun x => args.length - x.1) (0, aT h6 nb (dG p F.aZ ⟨[], [], []⟩ none none none 0 0), none) ⟨by simp [dF, b6, jM], aA.le_refl _, Nat.zero_le _, hin, rfl⟩ ?_
 rintro ⟨k, g, o⟩ ⟨hk, hR, hos⟩
 simp only at hk hR hos ⊢
 have hel : (aB3 k).length = k := by simp [aB3]
 rcases Nat.lt_or_ge k args.length with hlt | hge
 ·have ek : args[k]? = some args[k] := List.getElem?_eq_getElem hlt
  have hsl : (xU args k).code.length = (xU args k).eZ.length := by simp [xU]; omega
  have hvl : (xU args k).eZ.length = k := by simp [xU]; omega
  have hy := aJK k
  cases o with
  |none =>
   rw [bH] at hos
   have k0 : k = 0 := by rw [← hel, hos]; rfl
   subst k0
   simp -dsimp -implicitDefEqProofs only [go_sem, ↓reduceIte, Tryz.f18, bU, aQ, hlt, ek]
   refine aH.eM (aHK hR ⟨1, 0, 0, ((0 : Nat) : Int)⟩ args[0] hsl (by omega)) ?_
   rintro r h' ⟨rfl, mQ⟩
   simp -dsimp -implicitDefEqProofs only [go_sem, ↓reduceIte, Tryz.f18]
   refine ⟨Nat.zero_lt_one, Nat.zero_lt_one, Nat.zero_lt_one, fun b kE => ⟨(1, h', some b), ⟨rfl, by rw [IntWalk.i64_in _ (by omega)]; rfl⟩, ?_, ⟨hlt, by rw [zL hlt]; exact mQ, kE⟩, by simp only; omega⟩⟩
   rw [hvl]
   exact aA.le_refl _
  |some m =>
   rw [aV] at hos
   simp -dsimp -implicitDefEqProofs only [go_sem, ↓reduceIte, Tryz.f18, aY, aJ, hlt, ek]
   refine aH.eM (aHK (hR.xT hos) ⟨1, 0, 0, (k : Int)⟩ args[k] hsl (by omega)) ?_
   rintro r h' ⟨rfl, mQ⟩
   obtain ⟨g2, rfl, hg2, mQ⟩ := mQ.base (hR.none hos)
   simp -dsimp -implicitDefEqProofs only [go_sem, ↓reduceIte, Tryz.f18]
   refine ⟨Nat.zero_lt_one, Nat.zero_lt_one, Nat.zero_lt_one, Nat.le_of_eq hel.symm, by omega, by omega, fun b ⟨hbm, kE⟩ => ⟨(k + 1, g2, some b), ⟨rfl, by rw [IntWalk.i64_in _ (by omega)]; rfl⟩, ?_, ⟨hlt, by rw [zL hlt]; exact mQ, kE⟩, by simp only; omega⟩⟩
   simp only [aJ]
   rw [hvl, hy, ← fO (fun n => I n), hel]
   exact lN hg2
 ·have hk' : k = args.length := by omega
  subst hk'
  rw [aO0] at hR
  have hg0 := aBZ args ha a84
  rw [hla] at hg0
  have hie : aB3 args.length = inE args := rfl
  have hall : ∀ {h0 g : aA}, jA h0 nb p F.aZ (inS args) 0 0 g → fF Tryz.prog 41 [.op nb 8 0 0, eI 5 aB.c F.aW, ints (inE args)] g (a52 h0 nb p F.aZ 0 0 F.aW.length (kJ (fun t e S => dX p 3001 t e (inE args) S) F.aW 0 (inS args))) := fun hR =>
   r9 hp (reg hp 3001) _ _ nb 0 0 F.aW (inE args) (inS args) f hR (by omega) (by omega) (by omega) (fun x hx => by rw [← hie, hel, hla]; exact hF4 x hx) hf.1 (by omega) (fun _ => ⟨hg0, aLI args⟩) (by rw [← hie, hel]; omega)
  cases o with
  |none =>
   rw [bH, hie] at hos
   simp -dsimp -implicitDefEqProofs only [go_sem, ↓reduceIte, Tryz.f18, bU, aQ, Nat.lt_irrefl, Int.lt_irrefl, ef, aS.aR]
   refine ⟨hf.1, hf.2, aH.eM (fF.sub (.cons (.refl _) (.cons (.refl _) (.cons (by rw [hos]; exact Sub.loose _ _ _) .nil))) (hall hR)) ?_⟩
   rintro r h2 ⟨l, S2, t2, c2, rfl, ⟨om, og, ov, H2⟩, hll, a1, a2, a3⟩
   have kE := H2.box
   unfold dG at kE
   have hz := H2.keep (n := n6) (by rw [← hh6, aG])
   have hz1 := hz.1
   simp -dsimp -implicitDefEqProofs only [go_sem, ↓reduceIte, Tryz.f18, kE, hz1, aB4, aB5, aC]
   generalize hE : h2 = h2H at *
   have hle : h.le h2H := by
    have h1 := H2.le
    rw [← hh6] at h1
    intro q
    by_cases e : q = n6
    ·subst e; exact .inl z6
    ·have := h1 q
     rwa [aC _ _ _ _ e] at this
   have hfr : ∀ n, some n = om ∨ some n = og → h n = none ∧ ¬ n = n6 ∧ ¬ n = nb := fun n hn => by
    have h1 := H2.fresh n (by rcases hn with hn | hn; exact .inr (.inl hn); exact .inr (.inr (.inl hn)))
    have h3 : ¬ n = n6 := fun e => by rw [← hh6, e, aG] at h1; cases h1
    refine ⟨by rwa [← hh6, aC _ _ _ _ h3] at h1, h3, fun e => ?_⟩
    rcases hn with hn | hn
    ·exact ((H2.apart n).1 e).1 hn
    ·exact ((H2.apart n).1 e).2.1 hn
   refine ⟨fun hc => ?_, fun hc => ⟨by rw [jH, jH]; rfl, ?_⟩⟩
   ·have e2 : jW p f args = (⟨0, [], [], []⟩, c2) := by
     rw [dC] at a3
     rw [jW, aDQ, hF3, a3.err hc]
    rw [e2]
    exact Shift.of (Sub.kL (.cons (Sub.agg (.cons (.refl _) (.cons (Sub.nil 4 false) (.cons (Sub.nil 2 false) (.cons (Sub.nil 1 false) .nil))))) (.cons (.refl _) .nil))) (aA.aP z6 (aA.aP zb (hle)))
   ·obtain ⟨_, e1⟩ := a3.ok hc
    have e2 : jW p f args = (⟨args.length, S2.code, S2.guards, l⟩, 0) := by
     rw [jW, aDQ, hF3, e1]
    rw [e2, oD.aR, hla]
    refine H2.seal l 0 (fun n hn => ?_) (aA.aP z6 (aA.aP zb (hle))) (fun n hn => (hfr n hn).1)
    obtain ⟨v1, v2, v3⟩ := hfr n hn
    rw [aC _ _ _ _ v2, aC _ _ _ _ v3]
  |some m =>
   rw [aV] at hos
   simp -dsimp -implicitDefEqProofs only [go_sem, ↓reduceIte, Tryz.f18, aY, aJ, Nat.lt_irrefl, Int.lt_irrefl, ef, aS.aR]
   have cS : ¬ nb = m := fun e => by obtain ⟨_, _, _, H1⟩ := hR; have := H1.box; rw [e, hos] at this; cases this
   have dD : ¬ m = nb := Ne.symm cS
   have dI : (nb = m) = False := eq_false cS
   have dH : (m = nb) = False := eq_false dD
   refine ⟨hf.1, hf.2, aH.aEP rfl rfl cS (by rw [List.length_map]; exact hel.symm) hos ?_⟩
   refine fF.mono (hall (hR.xT (o := .gone) hos)) ?_
   rintro r h2 ⟨l, S2, t2, c2, rfl, mQ, hll, a1, a2, a3⟩
   obtain ⟨g3, rfl, hg3, ⟨om, og, ov, H2⟩⟩ := mQ.base (hR.none hos)
   have kE := H2.box
   unfold dG at kE
   have hz := H2.keep (n := n6) (by rw [← hh6, aG])
   have hz1 := hz.1
   have aAU : ¬ n6 = m := fun e => by rw [e, hg3] at hz1; cases hz1
   have aQV : ¬ m = n6 := Ne.symm aAU
   have aQW : (n6 = m) = False := eq_false aAU
   have aQX : (m = n6) = False := eq_false aQV
   simp -dsimp -implicitDefEqProofs only [go_sem, ↓reduceIte, Tryz.f18, kE, hz1, aB4, dI, aB5, aQW, dH, aQX, aC]
   have hgo : ∀ n, some n = om ∨ some n = og → ¬ n = m := fun n hn e => by
    have := (H2.apart n).2.2.2 (by rw [e]; exact hg3)
    rcases hn with hn | hn
    ·exact this.2.1 hn
    ·exact this.2.2.1 hn
   have hhm : h m = none := by
    have h1 := hR.none hos
    rw [← hh6, aC _ _ _ _ (fun e => aAU e.symm)] at h1
    exact h1
   generalize hE : g3 = h2H at *
   have hle : h.le h2H := by
    have h1 := H2.le
    rw [← hh6] at h1
    intro q
    by_cases e : q = n6
    ·subst e; exact .inl z6
    ·have := h1 q
     rwa [aC _ _ _ _ e] at this
   have hfr : ∀ n, some n = om ∨ some n = og → h n = none ∧ ¬ n = n6 ∧ ¬ n = nb := fun n hn => by
    have h1 := H2.fresh n (by rcases hn with hn | hn; exact .inr (.inl hn); exact .inr (.inr (.inl hn)))
    have h3 : ¬ n = n6 := fun e => by rw [← hh6, e, aG] at h1; cases h1
    refine ⟨by rwa [← hh6, aC _ _ _ _ h3] at h1, h3, fun e => ?_⟩
    rcases hn with hn | hn
    ·exact ((H2.apart n).1 e).1 hn
    ·exact ((H2.apart n).1 e).2.1 hn
   refine ⟨fun hc => ?_, fun hc => ⟨by rw [jH, jH]; rfl, ?_⟩⟩
   ·have e2 : jW p f args = (⟨0, [], [], []⟩, c2) := by
     rw [dC] at a3
     rw [jW, aDQ, hF3, a3.err hc]
    rw [e2]
    exact Shift.of (Sub.kL (.cons (Sub.agg (.cons (.refl _) (.cons (Sub.nil 4 false) (.cons (Sub.nil 2 false) (.cons (Sub.nil 1 false) .nil))))) (.cons (.refl _) .nil))) (aA.aP z6 (aA.aP zb (aA.aP hhm hle)))
   ·obtain ⟨_, e1⟩ := a3.ok hc
    have e2 : jW p f args = (⟨args.length, S2.code, S2.guards, l⟩, 0) := by
     rw [jW, aDQ, hF3, e1]
    rw [e2, oD.aR, hla]
    refine H2.seal l 0 (fun n hn => ?_) (aA.aP z6 (aA.aP zb (aA.aP hhm hle))) (fun n hn => (hfr n hn).1)
    obtain ⟨v1, v2, v3⟩ := hfr n hn
    rw [aC _ _ _ _ v2, aC _ _ _ _ v3, aC _ _ _ _ (hgo n hn)]
set_option maxRecDepth 100000
open Go.Proofs
set_option linter.unusedVariables false
set_option linter.unusedSimpArgs false
def opsOf (c : bC) : List Int := if 3 ≤ c.lU ∧ c.lU ≤ 6 then [c.fA, c.fB] else if c.lU = 7 then [c.fA] else []
def tJ (l : List Int) (b : List Bool) : List Bool := l.foldl (fun b r => b.set r.toNat true) b
def qB (k : Nat) (l : List Int) (b : List Bool) : List Bool := l.foldl (fun b r => b.set r.toNat (b.getD r.toNat false || b.getD k false)) b
def aO1 (code : List bC) (k : Nat) : List Int := ((code[k]?).map opsOf).getD []
def aB6 (code : List bC) : Nat → List Bool → List Bool
 |0, b => b
 |k + 1, b => aB6 code k (qB k (aO1 code k) b)
def qC (code : List bC) (ends : List Int) : List Bool := aB6 code code.length (tJ ends (List.replicate code.length false))
theorem aDU (l : List Int) : ∀ b, (tJ l b).length = b.length := by
 induction l with
 |nil => intro b; rfl
 |cons x l ih => intro b; rw [tJ, List.foldl_cons]; exact (ih _).trans (by simp)
theorem aDV (k : Nat) (l : List Int) : ∀ b, (qB k l b).length = b.length := by
 induction l with
 |nil => intro b; rfl
 |cons x l ih => intro b; rw [qB, List.foldl_cons]; exact (ih _).trans (by simp)
theorem aJL (code : List bC) : ∀ k b, (aB6 code k b).length = b.length
 |0, b => rfl
 |k + 1, b => by rw [aB6, aJL code k, aDV]
theorem aJM (code : List bC) (ends : List Int) : (qC code ends).length = code.length := by rw [qC, aJL, aDU, List.length_replicate]
theorem aQY (l : List Int) (x : Int) (b : List Bool) : tJ (l ++ [x]) b = (tJ l b).set x.toNat true := by rw [tJ, List.foldl_append]; rfl
theorem aHS (k : Nat) (l : List Int) (x : Int) (b : List Bool) : qB k (l ++ [x]) b = (qB k l b).set x.toNat ((qB k l b).getD x.toNat false || (qB k l b).getD k false) := by rw [qB, List.foldl_append]; rfl
@[go_sem] def a86 : List Nat := [0, 1, 2, 3, 12]
@[go_sem] def bL4 : List Nat := [1, 11, 18]
@[go_sem] def bL5 : Marks := fun _ => ([], .nil, [])
theorem operands (x : bC) : gV Tryz.prog 86 [.agg x.c] (ints (opsOf x)) := by
 rw [bC.aR]
 refine uU 19 a86 bL4 bL5 mix Tryz.func86 rfl (by kernel_rfl) (by simp) fun h => ?_
 simp -dsimp -implicitDefEqProofs only [go_sem, ↓reduceIte, Tryz.f86]
 first | refine aH.mk (within x.lU 3 6) ?_ | refine aF.mk (within x.lU 3 6) ?_ | refine aH.bY (within x.lU 3 6) ?_ | refine aF.mk (bQ.fJ (within x.lU 3 6)) ?_
 simp -dsimp -implicitDefEqProofs only [go_sem, ↓reduceIte, Tryz.f86]
 unfold opsOf
 refine ⟨fun q => ⟨by decide, by decide, ?_⟩, fun q => ⟨fun q7 => ⟨by decide, by decide, ?_⟩, fun q7 => ?_⟩⟩
 ·rw [if_pos q]; exact Shift.of (Sub.loose _ _ _) (aA.le_refl _)
 ·rw [if_neg q, if_pos q7]; exact Shift.of (Sub.loose _ _ _) (aA.le_refl _)
 ·rw [if_neg q, if_neg q7]; exact Shift.of (Sub.nil _ _) (aA.le_refl _)
theorem aQZ {inp : Int} {i : Nat} {c : bC} (h : eJ inp i c) : ∀ x ∈ opsOf c, 0 ≤ x ∧ x < i := fun x hx => by
 unfold opsOf at hx
 unfold eJ at h
 split at hx
 ·simp only [List.mem_cons, List.not_mem_nil, or_false] at hx
  rcases hx with rfl | rfl <;> omega
 ·split at hx
  ·simp only [List.mem_cons, List.not_mem_nil, or_false] at hx
   subst hx; omega
  ·cases hx
theorem aO2 {code : List bC} {k : Nat} (h : k < code.length) : aO1 code k = opsOf code[k] := by rw [aO1, List.getElem?_eq_getElem h]; rfl
theorem aUU (c : bC) : (opsOf c).length ≤ 2 := by unfold opsOf; split; exact Nat.le_refl 2; split; exact Nat.le_succ 1; exact Nat.zero_le 2
def wX (b : List Bool) : cB := .row 1 ((b.map fun x => [.bool x]).map (List.map .v))
theorem aHT (b : List Bool) (k : Nat) (x : Bool) : ((b.map fun x => [aD.bool x]).map (List.map Cell.v)).set k [.v (.bool x)] = ((b.set k x).map fun x => [aD.bool x]).map (List.map .v) := by rw [List.map_set, List.map_set]; rfl
theorem aLU {b : List Bool} {k : Nat} (h : k < b.length) : b[k]? = some (b.getD k false) := by rw [List.getD_eq_getElem?_getD, List.getElem?_eq_getElem h]; rfl
@[go_sem] def aLV : List Nat := [0, 1, 2, 4, 5, 7, 8, 10, 15, 16, 17, 18, 30, 38, 39, 40, 41]
@[go_sem] def a2M : List Nat := [2]
@[go_sem] def a2N : Marks := fun _ => ([], .nil, [])
theorem needed (t : oD) (ends : List Int) (hc : t.b7.length ≤ 1048576) (hl : ends.length ≤ 1048576) (hr : ∀ x ∈ ends, 0 ≤ x ∧ x < t.b7.length) (hi : ∀ i c, t.b7[i]? = some c → eJ t.zJ i c) : gV Tryz.prog 56 [.agg t.c, ints ends] (eI 1 (fun b => [.bool b]) (qC t.b7 ends)) := by
 rw [oD.aR]
 refine uU 59 aLV a2M a2N mix Tryz.func56 rfl (by kernel_rfl) (by simp) fun h => ?_
 simp -dsimp -implicitDefEqProofs only [go_sem, ↓reduceIte, Tryz.f56]
 refine fun _ => ⟨by decide, Nat.le_refl _, by omega, by omega, fun n hn _ => ?_⟩
 have hrep : (List.map (List.map Cell.v) (List.replicate t.b7.length [aD.bool false])) = ((List.replicate t.b7.length false).map fun x => [aD.bool x]).map (List.map .v) := by simp
 rw [hrep]
 refine r8 (keep := aLV) (ib := a2M) (mk := a2N) mix (by kernel_rfl) (fun k : Nat => [(2, .ip 4 [[I t.zJ, eI 4 bC.c t.b7, eI 2 eC.c t.zK, ints t.aW]] 0 0), (5, .os n 1 0 t.b7.length), (15, ints ends), (16, I ends.length), (17, I k)]) n (fun k => wX (tJ (ends.take k) (List.replicate t.b7.length false))) (fun k => k ≤ ends.length) (fun k => ends.length - k) 0 ⟨by simp [dF, b6], by rw [aG]; rfl, Nat.zero_le _⟩ ?_
 intro k hk
 have hbl := aDU (ends.take k) (List.replicate t.b7.length false)
 rw [List.length_replicate] at hbl
 rcases Nat.lt_or_ge k ends.length with hlt | hge
 ·have ek : ends[k]? = some ends[k] := List.getElem?_eq_getElem hlt
  have hx := hr ends[k] (List.getElem_mem hlt)
  have eb := aLU (b := tJ (ends.take k) (List.replicate t.b7.length false)) (k := ends[k].toNat) (by omega)
  unfold wX
  simp -dsimp -implicitDefEqProofs only [go_sem, ↓reduceIte, Tryz.f56, hlt, ek, aM, eb]
  refine ⟨hx.1, hx.2, k + 1, by rw [IntWalk.i64_in _ (by omega)]; rfl, ?_, by omega, by omega⟩
  rw [List.take_succ_eq_append_getElem hlt, aQY, aHT]
  exact aA.le_refl _
 ·have hk' : k = ends.length := by omega
  subst hk'
  rw [List.take_length] at hbl ⊢
  generalize hB : tJ ends (List.replicate t.b7.length false) = B0 at *
  unfold wX
  simp -dsimp -implicitDefEqProofs only [go_sem, ↓reduceIte, Tryz.f56, Nat.lt_irrefl, Int.lt_irrefl]
  intro _
  rw [aM]
  refine r8 (keep := aLV) (ib := a2M) (mk := a2N) mix (by kernel_rfl) (fun x : Nat × List Bool => [(2, .ip 4 [[I t.zJ, eI 4 bC.c t.b7, eI 2 eC.c t.zK, ints t.aW]] 0 0), (5, .os n 1 0 t.b7.length), (8, I ((x.1 : Int) - 1))]) n (fun x => wX x.2) (fun x => x.1 ≤ t.b7.length ∧ x.2.length = t.b7.length ∧ aB6 t.b7 x.1 x.2 = aB6 t.b7 t.b7.length B0) (fun x => x.1) (t.b7.length, B0) ⟨by simp [dF, b6]; exact IntWalk.i64_in _ (by omega), by rw [aG]; rfl, Nat.le_refl _, hbl, rfl⟩ ?_
  rintro ⟨k, B⟩ ⟨hk, hBl, hT⟩
  simp only at hk hBl hT ⊢
  cases k with
  |zero =>
   unfold wX
   simp -dsimp -implicitDefEqProofs only [go_sem, ↓reduceIte, Tryz.f56]
   refine ⟨fun q => absurd q (by omega), fun _ => ?_⟩
   rw [aM, show qC t.b7 ends = B by rw [qC, hB]; exact hT.symm]
   exact sK (B.map fun x => [.bool x]) hn (aA.le_refl _) _ (by rw [List.length_map, hBl])
  |succ k =>
   have ec : t.b7[k]? = some t.b7[k] := List.getElem?_eq_getElem hk
   have e1 : ((k + 1 : Nat) : Int) - 1 = k := by omega
   have hop := operands t.b7[k]
   have hlt := aQZ (hi k t.b7[k] ec)
   have hol := aUU t.b7[k]
   rw [bC.aR] at hop
   rw [e1]
   unfold wX
   simp -dsimp -implicitDefEqProofs only [go_sem, ↓reduceIte, Tryz.f56, ec, bC.aR]
   refine ⟨hk, ?_⟩
   first | refine aH.mk (hop) ?_ | refine aF.mk (hop) ?_ | refine aH.bY (hop) ?_ | refine aF.mk (bQ.fJ (hop)) ?_
   simp -dsimp -implicitDefEqProofs only [go_sem, ↓reduceIte, Tryz.f56]
   intro _
   rw [aM]
   rw [aB6, aO2 hk] at hT
   generalize opsOf t.b7[k] = ops at *
   refine r8 (keep := aLV) (ib := a2M) (mk := a2N) mix (by kernel_rfl) (fun i : Nat => [(2, .ip 4 [[I t.zJ, eI 4 bC.c t.b7, eI 2 eC.c t.zK, ints t.aW]] 0 0), (5, .os n 1 0 t.b7.length), (8, I (k : Int)), (38, ints ops), (39, I ops.length), (40, I i)]) n (fun i => wX (qB k (ops.take i) B)) (fun i => i ≤ ops.length) (fun i => ops.length - i) 0 ⟨by simp [dF, b6], by rw [aG]; rfl, Nat.zero_le _⟩ ?_
   intro i hi2
   have hsl := aDV k (ops.take i) B
   rcases Nat.lt_or_ge i ops.length with nD | aKZ
   ·have eo : ops[i]? = some ops[i] := List.getElem?_eq_getElem nD
    have hx := hlt ops[i] (List.getElem_mem nD)
    have eb := aLU (b := qB k (ops.take i) B) (k := ops[i].toNat) (by omega)
    have ek := aLU (b := qB k (ops.take i) B) (k := k) (by omega)
    unfold wX
    simp -dsimp -implicitDefEqProofs only [go_sem, ↓reduceIte, Tryz.f56, nD, eo, aM, eb, ek]
    refine ⟨hx.1, by omega, fun hb => ⟨hk, hx.1, by omega, i + 1, by rw [IntWalk.i64_in _ (by omega)]; rfl, ?_, by omega, by omega⟩, fun hb => ⟨hx.1, by omega, i + 1, by rw [IntWalk.i64_in _ (by omega)]; rfl, ?_, by omega, by omega⟩⟩
    ·rw [List.take_succ_eq_append_getElem nD, aHS, aHT, hb, Bool.false_or]
     exact aA.le_refl _
    ·rw [List.take_succ_eq_append_getElem nD, aHS, aHT, hb, Bool.true_or]
     exact aA.le_refl _
   ·have hk2 : i = ops.length := by omega
    subst hk2
    rw [List.take_length] at hsl ⊢
    unfold wX
    simp -dsimp -implicitDefEqProofs only [go_sem, ↓reduceIte, Tryz.f56, Nat.lt_irrefl, Int.lt_irrefl]
    refine ⟨(k, qB k ops B), IntWalk.i64_in _ (by omega), by rw [aM, aM]; exact aA.le_refl _, ⟨by simp only; omega, hsl.trans hBl, hT⟩, by simp only; omega⟩
end Go.Hl
